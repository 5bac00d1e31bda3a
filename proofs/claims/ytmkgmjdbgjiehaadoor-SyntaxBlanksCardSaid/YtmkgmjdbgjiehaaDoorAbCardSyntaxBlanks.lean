/-
The walk over the program's texts, told with what its values say: a part of it. No further condition.
-/
import Derived.Test.YtmkgmjdbgjiehaaDoorAbRowSyntaxBlanks
import Derived.Test.YtmkgmjdbgjiehaaDoorCards
import Derived.Test.YtmkgmjdbgjiehaaDoorTie
namespace Go.Proofs.YtmkgmjdbgjiehaaDoor
theorem syntaxBlanks_card : Rows.SyntaxBlanksCardSaid :=
  Claim7.holds_tied_plain_at .later [] [.data, .data, .data] true (true, "fbc6e3301cf9e36c173d0257224a1aaf99b3381aa5320d49194b47fd0766b859") true
    syntaxBlanks.over (fun _ h => by cases h) (by kernel_rfl) (fun _ h => by cases h) syntaxBlanks_row_tie rfl ⟨rfl, rfl⟩ (by kernel_rfl) rfl
    (fun f fn hf hfn => by
      obtain rfl : f = 4 := Option.some.inj ((show Tryd.prog.funcNamed "whetstone/whetstonelaw09.SyntaxBlanks" = some 4 by kernel_rfl).symm.trans hf) |>.symm
      obtain rfl : fn = Tryd.f4 := (Option.some.inj (Tryd.func4.symm.trans hfn)).symm
      exact ⟨by kernel_rfl, fun j t ht => by
        rw [Tryd.params4] at ht
        rcases j with _ | _ | j
        · obtain rfl : t = 22 := by simpa using ht.symm
          exact (show Tryd.prog.wantsStandIn 22 = false by kernel_rfl)
        · obtain rfl : t = 43 := by simpa using ht.symm
          exact (show Tryd.prog.wantsStandIn 43 = false by kernel_rfl)
        · simp at ht⟩)
    (by kernel_rfl)
#print axioms syntaxBlanks_card
end Go.Proofs.YtmkgmjdbgjiehaaDoor
