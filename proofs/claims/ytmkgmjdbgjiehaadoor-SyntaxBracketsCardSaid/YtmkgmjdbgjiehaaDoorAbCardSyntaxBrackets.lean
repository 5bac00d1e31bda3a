/-
The walk over the program's texts, told with what its values say: a part of it. No further condition.
-/
import Derived.Test.YtmkgmjdbgjiehaaDoorAbRowSyntaxBrackets
import Derived.Test.YtmkgmjdbgjiehaaDoorCards
import Derived.Test.YtmkgmjdbgjiehaaDoorTie
namespace Go.Proofs.YtmkgmjdbgjiehaaDoor
theorem syntaxBrackets_card : Rows.SyntaxBracketsCardSaid :=
  Claim7.holds_tied_plain_at .later [] [.data, .data, .data] true (true, "fbc6e3301cf9e36c173d0257224a1aaf99b3381aa5320d49194b47fd0766b859") true
    syntaxBrackets.over (fun _ h => by cases h) (by kernel_rfl) (fun _ h => by cases h) syntaxBrackets_row_tie rfl ⟨rfl, rfl⟩ (by kernel_rfl) rfl
    (fun f fn hf hfn => by
      obtain rfl : f = 5 := Option.some.inj ((show Tryd.prog.funcNamed "whetstone/whetstonelaw09.SyntaxBrackets" = some 5 by kernel_rfl).symm.trans hf) |>.symm
      obtain rfl : fn = Tryd.f5 := (Option.some.inj (Tryd.func5.symm.trans hfn)).symm
      exact ⟨by kernel_rfl, fun j t ht => by
        rw [Tryd.params5] at ht
        rcases j with _ | j
        · obtain rfl : t = 22 := by simpa using ht.symm
          exact (show Tryd.prog.wantsStandIn 22 = false by kernel_rfl)
        · simp at ht⟩)
    (by kernel_rfl)
#print axioms syntaxBrackets_card
end Go.Proofs.YtmkgmjdbgjiehaaDoor
