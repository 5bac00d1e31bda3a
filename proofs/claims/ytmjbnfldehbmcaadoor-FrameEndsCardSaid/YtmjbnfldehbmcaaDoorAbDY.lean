/-
FrameEnds: whatever the arguments, the call of the law returns true, and each argument reads afterwards as it read before. No further condition; the tables of the library are tied to the text of the program.
-/
import Derived.Test.YtmjbnfldehbmcaaDoorAbDV
import Derived.Test.YtmjbnfldehbmcaaDoorCards
import Derived.Test.YtmjbnfldehbmcaaDoorTie
namespace Go.Proofs.YtmjbnfldehbmcaaDoor
theorem frameEnds_card : Rows.FrameEndsCardSaid :=
  Claim7.holds_tied_plain_at .later [] [.data, .data, .data] true (true, "714219db053834e322b845cf33e2274c88ceba9d56ee061ab8c9801b9e608449") false
    frameEnds.over (fun _ h => by cases h) (by kernel_rfl) (fun _ h => by cases h) frameEnds_row_tie rfl ⟨rfl, rfl⟩ (by kernel_rfl) rfl
    (fun f fn hf hfn => by
      obtain rfl : f = 5 := Option.some.inj ((show Tryd.prog.funcNamed "whetstone/whetstonelaw05.FrameEnds" = some 5 by kernel_rfl).symm.trans hf) |>.symm
      obtain rfl : fn = Tryd.f5 := (Option.some.inj (Tryd.func5.symm.trans hfn)).symm
      exact ⟨by kernel_rfl, fun j t ht => by
        rw [Tryd.params5] at ht
        have h3 : t = 25 := by
          rcases j with _ | _ | j
          · simpa using ht.symm
          · simpa using ht.symm
          · simp at ht
        subst h3
        exact (show Tryd.prog.wantsStandIn 25 = false by kernel_rfl)⟩)
    (by kernel_rfl)
#print axioms frameEnds_card
end Go.Proofs.YtmjbnfldehbmcaaDoor
