/-
The walk over the program's texts, told with what its values say: a part of it. No further condition.
-/
import Derived.Test.YtmjbnfldehbmcaaDoorAbRowFrameWrites
import Derived.Test.YtmjbnfldehbmcaaDoorCards
import Derived.Test.YtmjbnfldehbmcaaDoorTie
namespace Go.Proofs.YtmjbnfldehbmcaaDoor
theorem frameWrites_card : Rows.FrameWritesCardSaid :=
  Claim7.holds_tied_plain_at .later [] [.data, .data, .data] true (true, "714219db053834e322b845cf33e2274c88ceba9d56ee061ab8c9801b9e608449") false
    frameWrites.over (fun _ h => by cases h) (by kernel_rfl) (fun _ h => by cases h) frameWrites_row_tie rfl ⟨rfl, rfl⟩ (by kernel_rfl) rfl
    (fun f fn hf hfn => by
      obtain rfl : f = 3 := Option.some.inj ((show Tryd.prog.funcNamed "whetstone/whetstonelaw05.FrameWrites" = some 3 by kernel_rfl).symm.trans hf) |>.symm
      obtain rfl : fn = Tryd.f3 := (Option.some.inj (Tryd.func3.symm.trans hfn)).symm
      exact ⟨by kernel_rfl, fun j t ht => by
        rw [Tryd.params3] at ht
        rcases j with _ | j
        · obtain rfl : t = 22 := by simpa using ht.symm
          exact (show Tryd.prog.wantsStandIn 22 = false by kernel_rfl)
        · simp at ht⟩)
    (by kernel_rfl)
#print axioms frameWrites_card
end Go.Proofs.YtmjbnfldehbmcaaDoor
