/-
The walk over the program's texts, told with what its values say: a part of it. No further condition.
-/
import Derived.Test.YtmjbnfldehbmcaaDoorAbRowFrameSkips
import Derived.Test.YtmjbnfldehbmcaaDoorCards
import Derived.Test.YtmjbnfldehbmcaaDoorTie
namespace Go.Proofs.YtmjbnfldehbmcaaDoor
theorem frameSkips_card : Rows.FrameSkipsCardSaid :=
  Claim7.holds_tied_plain_at .later [] [.data, .data, .data] true (true, "714219db053834e322b845cf33e2274c88ceba9d56ee061ab8c9801b9e608449") false
    frameSkips.over (fun _ h => by cases h) (by kernel_rfl) (fun _ h => by cases h) frameSkips_row_tie rfl ⟨rfl, rfl⟩ (by kernel_rfl) rfl
    (fun f fn hf hfn => by
      obtain rfl : f = 4 := Option.some.inj ((show Tryd.prog.funcNamed "whetstone/whetstonelaw05.FrameSkips" = some 4 by kernel_rfl).symm.trans hf) |>.symm
      obtain rfl : fn = Tryd.f4 := (Option.some.inj (Tryd.func4.symm.trans hfn)).symm
      exact ⟨by kernel_rfl, fun j t ht => by
        rw [Tryd.params4] at ht
        rcases j with _ | _ | _ | j
        · obtain rfl : t = 3 := by simpa using ht.symm
          exact (show Tryd.prog.wantsStandIn 3 = false by kernel_rfl)
        · obtain rfl : t = 3 := by simpa using ht.symm
          exact (show Tryd.prog.wantsStandIn 3 = false by kernel_rfl)
        · obtain rfl : t = 25 := by simpa using ht.symm
          exact (show Tryd.prog.wantsStandIn 25 = false by kernel_rfl)
        · simp at ht⟩)
    (by kernel_rfl)
#print axioms frameSkips_card
end Go.Proofs.YtmjbnfldehbmcaaDoor
