/-
  DERIVED. GIVEN WITH THE SEED: THE CARDS: each row of YtmjbnfldehbmcaaDoorRows.lean that lists a variable, with what it lists TIED to the program's text (the seventh form; the later family's looks); each row that meets fmt, with fmt's text TOLD by the authors' own Lean function (tested against real Go, not proved from fmt's source: count such statements apart). THE CARD IS WHAT COUNTS. Prove the row's statement (the work); the ties are given (YtmjbnfldehbmcaaDoorTie.lean); close each card by the builder's one call (the guide's Derived/Test/ToyasCard.lean, 'card_holds'). Laid BY PROGRAM, IN A SANDBOX (cutbox-door.mjs). By AI agents, Wed Nov 11 2026. No macro, syntax, notation, axiom, sorry.
-/
import Derived.Test.YtmjbnfldehbmcaaDoorRows
import GoSem.ClaimSeven
namespace Go.Proofs.YtmjbnfldehbmcaaDoor
namespace Rows

/-- THE TIED CARD OF 'whetstonelaw05.FrameWrites'. -/
def frameWritesCard : Claim7 := { stood := { row := frameWritesRow, standIns := [], harness := (true, "714219db053834e322b845cf33e2274c88ceba9d56ee061ab8c9801b9e608449"), looks := false }, kinds := [], alts := [], laidByText := true, laidKinds := [.data, .data, .data], laidTests := true, laidLooks := .later }
def FrameWritesCardSaid : Prop := Claim7.holds Tryd.pinned (.plain (OpenSpec.ofChange frameWritesSpec)) frameWritesCard

/-- THE TIED CARD OF 'whetstonelaw05.FrameSkips'. -/
def frameSkipsCard : Claim7 := { stood := { row := frameSkipsRow, standIns := [], harness := (true, "714219db053834e322b845cf33e2274c88ceba9d56ee061ab8c9801b9e608449"), looks := false }, kinds := [], alts := [], laidByText := true, laidKinds := [.data, .data, .data], laidTests := true, laidLooks := .later }
def FrameSkipsCardSaid : Prop := Claim7.holds Tryd.pinned (.plain (OpenSpec.ofChange frameSkipsSpec)) frameSkipsCard

/-- THE TIED CARD OF 'whetstonelaw05.FrameEnds'. -/
def frameEndsCard : Claim7 := { stood := { row := frameEndsRow, standIns := [], harness := (true, "714219db053834e322b845cf33e2274c88ceba9d56ee061ab8c9801b9e608449"), looks := false }, kinds := [], alts := [], laidByText := true, laidKinds := [.data, .data, .data], laidTests := true, laidLooks := .later }
def FrameEndsCardSaid : Prop := Claim7.holds Tryd.pinned (.plain (OpenSpec.ofChange frameEndsSpec)) frameEndsCard

/-- THE SECOND FORM's CARD OF 'whetstonelaw05.FrameWrites'. -/
def frameWritesUptoCard : Claim7 := { stood := { row := frameWritesUptoRow, standIns := [], harness := (true, "714219db053834e322b845cf33e2274c88ceba9d56ee061ab8c9801b9e608449"), looks := false }, kinds := [], alts := [], laidByText := true, laidKinds := [.data, .data, .data], laidTests := true, laidLooks := .later }
def FrameWritesUptoCardSaid : Prop := Claim7.holds Tryd.pinned (.plain (OpenSpec.upto frameWritesSpec)) frameWritesUptoCard

/-- THE SECOND FORM's CARD OF 'whetstonelaw05.FrameSkips'. -/
def frameSkipsUptoCard : Claim7 := { stood := { row := frameSkipsUptoRow, standIns := [], harness := (true, "714219db053834e322b845cf33e2274c88ceba9d56ee061ab8c9801b9e608449"), looks := false }, kinds := [], alts := [], laidByText := true, laidKinds := [.data, .data, .data], laidTests := true, laidLooks := .later }
def FrameSkipsUptoCardSaid : Prop := Claim7.holds Tryd.pinned (.plain (OpenSpec.upto frameSkipsSpec)) frameSkipsUptoCard

/-- THE SECOND FORM's CARD OF 'whetstonelaw05.FrameEnds'. -/
def frameEndsUptoCard : Claim7 := { stood := { row := frameEndsUptoRow, standIns := [], harness := (true, "714219db053834e322b845cf33e2274c88ceba9d56ee061ab8c9801b9e608449"), looks := false }, kinds := [], alts := [], laidByText := true, laidKinds := [.data, .data, .data], laidTests := true, laidLooks := .later }
def FrameEndsUptoCardSaid : Prop := Claim7.holds Tryd.pinned (.plain (OpenSpec.upto frameEndsSpec)) frameEndsUptoCard
end Rows
end Go.Proofs.YtmjbnfldehbmcaaDoor
