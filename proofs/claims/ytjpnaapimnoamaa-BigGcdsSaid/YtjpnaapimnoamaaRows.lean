/-
  No cell of these rows narrows 'for every input' (looked for: loops, veiled, ifaces, maps, wideKeys, modest, calm, conditions, laid).
  DERIVED. THE GIVEN ROWS OF THIS SEAT. 9 by the template 'for every input the law returns true; each argument reads behind the call as it read before'; 0 by the template 'total and deterministic' (their statements: YtjpnaapimnoamaaTotals.lean).
  GIVEN WITH THE SEED: the statements are not yours to turn. If you find one false, say at which input.
  Laid BY PROGRAM, IN A SANDBOX (cutbox-rows.mjs): the forced cells as the released guide's own fill.sh prints them over the translation 98543467775a9af0… (all of the seat's roots in one cut). By AI agents, Wed Nov 11 2026. No macro, syntax, notation, axiom, sorry.
-/
import Derived.Test.YtjpnaapimnoamaaChecked
import GoSem.Claim
import GoSem.ClaimJoined
import GoSem.ClaimMapViews
import Derived.JoinedTies
import Derived.KernelRfl
namespace Go.Proofs.Ytjpnaapimnoamaa
/- THE CELL 'sum', in the pinned program and in every row, IS THE sha256 OF THE DUMP (.gsa) THAT YtjpnaapimnoamaaProg.lean LOADS. Nothing in Lean hashes anything: it is a label: what it is worth is what the hold of that sum in a sandbox is worth. -/
noncomputable def Try.pinned : Pinned := { name := "ytjpnaapimnoamaa", sum := "98543467775a9af0b8128129353a5f6fb673803983df1d79f11aee68536d3219", checked := Try.checked }
namespace Rows
def none {H : Type} : Left H := { results := [], args := [] }

/-- 'whetstonelaw02.BigTexts': WHATEVER THE INPUT: true; the input reads as it did. -/
def bigTextsSpec : ChangeSpec := { name := "bigTexts", fn := fun _ => fun
  | [d1, d2] => { results := [.lit (.bool true)], args := [d1, d2] }
  | _ => none }
def bigTextsRow : OpenClaim := { program := "ytjpnaapimnoamaa", sum := "98543467775a9af0b8128129353a5f6fb673803983df1d79f11aee68536d3219", func := "whetstone/whetstonelaw02.BigTexts", spec := "bigTexts", unfollowed := true, recurses := true, apart := false }
def BigTextsSaid : Prop := bigTextsRow.holds Try.pinned (OpenSpec.ofChange bigTextsSpec)

/-- ITS FALSE NEIGHBOUR: 'it returns false'. Refute it at one input. -/
def bigTextsWrong : ChangeSpec := { name := "bigTexts", fn := fun _ => fun
  | [d1, d2] => { results := [.lit (.bool false)], args := [d1, d2] }
  | _ => none }
def BigTextsWrongFalsely : Prop := bigTextsRow.holds Try.pinned (OpenSpec.ofChange bigTextsWrong)

/-- 'whetstonelaw02.BigSums': WHATEVER THE INPUT: true; the input reads as it did. -/
def bigSumsSpec : ChangeSpec := { name := "bigSums", fn := fun _ => fun
  | [d1, d2] => { results := [.lit (.bool true)], args := [d1, d2] }
  | _ => none }
def bigSumsRow : OpenClaim := { program := "ytjpnaapimnoamaa", sum := "98543467775a9af0b8128129353a5f6fb673803983df1d79f11aee68536d3219", func := "whetstone/whetstonelaw02.BigSums", spec := "bigSums", unfollowed := true, recurses := true, apart := false }
def BigSumsSaid : Prop := bigSumsRow.holds Try.pinned (OpenSpec.ofChange bigSumsSpec)

/-- ITS FALSE NEIGHBOUR: 'it returns false'. Refute it at one input. -/
def bigSumsWrong : ChangeSpec := { name := "bigSums", fn := fun _ => fun
  | [d1, d2] => { results := [.lit (.bool false)], args := [d1, d2] }
  | _ => none }
def BigSumsWrongFalsely : Prop := bigSumsRow.holds Try.pinned (OpenSpec.ofChange bigSumsWrong)

/-- 'whetstonelaw02.BigQuotients': WHATEVER THE INPUT: true; the input reads as it did. -/
def bigQuotientsSpec : ChangeSpec := { name := "bigQuotients", fn := fun _ => fun
  | [d1, d2] => { results := [.lit (.bool true)], args := [d1, d2] }
  | _ => none }
def bigQuotientsRow : OpenClaim := { program := "ytjpnaapimnoamaa", sum := "98543467775a9af0b8128129353a5f6fb673803983df1d79f11aee68536d3219", func := "whetstone/whetstonelaw02.BigQuotients", spec := "bigQuotients", unfollowed := true, recurses := true, apart := false }
def BigQuotientsSaid : Prop := bigQuotientsRow.holds Try.pinned (OpenSpec.ofChange bigQuotientsSpec)

/-- ITS FALSE NEIGHBOUR: 'it returns false'. Refute it at one input. -/
def bigQuotientsWrong : ChangeSpec := { name := "bigQuotients", fn := fun _ => fun
  | [d1, d2] => { results := [.lit (.bool false)], args := [d1, d2] }
  | _ => none }
def BigQuotientsWrongFalsely : Prop := bigQuotientsRow.holds Try.pinned (OpenSpec.ofChange bigQuotientsWrong)

/-- 'whetstonelaw02.BigRings': WHATEVER THE INPUT: true; the input reads as it did. -/
def bigRingsSpec : ChangeSpec := { name := "bigRings", fn := fun _ => fun
  | [d1, d2, d3] => { results := [.lit (.bool true)], args := [d1, d2, d3] }
  | _ => none }
def bigRingsRow : OpenClaim := { program := "ytjpnaapimnoamaa", sum := "98543467775a9af0b8128129353a5f6fb673803983df1d79f11aee68536d3219", func := "whetstone/whetstonelaw02.BigRings", spec := "bigRings", unfollowed := true, recurses := true, apart := false }
def BigRingsSaid : Prop := bigRingsRow.holds Try.pinned (OpenSpec.ofChange bigRingsSpec)

/-- ITS FALSE NEIGHBOUR: 'it returns false'. Refute it at one input. -/
def bigRingsWrong : ChangeSpec := { name := "bigRings", fn := fun _ => fun
  | [d1, d2, d3] => { results := [.lit (.bool false)], args := [d1, d2, d3] }
  | _ => none }
def BigRingsWrongFalsely : Prop := bigRingsRow.holds Try.pinned (OpenSpec.ofChange bigRingsWrong)

/-- 'whetstonelaw02.BigProducts': WHATEVER THE INPUT: true; the input reads as it did. -/
def bigProductsSpec : ChangeSpec := { name := "bigProducts", fn := fun _ => fun
  | [d1, d2] => { results := [.lit (.bool true)], args := [d1, d2] }
  | _ => none }
def bigProductsRow : OpenClaim := { program := "ytjpnaapimnoamaa", sum := "98543467775a9af0b8128129353a5f6fb673803983df1d79f11aee68536d3219", func := "whetstone/whetstonelaw02.BigProducts", spec := "bigProducts", unfollowed := true, recurses := true, apart := false }
def BigProductsSaid : Prop := bigProductsRow.holds Try.pinned (OpenSpec.ofChange bigProductsSpec)

/-- ITS FALSE NEIGHBOUR: 'it returns false'. Refute it at one input. -/
def bigProductsWrong : ChangeSpec := { name := "bigProducts", fn := fun _ => fun
  | [d1, d2] => { results := [.lit (.bool false)], args := [d1, d2] }
  | _ => none }
def BigProductsWrongFalsely : Prop := bigProductsRow.holds Try.pinned (OpenSpec.ofChange bigProductsWrong)

/-- 'whetstonelaw02.BigSmalls': WHATEVER THE INPUT: true; the input reads as it did. -/
def bigSmallsSpec : ChangeSpec := { name := "bigSmalls", fn := fun _ => fun
  | [d1, d2] => { results := [.lit (.bool true)], args := [d1, d2] }
  | _ => none }
def bigSmallsRow : OpenClaim := { program := "ytjpnaapimnoamaa", sum := "98543467775a9af0b8128129353a5f6fb673803983df1d79f11aee68536d3219", func := "whetstone/whetstonelaw02.BigSmalls", spec := "bigSmalls", unfollowed := true, recurses := true, apart := false }
def BigSmallsSaid : Prop := bigSmallsRow.holds Try.pinned (OpenSpec.ofChange bigSmallsSpec)

/-- ITS FALSE NEIGHBOUR: 'it returns false'. Refute it at one input. -/
def bigSmallsWrong : ChangeSpec := { name := "bigSmalls", fn := fun _ => fun
  | [d1, d2] => { results := [.lit (.bool false)], args := [d1, d2] }
  | _ => none }
def BigSmallsWrongFalsely : Prop := bigSmallsRow.holds Try.pinned (OpenSpec.ofChange bigSmallsWrong)

/-- 'whetstonelaw02.BigRests': WHATEVER THE INPUT: true; the input reads as it did. -/
def bigRestsSpec : ChangeSpec := { name := "bigRests", fn := fun _ => fun
  | [d1, d2] => { results := [.lit (.bool true)], args := [d1, d2] }
  | _ => none }
def bigRestsRow : OpenClaim := { program := "ytjpnaapimnoamaa", sum := "98543467775a9af0b8128129353a5f6fb673803983df1d79f11aee68536d3219", func := "whetstone/whetstonelaw02.BigRests", spec := "bigRests", unfollowed := true, recurses := true, apart := false }
def BigRestsSaid : Prop := bigRestsRow.holds Try.pinned (OpenSpec.ofChange bigRestsSpec)

/-- ITS FALSE NEIGHBOUR: 'it returns false'. Refute it at one input. -/
def bigRestsWrong : ChangeSpec := { name := "bigRests", fn := fun _ => fun
  | [d1, d2] => { results := [.lit (.bool false)], args := [d1, d2] }
  | _ => none }
def BigRestsWrongFalsely : Prop := bigRestsRow.holds Try.pinned (OpenSpec.ofChange bigRestsWrong)

/-- 'whetstonelaw02.BigChoices': WHATEVER THE INPUT: true; the input reads as it did. -/
def bigChoicesSpec : ChangeSpec := { name := "bigChoices", fn := fun _ => fun
  | [d1, d2] => { results := [.lit (.bool true)], args := [d1, d2] }
  | _ => none }
def bigChoicesRow : OpenClaim := { program := "ytjpnaapimnoamaa", sum := "98543467775a9af0b8128129353a5f6fb673803983df1d79f11aee68536d3219", func := "whetstone/whetstonelaw02.BigChoices", spec := "bigChoices", unfollowed := true, recurses := true, apart := false }
def BigChoicesSaid : Prop := bigChoicesRow.holds Try.pinned (OpenSpec.ofChange bigChoicesSpec)

/-- ITS FALSE NEIGHBOUR: 'it returns false'. Refute it at one input. -/
def bigChoicesWrong : ChangeSpec := { name := "bigChoices", fn := fun _ => fun
  | [d1, d2] => { results := [.lit (.bool false)], args := [d1, d2] }
  | _ => none }
def BigChoicesWrongFalsely : Prop := bigChoicesRow.holds Try.pinned (OpenSpec.ofChange bigChoicesWrong)

/-- 'whetstonelaw02.BigGcds': WHATEVER THE INPUT: true; the input reads as it did. -/
def bigGcdsSpec : ChangeSpec := { name := "bigGcds", fn := fun _ => fun
  | [d1, d2, d3] => { results := [.lit (.bool true)], args := [d1, d2, d3] }
  | _ => none }
def bigGcdsRow : OpenClaim := { program := "ytjpnaapimnoamaa", sum := "98543467775a9af0b8128129353a5f6fb673803983df1d79f11aee68536d3219", func := "whetstone/whetstonelaw02.BigGcds", spec := "bigGcds", unfollowed := true, recurses := true, apart := false }
def BigGcdsSaid : Prop := bigGcdsRow.holds Try.pinned (OpenSpec.ofChange bigGcdsSpec)

/-- ITS FALSE NEIGHBOUR: 'it returns false'. Refute it at one input. -/
def bigGcdsWrong : ChangeSpec := { name := "bigGcds", fn := fun _ => fun
  | [d1, d2, d3] => { results := [.lit (.bool false)], args := [d1, d2, d3] }
  | _ => none }
def BigGcdsWrongFalsely : Prop := bigGcdsRow.holds Try.pinned (OpenSpec.ofChange bigGcdsWrong)

/- THE SECOND FORM. 'bulk': how many values and letters a reading holds, each counted each time it is reached (what is shared counts as often as it is met; a slice's spare places count too). A statement '..UptoSaid' is the law's where the arguments, and the package variables that the reading takes, are together of bulk at most 1048576: NARROWER than '..Said'. Prove '..Said' where nothing that the law and all that it calls make is longer than what came in: it says more and counts as full. Else prove '..UptoSaid'. A law counts once. -/
mutual
def uptoBulk {H : Type} : DataW H → Nat
  | .lit (.string bytes) => bytes.length + 1
  | .lit _ => 1
  | .nil => 1
  | .ptr d => uptoBulk d + 1
  | .slice elems spare => uptoBulkAll elems + uptoBulkAll spare + 1
  | .agg parts => uptoBulkAll parts + 1
  | .iface _ d => uptoBulk d + 1
  | .map entries => uptoBulkEntries entries + 1
  | .held _ => 1
def uptoBulkAll {H : Type} : List (DataW H) → Nat
  | [] => 0
  | d :: r => uptoBulk d + uptoBulkAll r
def uptoBulkEntries {H : Type} : List (Lit × DataW H) → Nat
  | [] => 0
  | x :: r => uptoBulkEntry x + uptoBulkEntries r
def uptoBulkEntry {H : Type} : Lit × DataW H → Nat
  | (.string bytes, d) => bytes.length + uptoBulk d + 1
  | (_, d) => uptoBulk d + 1
 end
def uptoSmall : (H : Type) → List (DataW H) → Bool := fun _ ds => decide (uptoBulkAll ds ≤ 1048576)
def OpenSpec.upto (s : _root_.Go.ChangeSpec) : _root_.Go.OpenSpec := { _root_.Go.OpenSpec.ofChange s with cond := some uptoSmall }

/-- 'whetstonelaw02.BigTexts', WHERE WHAT IT READS IS OF BULK AT MOST 1048576: true; the input reads as it did. -/
def bigTextsUptoRow : OpenClaim := { program := "ytjpnaapimnoamaa", sum := "98543467775a9af0b8128129353a5f6fb673803983df1d79f11aee68536d3219", func := "whetstone/whetstonelaw02.BigTexts", spec := "bigTexts", unfollowed := true, recurses := true, apart := false, narrowed := true }
def BigTextsUptoSaid : Prop := bigTextsUptoRow.holds Try.pinned (OpenSpec.upto bigTextsSpec)

/-- 'whetstonelaw02.BigSums', WHERE WHAT IT READS IS OF BULK AT MOST 1048576: true; the input reads as it did. -/
def bigSumsUptoRow : OpenClaim := { program := "ytjpnaapimnoamaa", sum := "98543467775a9af0b8128129353a5f6fb673803983df1d79f11aee68536d3219", func := "whetstone/whetstonelaw02.BigSums", spec := "bigSums", unfollowed := true, recurses := true, apart := false, narrowed := true }
def BigSumsUptoSaid : Prop := bigSumsUptoRow.holds Try.pinned (OpenSpec.upto bigSumsSpec)

/-- 'whetstonelaw02.BigQuotients', WHERE WHAT IT READS IS OF BULK AT MOST 1048576: true; the input reads as it did. -/
def bigQuotientsUptoRow : OpenClaim := { program := "ytjpnaapimnoamaa", sum := "98543467775a9af0b8128129353a5f6fb673803983df1d79f11aee68536d3219", func := "whetstone/whetstonelaw02.BigQuotients", spec := "bigQuotients", unfollowed := true, recurses := true, apart := false, narrowed := true }
def BigQuotientsUptoSaid : Prop := bigQuotientsUptoRow.holds Try.pinned (OpenSpec.upto bigQuotientsSpec)

/-- 'whetstonelaw02.BigRings', WHERE WHAT IT READS IS OF BULK AT MOST 1048576: true; the input reads as it did. -/
def bigRingsUptoRow : OpenClaim := { program := "ytjpnaapimnoamaa", sum := "98543467775a9af0b8128129353a5f6fb673803983df1d79f11aee68536d3219", func := "whetstone/whetstonelaw02.BigRings", spec := "bigRings", unfollowed := true, recurses := true, apart := false, narrowed := true }
def BigRingsUptoSaid : Prop := bigRingsUptoRow.holds Try.pinned (OpenSpec.upto bigRingsSpec)

/-- 'whetstonelaw02.BigProducts', WHERE WHAT IT READS IS OF BULK AT MOST 1048576: true; the input reads as it did. -/
def bigProductsUptoRow : OpenClaim := { program := "ytjpnaapimnoamaa", sum := "98543467775a9af0b8128129353a5f6fb673803983df1d79f11aee68536d3219", func := "whetstone/whetstonelaw02.BigProducts", spec := "bigProducts", unfollowed := true, recurses := true, apart := false, narrowed := true }
def BigProductsUptoSaid : Prop := bigProductsUptoRow.holds Try.pinned (OpenSpec.upto bigProductsSpec)

/-- 'whetstonelaw02.BigSmalls', WHERE WHAT IT READS IS OF BULK AT MOST 1048576: true; the input reads as it did. -/
def bigSmallsUptoRow : OpenClaim := { program := "ytjpnaapimnoamaa", sum := "98543467775a9af0b8128129353a5f6fb673803983df1d79f11aee68536d3219", func := "whetstone/whetstonelaw02.BigSmalls", spec := "bigSmalls", unfollowed := true, recurses := true, apart := false, narrowed := true }
def BigSmallsUptoSaid : Prop := bigSmallsUptoRow.holds Try.pinned (OpenSpec.upto bigSmallsSpec)

/-- 'whetstonelaw02.BigRests', WHERE WHAT IT READS IS OF BULK AT MOST 1048576: true; the input reads as it did. -/
def bigRestsUptoRow : OpenClaim := { program := "ytjpnaapimnoamaa", sum := "98543467775a9af0b8128129353a5f6fb673803983df1d79f11aee68536d3219", func := "whetstone/whetstonelaw02.BigRests", spec := "bigRests", unfollowed := true, recurses := true, apart := false, narrowed := true }
def BigRestsUptoSaid : Prop := bigRestsUptoRow.holds Try.pinned (OpenSpec.upto bigRestsSpec)

/-- 'whetstonelaw02.BigChoices', WHERE WHAT IT READS IS OF BULK AT MOST 1048576: true; the input reads as it did. -/
def bigChoicesUptoRow : OpenClaim := { program := "ytjpnaapimnoamaa", sum := "98543467775a9af0b8128129353a5f6fb673803983df1d79f11aee68536d3219", func := "whetstone/whetstonelaw02.BigChoices", spec := "bigChoices", unfollowed := true, recurses := true, apart := false, narrowed := true }
def BigChoicesUptoSaid : Prop := bigChoicesUptoRow.holds Try.pinned (OpenSpec.upto bigChoicesSpec)

/-- 'whetstonelaw02.BigGcds', WHERE WHAT IT READS IS OF BULK AT MOST 1048576: true; the input reads as it did. -/
def bigGcdsUptoRow : OpenClaim := { program := "ytjpnaapimnoamaa", sum := "98543467775a9af0b8128129353a5f6fb673803983df1d79f11aee68536d3219", func := "whetstone/whetstonelaw02.BigGcds", spec := "bigGcds", unfollowed := true, recurses := true, apart := false, narrowed := true }
def BigGcdsUptoSaid : Prop := bigGcdsUptoRow.holds Try.pinned (OpenSpec.upto bigGcdsSpec)

end Rows
end Go.Proofs.Ytjpnaapimnoamaa
