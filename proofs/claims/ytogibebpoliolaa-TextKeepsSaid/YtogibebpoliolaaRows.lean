/-
  No cell of these rows narrows 'for every input' (looked for: loops, veiled, ifaces, maps, wideKeys, modest, calm, conditions, laid).
  DERIVED. THE GIVEN ROWS OF THIS SEAT. 5 by the template 'for every input the law returns true; each argument reads behind the call as it read before'; 0 by the template 'total and deterministic' (their statements: YtogibebpoliolaaTotals.lean).
  GIVEN WITH THE SEED: the statements are not yours to turn. If you find one false, say at which input.
  Laid BY PROGRAM, IN A SANDBOX (cutbox-rows.mjs): the forced cells as the released guide's own fill.sh prints them over the translation d0e55cddefda0d5d… (all of the seat's roots in one cut). By AI agents, Wed Nov 11 2026. No macro, syntax, notation, axiom, sorry.
-/
import Derived.Test.YtogibebpoliolaaChecked
import GoSem.Claim
import GoSem.ClaimJoined
import GoSem.ClaimMapViews
import Derived.JoinedTies
import Derived.KernelRfl
namespace Go.Proofs.Ytogibebpoliolaa
/- THE CELL 'sum', in the pinned program and in every row, IS THE sha256 OF THE DUMP (.gsa) THAT YtogibebpoliolaaProg.lean LOADS. Nothing in Lean hashes anything: it is a label: what it is worth is what the hold of that sum in a sandbox is worth. -/
noncomputable def Try.pinned : Pinned := { name := "ytogibebpoliolaa", sum := "d0e55cddefda0d5d211413a85181690a035c0909115a24b4976213b09f457db9", checked := Try.checked }
namespace Rows
def none {H : Type} : Left H := { results := [], args := [] }

/-- 'whetstonelaw07.TextApplies': WHATEVER THE INPUT: true; the input reads as it did. -/
def textAppliesSpec : ChangeSpec := { name := "textApplies", fn := fun _ => fun
  | [d1, d2, d3] => { results := [.lit (.bool true)], args := [d1, d2, d3] }
  | _ => none }
def textAppliesRow : OpenClaim := { program := "ytogibebpoliolaa", sum := "d0e55cddefda0d5d211413a85181690a035c0909115a24b4976213b09f457db9", func := "whetstone/whetstonelaw07.TextApplies", spec := "textApplies", unfollowed := true, recurses := true, apart := false }
def TextAppliesSaid : Prop := textAppliesRow.holds Try.pinned (OpenSpec.ofChange textAppliesSpec)

/-- ITS FALSE NEIGHBOUR: 'it returns false'. Refute it at one input. -/
def textAppliesWrong : ChangeSpec := { name := "textApplies", fn := fun _ => fun
  | [d1, d2, d3] => { results := [.lit (.bool false)], args := [d1, d2, d3] }
  | _ => none }
def TextAppliesWrongFalsely : Prop := textAppliesRow.holds Try.pinned (OpenSpec.ofChange textAppliesWrong)

/-- 'whetstonelaw07.TextTwice': WHATEVER THE INPUT: true; the input reads as it did. -/
def textTwiceSpec : ChangeSpec := { name := "textTwice", fn := fun _ => fun
  | [d1, d2, d3] => { results := [.lit (.bool true)], args := [d1, d2, d3] }
  | _ => none }
def textTwiceRow : OpenClaim := { program := "ytogibebpoliolaa", sum := "d0e55cddefda0d5d211413a85181690a035c0909115a24b4976213b09f457db9", func := "whetstone/whetstonelaw07.TextTwice", spec := "textTwice", unfollowed := true, recurses := true, apart := false }
def TextTwiceSaid : Prop := textTwiceRow.holds Try.pinned (OpenSpec.ofChange textTwiceSpec)

/-- ITS FALSE NEIGHBOUR: 'it returns false'. Refute it at one input. -/
def textTwiceWrong : ChangeSpec := { name := "textTwice", fn := fun _ => fun
  | [d1, d2, d3] => { results := [.lit (.bool false)], args := [d1, d2, d3] }
  | _ => none }
def TextTwiceWrongFalsely : Prop := textTwiceRow.holds Try.pinned (OpenSpec.ofChange textTwiceWrong)

/-- 'whetstonelaw07.TextKeeps': WHATEVER THE INPUT: true; the input reads as it did. -/
def textKeepsSpec : ChangeSpec := { name := "textKeeps", fn := fun _ => fun
  | [d] => { results := [.lit (.bool true)], args := [d] }
  | _ => none }
def textKeepsRow : OpenClaim := { program := "ytogibebpoliolaa", sum := "d0e55cddefda0d5d211413a85181690a035c0909115a24b4976213b09f457db9", func := "whetstone/whetstonelaw07.TextKeeps", spec := "textKeeps", unfollowed := true, recurses := true, apart := false }
def TextKeepsSaid : Prop := textKeepsRow.holds Try.pinned (OpenSpec.ofChange textKeepsSpec)

/-- ITS FALSE NEIGHBOUR: 'it returns false'. Refute it at one input. -/
def textKeepsWrong : ChangeSpec := { name := "textKeeps", fn := fun _ => fun
  | [d] => { results := [.lit (.bool false)], args := [d] }
  | _ => none }
def TextKeepsWrongFalsely : Prop := textKeepsRow.holds Try.pinned (OpenSpec.ofChange textKeepsWrong)

/-- 'whetstonelaw07.TextOpens': WHATEVER THE INPUT: true; the input reads as it did. -/
def textOpensSpec : ChangeSpec := { name := "textOpens", fn := fun _ => fun
  | [d1, d2] => { results := [.lit (.bool true)], args := [d1, d2] }
  | _ => none }
def textOpensRow : OpenClaim := { program := "ytogibebpoliolaa", sum := "d0e55cddefda0d5d211413a85181690a035c0909115a24b4976213b09f457db9", func := "whetstone/whetstonelaw07.TextOpens", spec := "textOpens", unfollowed := true, recurses := true, apart := false }
def TextOpensSaid : Prop := textOpensRow.holds Try.pinned (OpenSpec.ofChange textOpensSpec)

/-- ITS FALSE NEIGHBOUR: 'it returns false'. Refute it at one input. -/
def textOpensWrong : ChangeSpec := { name := "textOpens", fn := fun _ => fun
  | [d1, d2] => { results := [.lit (.bool false)], args := [d1, d2] }
  | _ => none }
def TextOpensWrongFalsely : Prop := textOpensRow.holds Try.pinned (OpenSpec.ofChange textOpensWrong)

/-- 'whetstonelaw07.TextPlaces': WHATEVER THE INPUT: true; the input reads as it did. -/
def textPlacesSpec : ChangeSpec := { name := "textPlaces", fn := fun _ => fun
  | [d1, d2, d3] => { results := [.lit (.bool true)], args := [d1, d2, d3] }
  | _ => none }
def textPlacesRow : OpenClaim := { program := "ytogibebpoliolaa", sum := "d0e55cddefda0d5d211413a85181690a035c0909115a24b4976213b09f457db9", func := "whetstone/whetstonelaw07.TextPlaces", spec := "textPlaces", unfollowed := true, recurses := true, apart := false }
def TextPlacesSaid : Prop := textPlacesRow.holds Try.pinned (OpenSpec.ofChange textPlacesSpec)

/-- ITS FALSE NEIGHBOUR: 'it returns false'. Refute it at one input. -/
def textPlacesWrong : ChangeSpec := { name := "textPlaces", fn := fun _ => fun
  | [d1, d2, d3] => { results := [.lit (.bool false)], args := [d1, d2, d3] }
  | _ => none }
def TextPlacesWrongFalsely : Prop := textPlacesRow.holds Try.pinned (OpenSpec.ofChange textPlacesWrong)

/- THE SECOND FORM. 'bulk': how many values and letters a reading holds, each counted each time it is reached (what is shared counts as often as it is met; a slice's spare places count too). A statement '..UptoSaid' is the law's where the arguments, and the package variables that the reading takes, are together of bulk at most 1048576: NARROWER than '..Said'. Prove '..Said' where nothing that the law and all that it calls make is longer than what came in: it says more and counts as full. Else prove '..UptoSaid'. A law counts once. -/
mutual
def uptoBulk {H : Type} : DataW H → Nat
  | .lit (.string bytes) => bytes.length + 1
  | .lit _ => 1
  | .nil => 1
  | .ptr d => uptoBulk d + 1
  | .slice elems spare => uptoBulkAll elems + uptoBulkAll spare + 1
  | .agg parts => uptoBulkAll parts + 1
  | .iface _ d => uptoBulk d + 1
  | .map entries => uptoBulkEntries entries + 1
  | .held _ => 1
def uptoBulkAll {H : Type} : List (DataW H) → Nat
  | [] => 0
  | d :: r => uptoBulk d + uptoBulkAll r
def uptoBulkEntries {H : Type} : List (Lit × DataW H) → Nat
  | [] => 0
  | x :: r => uptoBulkEntry x + uptoBulkEntries r
def uptoBulkEntry {H : Type} : Lit × DataW H → Nat
  | (.string bytes, d) => bytes.length + uptoBulk d + 1
  | (_, d) => uptoBulk d + 1
 end
def uptoSmall : (H : Type) → List (DataW H) → Bool := fun _ ds => decide (uptoBulkAll ds ≤ 1048576)
def OpenSpec.upto (s : _root_.Go.ChangeSpec) : _root_.Go.OpenSpec := { _root_.Go.OpenSpec.ofChange s with cond := some uptoSmall }

/-- 'whetstonelaw07.TextApplies', WHERE WHAT IT READS IS OF BULK AT MOST 1048576: true; the input reads as it did. -/
def textAppliesUptoRow : OpenClaim := { program := "ytogibebpoliolaa", sum := "d0e55cddefda0d5d211413a85181690a035c0909115a24b4976213b09f457db9", func := "whetstone/whetstonelaw07.TextApplies", spec := "textApplies", unfollowed := true, recurses := true, apart := false, narrowed := true }
def TextAppliesUptoSaid : Prop := textAppliesUptoRow.holds Try.pinned (OpenSpec.upto textAppliesSpec)

/-- 'whetstonelaw07.TextTwice', WHERE WHAT IT READS IS OF BULK AT MOST 1048576: true; the input reads as it did. -/
def textTwiceUptoRow : OpenClaim := { program := "ytogibebpoliolaa", sum := "d0e55cddefda0d5d211413a85181690a035c0909115a24b4976213b09f457db9", func := "whetstone/whetstonelaw07.TextTwice", spec := "textTwice", unfollowed := true, recurses := true, apart := false, narrowed := true }
def TextTwiceUptoSaid : Prop := textTwiceUptoRow.holds Try.pinned (OpenSpec.upto textTwiceSpec)

/-- 'whetstonelaw07.TextKeeps', WHERE WHAT IT READS IS OF BULK AT MOST 1048576: true; the input reads as it did. -/
def textKeepsUptoRow : OpenClaim := { program := "ytogibebpoliolaa", sum := "d0e55cddefda0d5d211413a85181690a035c0909115a24b4976213b09f457db9", func := "whetstone/whetstonelaw07.TextKeeps", spec := "textKeeps", unfollowed := true, recurses := true, apart := false, narrowed := true }
def TextKeepsUptoSaid : Prop := textKeepsUptoRow.holds Try.pinned (OpenSpec.upto textKeepsSpec)

/-- 'whetstonelaw07.TextOpens', WHERE WHAT IT READS IS OF BULK AT MOST 1048576: true; the input reads as it did. -/
def textOpensUptoRow : OpenClaim := { program := "ytogibebpoliolaa", sum := "d0e55cddefda0d5d211413a85181690a035c0909115a24b4976213b09f457db9", func := "whetstone/whetstonelaw07.TextOpens", spec := "textOpens", unfollowed := true, recurses := true, apart := false, narrowed := true }
def TextOpensUptoSaid : Prop := textOpensUptoRow.holds Try.pinned (OpenSpec.upto textOpensSpec)

/-- 'whetstonelaw07.TextPlaces', WHERE WHAT IT READS IS OF BULK AT MOST 1048576: true; the input reads as it did. -/
def textPlacesUptoRow : OpenClaim := { program := "ytogibebpoliolaa", sum := "d0e55cddefda0d5d211413a85181690a035c0909115a24b4976213b09f457db9", func := "whetstone/whetstonelaw07.TextPlaces", spec := "textPlaces", unfollowed := true, recurses := true, apart := false, narrowed := true }
def TextPlacesUptoSaid : Prop := textPlacesUptoRow.holds Try.pinned (OpenSpec.upto textPlacesSpec)

end Rows
end Go.Proofs.Ytogibebpoliolaa
