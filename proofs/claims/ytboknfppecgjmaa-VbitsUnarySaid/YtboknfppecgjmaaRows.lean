/-
  No cell of these rows narrows 'for every input' (looked for: loops, veiled, ifaces, maps, wideKeys, modest, calm, conditions, laid).
  DERIVED. THE GIVEN ROWS OF THIS SEAT. 8 by the template 'for every input the law returns true; each argument reads behind the call as it read before'; 0 by the template 'total and deterministic' (their statements: YtboknfppecgjmaaTotals.lean).
  GIVEN WITH THE SEED: the statements are not yours to turn. If you find one false, say at which input.
  Laid BY PROGRAM, IN A SANDBOX (cutbox-rows.mjs): the forced cells as the released guide's own fill.sh prints them over the translation 35e6dc2209fc95dc… (all of the seat's roots in one cut). By AI agents, Wed Nov 11 2026. No macro, syntax, notation, axiom, sorry.
-/
import Derived.Test.YtboknfppecgjmaaChecked
import GoSem.Claim
import GoSem.ClaimJoined
import GoSem.ClaimMapViews
import Derived.JoinedTies
import Derived.KernelRfl
namespace Go.Proofs.Ytboknfppecgjmaa
/- THE CELL 'sum', in the pinned program and in every row, IS THE sha256 OF THE DUMP (.gsa) THAT YtboknfppecgjmaaProg.lean LOADS. Nothing in Lean hashes anything: it is a label: what it is worth is what the hold of that sum in a sandbox is worth. -/
noncomputable def Try.pinned : Pinned := { name := "ytboknfppecgjmaa", sum := "35e6dc2209fc95dc64125cb804f52b20185ee5e7d187be12c221ab3afd73da9a", checked := Try.checked }
namespace Rows
def none {H : Type} : Left H := { results := [], args := [] }

/-- 'candlinglaw24.VbitsChoices': WHATEVER THE INPUT: true; the input reads as it did. -/
def vbitsChoicesSpec : ChangeSpec := { name := "vbitsChoices", fn := fun _ => fun
  | [d1, d2, d3, d4, d5, d6, d7, d8, d9] => { results := [.lit (.bool true)], args := [d1, d2, d3, d4, d5, d6, d7, d8, d9] }
  | _ => none }
def vbitsChoicesRow : OpenClaim := { program := "ytboknfppecgjmaa", sum := "35e6dc2209fc95dc64125cb804f52b20185ee5e7d187be12c221ab3afd73da9a", func := "candling/candlinglaw24.VbitsChoices", spec := "vbitsChoices", unfollowed := true, recurses := true, apart := false }
def VbitsChoicesSaid : Prop := vbitsChoicesRow.holds Try.pinned (OpenSpec.ofChange vbitsChoicesSpec)

/-- ITS FALSE NEIGHBOUR: 'it returns false'. Refute it at one input. -/
def vbitsChoicesWrong : ChangeSpec := { name := "vbitsChoices", fn := fun _ => fun
  | [d1, d2, d3, d4, d5, d6, d7, d8, d9] => { results := [.lit (.bool false)], args := [d1, d2, d3, d4, d5, d6, d7, d8, d9] }
  | _ => none }
def VbitsChoicesWrongFalsely : Prop := vbitsChoicesRow.holds Try.pinned (OpenSpec.ofChange vbitsChoicesWrong)

/-- 'candlinglaw24.VbitsMonotone': WHATEVER THE INPUT: true; the input reads as it did. -/
def vbitsMonotoneSpec : ChangeSpec := { name := "vbitsMonotone", fn := fun _ => fun
  | [d] => { results := [.lit (.bool true)], args := [d] }
  | _ => none }
def vbitsMonotoneRow : OpenClaim := { program := "ytboknfppecgjmaa", sum := "35e6dc2209fc95dc64125cb804f52b20185ee5e7d187be12c221ab3afd73da9a", func := "candling/candlinglaw24.VbitsMonotone", spec := "vbitsMonotone", unfollowed := true, recurses := true, apart := false }
def VbitsMonotoneSaid : Prop := vbitsMonotoneRow.holds Try.pinned (OpenSpec.ofChange vbitsMonotoneSpec)

/-- ITS FALSE NEIGHBOUR: 'it returns false'. Refute it at one input. -/
def vbitsMonotoneWrong : ChangeSpec := { name := "vbitsMonotone", fn := fun _ => fun
  | [d] => { results := [.lit (.bool false)], args := [d] }
  | _ => none }
def VbitsMonotoneWrongFalsely : Prop := vbitsMonotoneRow.holds Try.pinned (OpenSpec.ofChange vbitsMonotoneWrong)

/-- 'candlinglaw24.VbitsOblivious': WHATEVER THE INPUT: true; the input reads as it did. -/
def vbitsObliviousSpec : ChangeSpec := { name := "vbitsOblivious", fn := fun _ => fun
  | [d] => { results := [.lit (.bool true)], args := [d] }
  | _ => none }
def vbitsObliviousRow : OpenClaim := { program := "ytboknfppecgjmaa", sum := "35e6dc2209fc95dc64125cb804f52b20185ee5e7d187be12c221ab3afd73da9a", func := "candling/candlinglaw24.VbitsOblivious", spec := "vbitsOblivious", unfollowed := true, recurses := true, apart := false }
def VbitsObliviousSaid : Prop := vbitsObliviousRow.holds Try.pinned (OpenSpec.ofChange vbitsObliviousSpec)

/-- ITS FALSE NEIGHBOUR: 'it returns false'. Refute it at one input. -/
def vbitsObliviousWrong : ChangeSpec := { name := "vbitsOblivious", fn := fun _ => fun
  | [d] => { results := [.lit (.bool false)], args := [d] }
  | _ => none }
def VbitsObliviousWrongFalsely : Prop := vbitsObliviousRow.holds Try.pinned (OpenSpec.ofChange vbitsObliviousWrong)

/-- 'candlinglaw24.VbitsCommutes': WHATEVER THE INPUT: true; the input reads as it did. -/
def vbitsCommutesSpec : ChangeSpec := { name := "vbitsCommutes", fn := fun _ => fun
  | [d1, d2, d3, d4, d5, d6] => { results := [.lit (.bool true)], args := [d1, d2, d3, d4, d5, d6] }
  | _ => none }
def vbitsCommutesRow : OpenClaim := { program := "ytboknfppecgjmaa", sum := "35e6dc2209fc95dc64125cb804f52b20185ee5e7d187be12c221ab3afd73da9a", func := "candling/candlinglaw24.VbitsCommutes", spec := "vbitsCommutes", unfollowed := true, recurses := true, apart := false }
def VbitsCommutesSaid : Prop := vbitsCommutesRow.holds Try.pinned (OpenSpec.ofChange vbitsCommutesSpec)

/-- ITS FALSE NEIGHBOUR: 'it returns false'. Refute it at one input. -/
def vbitsCommutesWrong : ChangeSpec := { name := "vbitsCommutes", fn := fun _ => fun
  | [d1, d2, d3, d4, d5, d6] => { results := [.lit (.bool false)], args := [d1, d2, d3, d4, d5, d6] }
  | _ => none }
def VbitsCommutesWrongFalsely : Prop := vbitsCommutesRow.holds Try.pinned (OpenSpec.ofChange vbitsCommutesWrong)

/-- 'candlinglaw24.VbitsDual': WHATEVER THE INPUT: true; the input reads as it did. -/
def vbitsDualSpec : ChangeSpec := { name := "vbitsDual", fn := fun _ => fun
  | [d1, d2, d3, d4, d5] => { results := [.lit (.bool true)], args := [d1, d2, d3, d4, d5] }
  | _ => none }
def vbitsDualRow : OpenClaim := { program := "ytboknfppecgjmaa", sum := "35e6dc2209fc95dc64125cb804f52b20185ee5e7d187be12c221ab3afd73da9a", func := "candling/candlinglaw24.VbitsDual", spec := "vbitsDual", unfollowed := true, recurses := true, apart := false }
def VbitsDualSaid : Prop := vbitsDualRow.holds Try.pinned (OpenSpec.ofChange vbitsDualSpec)

/-- ITS FALSE NEIGHBOUR: 'it returns false'. Refute it at one input. -/
def vbitsDualWrong : ChangeSpec := { name := "vbitsDual", fn := fun _ => fun
  | [d1, d2, d3, d4, d5] => { results := [.lit (.bool false)], args := [d1, d2, d3, d4, d5] }
  | _ => none }
def VbitsDualWrongFalsely : Prop := vbitsDualRow.holds Try.pinned (OpenSpec.ofChange vbitsDualWrong)

/-- 'candlinglaw24.VbitsLanes': WHATEVER THE INPUT: true; the input reads as it did. -/
def vbitsLanesSpec : ChangeSpec := { name := "vbitsLanes", fn := fun _ => fun
  | [d1, d2, d3, d4] => { results := [.lit (.bool true)], args := [d1, d2, d3, d4] }
  | _ => none }
def vbitsLanesRow : OpenClaim := { program := "ytboknfppecgjmaa", sum := "35e6dc2209fc95dc64125cb804f52b20185ee5e7d187be12c221ab3afd73da9a", func := "candling/candlinglaw24.VbitsLanes", spec := "vbitsLanes", unfollowed := true, recurses := true, apart := false }
def VbitsLanesSaid : Prop := vbitsLanesRow.holds Try.pinned (OpenSpec.ofChange vbitsLanesSpec)

/-- ITS FALSE NEIGHBOUR: 'it returns false'. Refute it at one input. -/
def vbitsLanesWrong : ChangeSpec := { name := "vbitsLanes", fn := fun _ => fun
  | [d1, d2, d3, d4] => { results := [.lit (.bool false)], args := [d1, d2, d3, d4] }
  | _ => none }
def VbitsLanesWrongFalsely : Prop := vbitsLanesRow.holds Try.pinned (OpenSpec.ofChange vbitsLanesWrong)

/-- 'candlinglaw24.VbitsBetween': WHATEVER THE INPUT: true; the input reads as it did. -/
def vbitsBetweenSpec : ChangeSpec := { name := "vbitsBetween", fn := fun _ => fun
  | [d1, d2, d3] => { results := [.lit (.bool true)], args := [d1, d2, d3] }
  | _ => none }
def vbitsBetweenRow : OpenClaim := { program := "ytboknfppecgjmaa", sum := "35e6dc2209fc95dc64125cb804f52b20185ee5e7d187be12c221ab3afd73da9a", func := "candling/candlinglaw24.VbitsBetween", spec := "vbitsBetween", unfollowed := true, recurses := true, apart := false }
def VbitsBetweenSaid : Prop := vbitsBetweenRow.holds Try.pinned (OpenSpec.ofChange vbitsBetweenSpec)

/-- ITS FALSE NEIGHBOUR: 'it returns false'. Refute it at one input. -/
def vbitsBetweenWrong : ChangeSpec := { name := "vbitsBetween", fn := fun _ => fun
  | [d1, d2, d3] => { results := [.lit (.bool false)], args := [d1, d2, d3] }
  | _ => none }
def VbitsBetweenWrongFalsely : Prop := vbitsBetweenRow.holds Try.pinned (OpenSpec.ofChange vbitsBetweenWrong)

/-- 'candlinglaw24.VbitsUnary': WHATEVER THE INPUT: true; the input reads as it did. -/
def vbitsUnarySpec : ChangeSpec := { name := "vbitsUnary", fn := fun _ => fun
  | [d1, d2, d3, d4, d5, d6, d7] => { results := [.lit (.bool true)], args := [d1, d2, d3, d4, d5, d6, d7] }
  | _ => none }
def vbitsUnaryRow : OpenClaim := { program := "ytboknfppecgjmaa", sum := "35e6dc2209fc95dc64125cb804f52b20185ee5e7d187be12c221ab3afd73da9a", func := "candling/candlinglaw24.VbitsUnary", spec := "vbitsUnary", unfollowed := true, recurses := true, apart := false }
def VbitsUnarySaid : Prop := vbitsUnaryRow.holds Try.pinned (OpenSpec.ofChange vbitsUnarySpec)

/-- ITS FALSE NEIGHBOUR: 'it returns false'. Refute it at one input. -/
def vbitsUnaryWrong : ChangeSpec := { name := "vbitsUnary", fn := fun _ => fun
  | [d1, d2, d3, d4, d5, d6, d7] => { results := [.lit (.bool false)], args := [d1, d2, d3, d4, d5, d6, d7] }
  | _ => none }
def VbitsUnaryWrongFalsely : Prop := vbitsUnaryRow.holds Try.pinned (OpenSpec.ofChange vbitsUnaryWrong)

/- THE SECOND FORM. 'bulk': how many values and letters a reading holds, each counted each time it is reached (what is shared counts as often as it is met; a slice's spare places count too). A statement '..UptoSaid' is the law's where the arguments, and the package variables that the reading takes, are together of bulk at most 1048576: NARROWER than '..Said'. Prove '..Said' where nothing that the law and all that it calls make is longer than what came in: it says more and counts as full. Else prove '..UptoSaid'. A law counts once. -/
mutual
def uptoBulk {H : Type} : DataW H → Nat
  | .lit (.string bytes) => bytes.length + 1
  | .lit _ => 1
  | .nil => 1
  | .ptr d => uptoBulk d + 1
  | .slice elems spare => uptoBulkAll elems + uptoBulkAll spare + 1
  | .agg parts => uptoBulkAll parts + 1
  | .iface _ d => uptoBulk d + 1
  | .map entries => uptoBulkEntries entries + 1
  | .held _ => 1
def uptoBulkAll {H : Type} : List (DataW H) → Nat
  | [] => 0
  | d :: r => uptoBulk d + uptoBulkAll r
def uptoBulkEntries {H : Type} : List (Lit × DataW H) → Nat
  | [] => 0
  | x :: r => uptoBulkEntry x + uptoBulkEntries r
def uptoBulkEntry {H : Type} : Lit × DataW H → Nat
  | (.string bytes, d) => bytes.length + uptoBulk d + 1
  | (_, d) => uptoBulk d + 1
 end
def uptoSmall : (H : Type) → List (DataW H) → Bool := fun _ ds => decide (uptoBulkAll ds ≤ 1048576)
def OpenSpec.upto (s : _root_.Go.ChangeSpec) : _root_.Go.OpenSpec := { _root_.Go.OpenSpec.ofChange s with cond := some uptoSmall }

/-- 'candlinglaw24.VbitsChoices', WHERE WHAT IT READS IS OF BULK AT MOST 1048576: true; the input reads as it did. -/
def vbitsChoicesUptoRow : OpenClaim := { program := "ytboknfppecgjmaa", sum := "35e6dc2209fc95dc64125cb804f52b20185ee5e7d187be12c221ab3afd73da9a", func := "candling/candlinglaw24.VbitsChoices", spec := "vbitsChoices", unfollowed := true, recurses := true, apart := false, narrowed := true }
def VbitsChoicesUptoSaid : Prop := vbitsChoicesUptoRow.holds Try.pinned (OpenSpec.upto vbitsChoicesSpec)

/-- 'candlinglaw24.VbitsMonotone', WHERE WHAT IT READS IS OF BULK AT MOST 1048576: true; the input reads as it did. -/
def vbitsMonotoneUptoRow : OpenClaim := { program := "ytboknfppecgjmaa", sum := "35e6dc2209fc95dc64125cb804f52b20185ee5e7d187be12c221ab3afd73da9a", func := "candling/candlinglaw24.VbitsMonotone", spec := "vbitsMonotone", unfollowed := true, recurses := true, apart := false, narrowed := true }
def VbitsMonotoneUptoSaid : Prop := vbitsMonotoneUptoRow.holds Try.pinned (OpenSpec.upto vbitsMonotoneSpec)

/-- 'candlinglaw24.VbitsOblivious', WHERE WHAT IT READS IS OF BULK AT MOST 1048576: true; the input reads as it did. -/
def vbitsObliviousUptoRow : OpenClaim := { program := "ytboknfppecgjmaa", sum := "35e6dc2209fc95dc64125cb804f52b20185ee5e7d187be12c221ab3afd73da9a", func := "candling/candlinglaw24.VbitsOblivious", spec := "vbitsOblivious", unfollowed := true, recurses := true, apart := false, narrowed := true }
def VbitsObliviousUptoSaid : Prop := vbitsObliviousUptoRow.holds Try.pinned (OpenSpec.upto vbitsObliviousSpec)

/-- 'candlinglaw24.VbitsCommutes', WHERE WHAT IT READS IS OF BULK AT MOST 1048576: true; the input reads as it did. -/
def vbitsCommutesUptoRow : OpenClaim := { program := "ytboknfppecgjmaa", sum := "35e6dc2209fc95dc64125cb804f52b20185ee5e7d187be12c221ab3afd73da9a", func := "candling/candlinglaw24.VbitsCommutes", spec := "vbitsCommutes", unfollowed := true, recurses := true, apart := false, narrowed := true }
def VbitsCommutesUptoSaid : Prop := vbitsCommutesUptoRow.holds Try.pinned (OpenSpec.upto vbitsCommutesSpec)

/-- 'candlinglaw24.VbitsDual', WHERE WHAT IT READS IS OF BULK AT MOST 1048576: true; the input reads as it did. -/
def vbitsDualUptoRow : OpenClaim := { program := "ytboknfppecgjmaa", sum := "35e6dc2209fc95dc64125cb804f52b20185ee5e7d187be12c221ab3afd73da9a", func := "candling/candlinglaw24.VbitsDual", spec := "vbitsDual", unfollowed := true, recurses := true, apart := false, narrowed := true }
def VbitsDualUptoSaid : Prop := vbitsDualUptoRow.holds Try.pinned (OpenSpec.upto vbitsDualSpec)

/-- 'candlinglaw24.VbitsLanes', WHERE WHAT IT READS IS OF BULK AT MOST 1048576: true; the input reads as it did. -/
def vbitsLanesUptoRow : OpenClaim := { program := "ytboknfppecgjmaa", sum := "35e6dc2209fc95dc64125cb804f52b20185ee5e7d187be12c221ab3afd73da9a", func := "candling/candlinglaw24.VbitsLanes", spec := "vbitsLanes", unfollowed := true, recurses := true, apart := false, narrowed := true }
def VbitsLanesUptoSaid : Prop := vbitsLanesUptoRow.holds Try.pinned (OpenSpec.upto vbitsLanesSpec)

/-- 'candlinglaw24.VbitsBetween', WHERE WHAT IT READS IS OF BULK AT MOST 1048576: true; the input reads as it did. -/
def vbitsBetweenUptoRow : OpenClaim := { program := "ytboknfppecgjmaa", sum := "35e6dc2209fc95dc64125cb804f52b20185ee5e7d187be12c221ab3afd73da9a", func := "candling/candlinglaw24.VbitsBetween", spec := "vbitsBetween", unfollowed := true, recurses := true, apart := false, narrowed := true }
def VbitsBetweenUptoSaid : Prop := vbitsBetweenUptoRow.holds Try.pinned (OpenSpec.upto vbitsBetweenSpec)

/-- 'candlinglaw24.VbitsUnary', WHERE WHAT IT READS IS OF BULK AT MOST 1048576: true; the input reads as it did. -/
def vbitsUnaryUptoRow : OpenClaim := { program := "ytboknfppecgjmaa", sum := "35e6dc2209fc95dc64125cb804f52b20185ee5e7d187be12c221ab3afd73da9a", func := "candling/candlinglaw24.VbitsUnary", spec := "vbitsUnary", unfollowed := true, recurses := true, apart := false, narrowed := true }
def VbitsUnaryUptoSaid : Prop := vbitsUnaryUptoRow.holds Try.pinned (OpenSpec.upto vbitsUnarySpec)

end Rows
end Go.Proofs.Ytboknfppecgjmaa
