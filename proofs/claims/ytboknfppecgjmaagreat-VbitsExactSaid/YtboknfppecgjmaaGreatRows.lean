/-
  No cell of these rows narrows 'for every input' (looked for: loops, veiled, ifaces, maps, wideKeys, modest, calm, conditions, laid).
  DERIVED. THE GIVEN ROWS OF THIS SEAT. 4 by the template 'for every input the law returns true; each argument reads behind the call as it read before'; 0 by the template 'total and deterministic' (their statements: YtboknfppecgjmaaGreatTotals.lean).
  GIVEN WITH THE SEED: the statements are not yours to turn. If you find one false, say at which input.
  Laid BY PROGRAM, IN A SANDBOX (cutbox-rows.mjs): the forced cells as the released guide's own fill.sh prints them over the translation d6a05d559ba66947… (all of the seat's roots in one cut). By AI agents, Wed Nov 11 2026. No macro, syntax, notation, axiom, sorry.
-/
import Derived.Test.YtboknfppecgjmaaGreatChecked
import GoSem.Claim
import GoSem.ClaimJoined
import GoSem.ClaimMapViews
import Derived.JoinedTies
import Derived.KernelRfl
namespace Go.Proofs.YtboknfppecgjmaaGreat
/- THE CELL 'sum', in the pinned program and in every row, IS THE sha256 OF THE DUMP (.gsa) THAT YtboknfppecgjmaaGreatProg.lean LOADS. Nothing in Lean hashes anything: it is a label: what it is worth is what the hold of that sum in a sandbox is worth. -/
noncomputable def Tryz.pinned : Pinned := { name := "ytboknfppecgjmaagreat", sum := "d6a05d559ba6694708215b7050a3c3e6209501a19f98dc5d5d05a00fa5c414fa", checked := Tryz.checked }
namespace Rows
def none {H : Type} : Left H := { results := [], args := [] }

/-- 'candlinglaw24.VbitsSound': WHATEVER THE INPUT: true; the input reads as it did. -/
def vbitsSoundSpec : ChangeSpec := { name := "vbitsSound", fn := fun _ => fun
  | [d] => { results := [.lit (.bool true)], args := [d] }
  | _ => none }
def vbitsSoundRow : OpenClaim := { program := "ytboknfppecgjmaagreat", sum := "d6a05d559ba6694708215b7050a3c3e6209501a19f98dc5d5d05a00fa5c414fa", func := "candling/candlinglaw24.VbitsSound", spec := "vbitsSound", unfollowed := true, recurses := true, apart := false }
def VbitsSoundSaid : Prop := vbitsSoundRow.holds Tryz.pinned (OpenSpec.ofChange vbitsSoundSpec)

/-- ITS FALSE NEIGHBOUR: 'it returns false'. Refute it at one input. -/
def vbitsSoundWrong : ChangeSpec := { name := "vbitsSound", fn := fun _ => fun
  | [d] => { results := [.lit (.bool false)], args := [d] }
  | _ => none }
def VbitsSoundWrongFalsely : Prop := vbitsSoundRow.holds Tryz.pinned (OpenSpec.ofChange vbitsSoundWrong)

/-- 'candlinglaw24.VbitsConverts': WHATEVER THE INPUT: true; the input reads as it did. -/
def vbitsConvertsSpec : ChangeSpec := { name := "vbitsConverts", fn := fun _ => fun
  | [d1, d2, d3, d4, d5] => { results := [.lit (.bool true)], args := [d1, d2, d3, d4, d5] }
  | _ => none }
def vbitsConvertsRow : OpenClaim := { program := "ytboknfppecgjmaagreat", sum := "d6a05d559ba6694708215b7050a3c3e6209501a19f98dc5d5d05a00fa5c414fa", func := "candling/candlinglaw24.VbitsConverts", spec := "vbitsConverts", unfollowed := true, recurses := true, apart := false }
def VbitsConvertsSaid : Prop := vbitsConvertsRow.holds Tryz.pinned (OpenSpec.ofChange vbitsConvertsSpec)

/-- ITS FALSE NEIGHBOUR: 'it returns false'. Refute it at one input. -/
def vbitsConvertsWrong : ChangeSpec := { name := "vbitsConverts", fn := fun _ => fun
  | [d1, d2, d3, d4, d5] => { results := [.lit (.bool false)], args := [d1, d2, d3, d4, d5] }
  | _ => none }
def VbitsConvertsWrongFalsely : Prop := vbitsConvertsRow.holds Tryz.pinned (OpenSpec.ofChange vbitsConvertsWrong)

/-- 'candlinglaw24.VbitsBinary': WHATEVER THE INPUT: true; the input reads as it did. -/
def vbitsBinarySpec : ChangeSpec := { name := "vbitsBinary", fn := fun _ => fun
  | [d1, d2, d3, d4, d5, d6, d7] => { results := [.lit (.bool true)], args := [d1, d2, d3, d4, d5, d6, d7] }
  | _ => none }
def vbitsBinaryRow : OpenClaim := { program := "ytboknfppecgjmaagreat", sum := "d6a05d559ba6694708215b7050a3c3e6209501a19f98dc5d5d05a00fa5c414fa", func := "candling/candlinglaw24.VbitsBinary", spec := "vbitsBinary", unfollowed := true, recurses := true, apart := false }
def VbitsBinarySaid : Prop := vbitsBinaryRow.holds Tryz.pinned (OpenSpec.ofChange vbitsBinarySpec)

/-- ITS FALSE NEIGHBOUR: 'it returns false'. Refute it at one input. -/
def vbitsBinaryWrong : ChangeSpec := { name := "vbitsBinary", fn := fun _ => fun
  | [d1, d2, d3, d4, d5, d6, d7] => { results := [.lit (.bool false)], args := [d1, d2, d3, d4, d5, d6, d7] }
  | _ => none }
def VbitsBinaryWrongFalsely : Prop := vbitsBinaryRow.holds Tryz.pinned (OpenSpec.ofChange vbitsBinaryWrong)

/-- 'candlinglaw24.VbitsExact': WHATEVER THE INPUT: true; the input reads as it did. -/
def vbitsExactSpec : ChangeSpec := { name := "vbitsExact", fn := fun _ => fun
  | [d] => { results := [.lit (.bool true)], args := [d] }
  | _ => none }
def vbitsExactRow : OpenClaim := { program := "ytboknfppecgjmaagreat", sum := "d6a05d559ba6694708215b7050a3c3e6209501a19f98dc5d5d05a00fa5c414fa", func := "candling/candlinglaw24.VbitsExact", spec := "vbitsExact", unfollowed := true, recurses := true, apart := false }
def VbitsExactSaid : Prop := vbitsExactRow.holds Tryz.pinned (OpenSpec.ofChange vbitsExactSpec)

/-- ITS FALSE NEIGHBOUR: 'it returns false'. Refute it at one input. -/
def vbitsExactWrong : ChangeSpec := { name := "vbitsExact", fn := fun _ => fun
  | [d] => { results := [.lit (.bool false)], args := [d] }
  | _ => none }
def VbitsExactWrongFalsely : Prop := vbitsExactRow.holds Tryz.pinned (OpenSpec.ofChange vbitsExactWrong)

/- THE SECOND FORM. 'bulk': how many values and letters a reading holds, each counted each time it is reached (what is shared counts as often as it is met; a slice's spare places count too). A statement '..UptoSaid' is the law's where the arguments, and the package variables that the reading takes, are together of bulk at most 1048576: NARROWER than '..Said'. Prove '..Said' where nothing that the law and all that it calls make is longer than what came in: it says more and counts as full. Else prove '..UptoSaid'. A law counts once. -/
mutual
def uptoBulk {H : Type} : DataW H → Nat
  | .lit (.string bytes) => bytes.length + 1
  | .lit _ => 1
  | .nil => 1
  | .ptr d => uptoBulk d + 1
  | .slice elems spare => uptoBulkAll elems + uptoBulkAll spare + 1
  | .agg parts => uptoBulkAll parts + 1
  | .iface _ d => uptoBulk d + 1
  | .map entries => uptoBulkEntries entries + 1
  | .held _ => 1
def uptoBulkAll {H : Type} : List (DataW H) → Nat
  | [] => 0
  | d :: r => uptoBulk d + uptoBulkAll r
def uptoBulkEntries {H : Type} : List (Lit × DataW H) → Nat
  | [] => 0
  | x :: r => uptoBulkEntry x + uptoBulkEntries r
def uptoBulkEntry {H : Type} : Lit × DataW H → Nat
  | (.string bytes, d) => bytes.length + uptoBulk d + 1
  | (_, d) => uptoBulk d + 1
 end
def uptoSmall : (H : Type) → List (DataW H) → Bool := fun _ ds => decide (uptoBulkAll ds ≤ 1048576)
def OpenSpec.upto (s : _root_.Go.ChangeSpec) : _root_.Go.OpenSpec := { _root_.Go.OpenSpec.ofChange s with cond := some uptoSmall }

/-- 'candlinglaw24.VbitsSound', WHERE WHAT IT READS IS OF BULK AT MOST 1048576: true; the input reads as it did. -/
def vbitsSoundUptoRow : OpenClaim := { program := "ytboknfppecgjmaagreat", sum := "d6a05d559ba6694708215b7050a3c3e6209501a19f98dc5d5d05a00fa5c414fa", func := "candling/candlinglaw24.VbitsSound", spec := "vbitsSound", unfollowed := true, recurses := true, apart := false, narrowed := true }
def VbitsSoundUptoSaid : Prop := vbitsSoundUptoRow.holds Tryz.pinned (OpenSpec.upto vbitsSoundSpec)

/-- 'candlinglaw24.VbitsConverts', WHERE WHAT IT READS IS OF BULK AT MOST 1048576: true; the input reads as it did. -/
def vbitsConvertsUptoRow : OpenClaim := { program := "ytboknfppecgjmaagreat", sum := "d6a05d559ba6694708215b7050a3c3e6209501a19f98dc5d5d05a00fa5c414fa", func := "candling/candlinglaw24.VbitsConverts", spec := "vbitsConverts", unfollowed := true, recurses := true, apart := false, narrowed := true }
def VbitsConvertsUptoSaid : Prop := vbitsConvertsUptoRow.holds Tryz.pinned (OpenSpec.upto vbitsConvertsSpec)

/-- 'candlinglaw24.VbitsBinary', WHERE WHAT IT READS IS OF BULK AT MOST 1048576: true; the input reads as it did. -/
def vbitsBinaryUptoRow : OpenClaim := { program := "ytboknfppecgjmaagreat", sum := "d6a05d559ba6694708215b7050a3c3e6209501a19f98dc5d5d05a00fa5c414fa", func := "candling/candlinglaw24.VbitsBinary", spec := "vbitsBinary", unfollowed := true, recurses := true, apart := false, narrowed := true }
def VbitsBinaryUptoSaid : Prop := vbitsBinaryUptoRow.holds Tryz.pinned (OpenSpec.upto vbitsBinarySpec)

/-- 'candlinglaw24.VbitsExact', WHERE WHAT IT READS IS OF BULK AT MOST 1048576: true; the input reads as it did. -/
def vbitsExactUptoRow : OpenClaim := { program := "ytboknfppecgjmaagreat", sum := "d6a05d559ba6694708215b7050a3c3e6209501a19f98dc5d5d05a00fa5c414fa", func := "candling/candlinglaw24.VbitsExact", spec := "vbitsExact", unfollowed := true, recurses := true, apart := false, narrowed := true }
def VbitsExactUptoSaid : Prop := vbitsExactUptoRow.holds Tryz.pinned (OpenSpec.upto vbitsExactSpec)

end Rows
end Go.Proofs.YtboknfppecgjmaaGreat
