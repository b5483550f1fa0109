/- VbitsMonotone: for every input the law returns true; its arguments read as they did. -/
import Derived.Test.YtboknfppecgjmaaRows
import Derived.Test.YtboknfppecgjmaaOpenAsk
import Derived.Test.YtboknfppecgjmaaMono
import Derived.Test.YtboknfppecgjmaaSaneHid
import Derived.SizedLaws
import Derived.WalkKit
import Derived.ProofKit
import Derived.OpenShut
namespace Go.Proofs.Ytboknfppecgjmaa.vbitsMonotone
set_option linter.unusedVariables false
set_option linter.unusedSimpArgs false
open Go.ChangeShapes Go.WideShapes Go.ChangeAt Go.RowKit
set_option maxRecDepth 100000 in
theorem lifted (os : Os) (started : os.Started) (H : Type) (enc : TypeId × Value → H) :
    ReturnsInHanded {} Try.checked os 4 .any (Rows.vbitsMonotoneSpec.pre6 enc Try.prog Try.f4 Rows.vbitsMonotoneRow.domain false) (Rows.vbitsMonotoneSpec.post enc Try.prog Try.f4 false true false false) := by
  refine returnsInHanded_of_change_sized (C := Try.checked) own started (by kernel_rfl) Try.func4
    (ChangeSpec.witness6 (enc := enc) (C := Try.checked) false ⟨#[], #[.agg #[.int .i64 0, .int .i64 0, .int .i64 0, .int .i64 0, .int .i64 0, .int .u32 0, .int .u32 0, .int .u32 0, .int .u32 0, .int .u32 0, .int .u32 0, .int .u32 0, .int .u32 0, .int .u32 0, .int .u32 0, .int .u32 0, .int .u32 0, .int .u32 0, .int .u32 0, .int .u32 0, .int .u32 0, .int .u32 0, .int .u32 0, .int .u32 0, .int .u32 0, .int .u32 0, .int .u32 0, .int .u32 0, .int .u32 0, .slice none 0 0, .slice none 0 0, .int .u32 0, .int .u32 0, .int .u32 0, .int .u32 0, .int .u32 0, .int .u32 0, .int .u32 0, .int .u32 0, .int .u32 0, .int .u32 0, .int .u32 0, .int .u32 0, .int .u32 0, .int .u32 0, .int .u32 0, .int .u32 0]], []⟩ 8 (by kernel_rfl) (by kernel_rfl) (by kernel_rfl) (by kernel_rfl)) ?_
  intro W base args ds gs before hval0 hW hcnd hsized _
  have hval : ∀ (j : Nat) t v, Try.f4.params[j]? = some t → args[j]? = some v → Value.okWide Try.prog W .any base t v := hval0
  have hW' := hW
  obtain ⟨p, q, hA0, hV, rfl, hfz, hnd⟩ := hW
  have hA : DataW.TrodAll enc Try.prog W 0 (fun _ => true) true Try.f4.params.toList args.toList ds p := hA0
  rw [Try.params4] at hA hval
  obtain ⟨v0, vs0, d0, ds0, p0, q0, hargs, rfl, rfl, h0, r0⟩ := trodAll_cons hA
  obtain ⟨rfl, rfl, rfl⟩ := trodAll_nil r0
  obtain rfl : args = #[v0] := by cases args; simp_all
  obtain ⟨rfl, rfl⟩ := trodVars_none hV
  obtain ⟨a0, al, as_, nl, cl, ns, ca, l, s, rfl, hl, hs, bl, Ll, nll, Ls, nss, hb⟩ := open_ask (hval 0 35 v0 rfl rfl) h0
  obtain ⟨_, hns⟩ := hb reachBytes (List.all_eq_true.2 fun x hx => List.all_eq_true.1 hsized x (DataW.weights_mem_each (j := 0) (by rw [Try.params4]; rfl) rfl x hx))
  have hns' : 4 * ns ≤ 140737488351232 := by
    have : reachBytes = 140737488351232 := rfl
    omega
  clear hA0 hval0
  refine (mono_c saneHid a0 al as_ nl cl ns ca hl hs bl hns' W s Ls nss).mono fun e W' ⟨he, hg⟩ => ?_
  subst he
  exact ⟨_, rfl, post_law laidOut (by kernel_rfl) rfl rfl Try.underlying4 hW' hg rfl rfl rfl⟩
theorem over : Rows.vbitsMonotoneRow.holds Try.pinned (OpenSpec.ofChange Rows.vbitsMonotoneSpec) :=
  OpenClaim.holds_of_wide 4 Try.f4 rfl rfl rfl rfl rfl rfl rfl ⟨rfl, rfl, rfl, rfl, rfl⟩ rfl rfl rfl rfl rfl (by kernel_rfl) Try.func4 (by kernel_rfl)
    (of_decide_eq_true (by kernel_rfl)) (by unfold Func.isWrapper; first | (rw [if_pos (by decide +kernel)]; kernel_rfl) | (rw [if_neg (by decide +kernel)]; exact ⟨rfl, rfl⟩))
    (fun os started H enc _ => lifted os started H enc)
end Go.Proofs.Ytboknfppecgjmaa.vbitsMonotone
namespace Go.Proofs.Ytboknfppecgjmaa
theorem vbitsMonotone_holds : Rows.VbitsMonotoneSaid := vbitsMonotone.over
#print axioms vbitsMonotone_holds
end Go.Proofs.Ytboknfppecgjmaa
