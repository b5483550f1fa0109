/- VbitsSound: for every input the law returns true; its arguments read as they did. -/
import Derived.Test.YtboknfppecgjmaaGreatRows
import Derived.SizedLaws
import Derived.WalkKit
import Derived.ProofKit
import Derived.OpenShut
import Derived.Test.YtboknfppecgjmaaGreatSnd16
import Derived.Test.YtboknfppecgjmaaGreatSnd20
import Derived.Test.YtboknfppecgjmaaGreatSnd41
namespace Go.Proofs.YtboknfppecgjmaaGreat
set_option linter.unusedVariables false
set_option linter.unusedSimpArgs false
open Go.RowKit Go.Shelf
/-- The law, for every question whose L and S are slices that read as the lists l and s. -/
theorem sound_c (HS : Hid SaneC) (q : Ask) (al as_ : Option Addr) (nl cl ns cs : Nat) (hl : q.l = .slice al nl cl) (hs : q.s = .slice as_ ns cs) (b1 : 4 * nl ≤ 140737488351232) (b2 : 4 * ns ≤ 140737488351232) (w : World) (l s : List (BitVec 32))
    (hll : Lists w q.l l) (hnl : l.length = nl) (hsl : Lists w q.s s) (hn : s.length = ns) :
    Calls Tryz.prog 3 #[akv q] w fun e w' => e = .returned (.bool true) ∧ Below w.heap.size w w' := by
  have m1 : nl ≤ maxLen := by unfold maxLen; omega
  have m2 : ns ≤ maxLen := by unfold maxLen; omega
  have HF := fitsAll_c q al as_ nl cl ns cs hl hs m1 m2
  by_cases hfit : q.fit nl ns = true
  · rw [hfit] at HF
    have hF := fit_cases hfit
    have hok := sh_ok (s := s) hF hn
    obtain ⟨z, v, u, Hz, Hv, Hu, E1, E2⟩ := sound_all hF l s hnl hn
    refine sound_yes HS q (Lib.hid HF) w al nl cl (Lib.hid hl) (q.res nl) (Lib.hid (res_c q al nl cl hl m1)) (q.sh s).1 z v u (Lib.hid ?_) (Lib.hid ?_) (Lib.hid ?_) (Lib.hid ?_) (Lib.hid ?_) (Lib.hid ?_) (Lib.hid ?_)
    · intro w'
      have := ris_c (q.res nl) (q.sh s).1 w'
      rw [sh_is hF] at this
      exact this
    · intro w' hb
      have := shAll_c q s (by omega) w' (hsl.below hb)
      rw [hok] at this
      exact this
    · intro w' hb
      exact filled_c q al as_ nl cl ns cs (Lib.hid hl) (Lib.hid hs) m2 b1 q.t q.p q.q z w' l s (Lib.hid hnl) (Lib.hid hn) (Lib.hid (hll.below hb)) (Lib.hid (hsl.below hb)) (Lib.hid Hz)
    · intro w' hb
      exact filled_c q al as_ nl cl ns cs (Lib.hid hl) (Lib.hid hs) m2 b1 q.r q.q q.r v w' l s (Lib.hid hnl) (Lib.hid hn) (Lib.hid (hll.below hb)) (Lib.hid (hsl.below hb)) (Lib.hid Hv)
    · intro w' hb
      exact Hu _ w' (by rw [← hl]; exact hll.below hb)
    · intro w'
      have := rand_c (Rf.not (q.res nl) (q.sh s).1) (z.xor v) w'
      rw [E1] at this
      exact this
    · intro w'
      have := rand_c (Rf.not (q.res nl) (q.sh s).1) (z.xor u) w'
      rw [E2] at this
      exact this
  · have hfit' : q.fit nl ns = false := by simpa using hfit
    rw [hfit'] at HF
    exact sound_no HS q (Lib.hid HF) w
end Go.Proofs.YtboknfppecgjmaaGreat
namespace Go.Proofs.YtboknfppecgjmaaGreat.vbitsSound
open Go.ChangeShapes Go.WideShapes Go.ChangeAt Go.RowKit
set_option maxRecDepth 100000 in
theorem lifted (os : Os) (started : os.Started) (H : Type) (enc : TypeId × Value → H) :
    ReturnsInHanded {} Tryz.checked os 3 .any (Rows.vbitsSoundSpec.pre6 enc Tryz.prog Tryz.f3 Rows.vbitsSoundRow.domain false) (Rows.vbitsSoundSpec.post enc Tryz.prog Tryz.f3 false true false false) := by
  refine returnsInHanded_of_change_sized (C := Tryz.checked) own started (by kernel_rfl) Tryz.func3
    (ChangeSpec.witness6 (enc := enc) (C := Tryz.checked) false ⟨#[], #[.agg #[.int .i64 0, .int .i64 0, .int .i64 0, .int .i64 0, .int .i64 0, .int .u32 0, .int .u32 0, .int .u32 0, .int .u32 0, .int .u32 0, .int .u32 0, .int .u32 0, .int .u32 0, .int .u32 0, .int .u32 0, .int .u32 0, .int .u32 0, .int .u32 0, .int .u32 0, .int .u32 0, .int .u32 0, .int .u32 0, .int .u32 0, .int .u32 0, .int .u32 0, .int .u32 0, .int .u32 0, .int .u32 0, .int .u32 0, .slice none 0 0, .slice none 0 0, .int .u32 0, .int .u32 0, .int .u32 0, .int .u32 0, .int .u32 0, .int .u32 0, .int .u32 0, .int .u32 0, .int .u32 0, .int .u32 0, .int .u32 0, .int .u32 0, .int .u32 0, .int .u32 0, .int .u32 0, .int .u32 0]], []⟩ 8 (by kernel_rfl) (by kernel_rfl) (by kernel_rfl) (by kernel_rfl)) ?_
  intro W base args ds gs before hval0 hW hcnd hsized _
  have hval : ∀ (j : Nat) t v, Tryz.f3.params[j]? = some t → args[j]? = some v → Value.okWide Tryz.prog W .any base t v := hval0
  have hW' := hW
  obtain ⟨p, q, hA0, hV, rfl, hfz, hnd⟩ := hW
  have hA : DataW.TrodAll enc Tryz.prog W 0 (fun _ => true) true Tryz.f3.params.toList args.toList ds p := hA0
  rw [Tryz.params3] at hA hval
  obtain ⟨v0, vs0, d0, ds0, p0, q0, hargs, rfl, rfl, h0, r0⟩ := trodAll_cons hA
  obtain ⟨rfl, rfl, rfl⟩ := trodAll_nil r0
  obtain rfl : args = #[v0] := by cases args; simp_all
  obtain ⟨rfl, rfl⟩ := trodVars_none hV
  obtain ⟨a0, al, as_, nl, cl, ns, ca, l, s, rfl, hl, hs, bl, Ll, nll, Ls, nss, hb⟩ := open_ask (hval 0 28 v0 rfl rfl) h0
  obtain ⟨hnl, hns⟩ := hb reachBytes (List.all_eq_true.2 fun x hx => List.all_eq_true.1 hsized x (DataW.weights_mem_each (j := 0) (by rw [Tryz.params3]; rfl) rfl x hx))
  have hns' : 4 * ns ≤ 140737488351232 := by
    have : reachBytes = 140737488351232 := rfl
    omega
  have hnl' : 4 * nl ≤ 140737488351232 := by
    have : reachBytes = 140737488351232 := rfl
    omega
  clear hA0 hval0
  refine (sound_c saneHid a0 al as_ nl cl ns ca hl hs hnl' hns' W l s Ll nll Ls nss).mono fun e W' ⟨he, hg⟩ => ?_
  subst he
  exact ⟨_, rfl, post_law laidOut (by kernel_rfl) rfl rfl Tryz.underlying4 hW' hg rfl rfl rfl⟩
theorem over : Rows.vbitsSoundRow.holds Tryz.pinned (OpenSpec.ofChange Rows.vbitsSoundSpec) :=
  OpenClaim.holds_of_wide 3 Tryz.f3 rfl rfl rfl rfl rfl rfl rfl ⟨rfl, rfl, rfl, rfl, rfl⟩ rfl rfl rfl rfl rfl (by kernel_rfl) Tryz.func3 (by kernel_rfl)
    (of_decide_eq_true (by kernel_rfl)) (by unfold Func.isWrapper; first | (rw [if_pos (by decide +kernel)]; kernel_rfl) | (rw [if_neg (by decide +kernel)]; exact ⟨rfl, rfl⟩))
    (fun os started H enc _ => lifted os started H enc)
end Go.Proofs.YtboknfppecgjmaaGreat.vbitsSound
namespace Go.Proofs.YtboknfppecgjmaaGreat
theorem vbitsSound_holds : Rows.VbitsSoundSaid := vbitsSound.over
#print axioms vbitsSound_holds
end Go.Proofs.YtboknfppecgjmaaGreat
