/- VbitsExact: for every input the law returns true; its arguments read as they did. -/
import Derived.Test.YtboknfppecgjmaaGreatRows
import Derived.SizedLaws
import Derived.WalkKit
import Derived.ProofKit
import Derived.OpenShut
import Derived.Test.YtboknfppecgjmaaGreatExa16
import Derived.Test.YtboknfppecgjmaaGreatExa20
import Derived.Test.YtboknfppecgjmaaGreatExa40
import Derived.Test.YtboknfppecgjmaaGreatExa42
import Derived.Test.YtboknfppecgjmaaGreatExa43
set_option maxHeartbeats 16000000
namespace Go.Proofs.YtboknfppecgjmaaGreat
set_option linter.unusedVariables false
set_option linter.unusedSimpArgs false
open Go.RowKit Go.Shelf
theorem fil_c {q : Ask} {n m : Nat} (h : q.Fits n m) (h3 : ¬ q.kind = 3) (al as_ : Option Addr) (nl cl ns cs : Nat) (hl : Hid (q.l = .slice al nl cl)) (hs : Hid (q.s = .slice as_ ns cs)) (hm : ns ≤ maxLen) (hn : 4 * nl ≤ 140737488351232) (k : Bool) (p r : V) (w : World)
    (l s : List (BitVec 32)) (hll : Hid (l.length = nl)) (hsl : Hid (s.length = ns)) (HL : Hid (Lists w q.l l)) (HS : Hid (Lists w q.s s)) : FilC q (Vb.one k) p r (q.fil k p r) w :=
  filled_c q al as_ nl cl ns cs hl hs hm hn (Vb.one k) p r (q.fil k p r) w l s hll hsl HL HS (Lib.hid fun v w' _ => val_c h _ _ _ v 0#32
    (fun _ => by
      cases h with
      | un _ _ hx _ => exact fill_is (is_type hx)
      | bin _ _ _ hx _ _ _ => exact fill_is (is_type hx)
      | mux _ _ _ hx _ _ _ _ _ => exact fill_is (is_type hx)
      | call h3' _ _ => exact absurd h3' h3)
    (fun h1 => by
      cases h with
      | un _ _ _ _ => omega
      | bin _ _ _ _ _ hy _ => exact fill_is (is_type hy)
      | mux _ _ _ _ _ _ _ _ _ => omega
      | call h3' _ _ => exact absurd h3' h3) w' (fun h => absurd h h3))
theorem exactq_c (HS : Hid SaneC) (q : Ask) (al as_ : Option Addr) (nl cl ns cs : Nat) (hl : q.l = .slice al nl cl) (hs : q.s = .slice as_ ns cs) (b1 : 4 * nl ≤ 140737488351232) (b2 : 4 * ns ≤ 140737488351232) (w : World) (l s : List (BitVec 32))
    (hll : Lists w q.l l) (hnl : l.length = nl) (hsl : Lists w q.s s) (hn : s.length = ns) :
    Calls Tryz.prog 6 #[akv q] w fun e w' => e = .returned (.bool true) ∧ Below w.heap.size w w' := by
  have m1 : nl ≤ maxLen := by unfold maxLen; omega
  have m2 : ns ≤ maxLen := by unfold maxLen; omega
  have HF := fitsAll_c q al as_ nl cl ns cs hl hs m1 m2
  by_cases hfit : q.fit nl ns = true
  · rw [hfit] at HF
    have hF := fit_cases hfit
    have hok := sh_ok (s := s) hF hn
    have HE := exa_c q
    cases hx : q.exa
    · rw [hx] at HE
      exact exact_not HS q (Lib.hid HF) (Lib.hid HE) w
    · rw [hx] at HE
      have hex := exa_exact hx
      have h3 : ¬ q.kind = 3 := by
        rcases hex with h | ⟨h, _⟩ | h
        · omega
        · omega
        · omega
      have H1 : ShC w q (q.sh s).1 := by
        intro w' hb
        have := shAll_c q s (by omega) w' (hsl.below hb)
        rw [hok] at this
        exact this
      by_cases hz : (q.sh s).1 = V.zero
      · rw [hz] at H1
        exact exact_zero HS q (Lib.hid HF) (Lib.hid HE) w (Lib.hid H1)
      · refine exact_yes HS q (Lib.hid HF) (Lib.hid HE) (q.sh s).1 hz w (Lib.hid H1) (Lib.hid fun nQ nS nF W0 g1 g2 g3 B R => ?_) (Lib.hid fun σ T hv hc => exact_end hF hex hv fun k p r hr => cov_all hc k p r hr)
        refine fillings_c g1 g2 (Lib.hid fun k p r W' hb => ?_) ⟨V.zero, V.zero, false⟩ (Lib.hid ⟨fun _ => rfl, fun k p r h => by cases h⟩) W0 (Lib.hid R)
        have hw : Below w.heap.size w W' := B.trans (hb.mono (by omega))
        exact fil_c hF h3 al as_ nl cl ns cs (Lib.hid hl) (Lib.hid hs) m2 b1 k p r W' l s (Lib.hid hnl) (Lib.hid hn) (Lib.hid (hll.below hw)) (Lib.hid (hsl.below hw))
  · have hfit' : q.fit nl ns = false := by simpa using hfit
    rw [hfit'] at HF
    exact exact_no HS q (Lib.hid HF) w
end Go.Proofs.YtboknfppecgjmaaGreat
namespace Go.Proofs.YtboknfppecgjmaaGreat.vbitsExact
open Go.ChangeShapes Go.WideShapes Go.ChangeAt Go.RowKit
set_option maxRecDepth 100000 in
theorem lifted (os : Os) (started : os.Started) (H : Type) (enc : TypeId × Value → H) :
    ReturnsInHanded {} Tryz.checked os 6 .any (Rows.vbitsExactSpec.pre6 enc Tryz.prog Tryz.f6 Rows.vbitsExactRow.domain false) (Rows.vbitsExactSpec.post enc Tryz.prog Tryz.f6 false true false false) := by
  refine returnsInHanded_of_change_sized (C := Tryz.checked) own started (by kernel_rfl) Tryz.func6
    (ChangeSpec.witness6 (enc := enc) (C := Tryz.checked) false ⟨#[], #[.agg #[.int .i64 0, .int .i64 0, .int .i64 0, .int .i64 0, .int .i64 0, .int .u32 0, .int .u32 0, .int .u32 0, .int .u32 0, .int .u32 0, .int .u32 0, .int .u32 0, .int .u32 0, .int .u32 0, .int .u32 0, .int .u32 0, .int .u32 0, .int .u32 0, .int .u32 0, .int .u32 0, .int .u32 0, .int .u32 0, .int .u32 0, .int .u32 0, .int .u32 0, .int .u32 0, .int .u32 0, .int .u32 0, .int .u32 0, .slice none 0 0, .slice none 0 0, .int .u32 0, .int .u32 0, .int .u32 0, .int .u32 0, .int .u32 0, .int .u32 0, .int .u32 0, .int .u32 0, .int .u32 0, .int .u32 0, .int .u32 0, .int .u32 0, .int .u32 0, .int .u32 0, .int .u32 0, .int .u32 0]], []⟩ 8 (by kernel_rfl) (by kernel_rfl) (by kernel_rfl) (by kernel_rfl)) ?_
  intro W base args ds gs before hval0 hW hcnd hsized _
  have hval : ∀ (j : Nat) t v, Tryz.f6.params[j]? = some t → args[j]? = some v → Value.okWide Tryz.prog W .any base t v := hval0
  have hW' := hW
  obtain ⟨p, q, hA0, hV, rfl, hfz, hnd⟩ := hW
  have hA : DataW.TrodAll enc Tryz.prog W 0 (fun _ => true) true Tryz.f6.params.toList args.toList ds p := hA0
  rw [Tryz.params6] at hA hval
  obtain ⟨v0, vs0, d0, ds0, p0, q0, hargs, rfl, rfl, h0, r0⟩ := trodAll_cons hA
  obtain ⟨rfl, rfl, rfl⟩ := trodAll_nil r0
  obtain rfl : args = #[v0] := by cases args; simp_all
  obtain ⟨rfl, rfl⟩ := trodVars_none hV
  obtain ⟨a0, al, as_, nl, cl, ns, ca, l, s, rfl, hl, hs, bl, Ll, nll, Ls, nss, hb⟩ := open_ask (hval 0 28 v0 rfl rfl) h0
  obtain ⟨hnl, hns⟩ := hb reachBytes (List.all_eq_true.2 fun x hx => List.all_eq_true.1 hsized x (DataW.weights_mem_each (j := 0) (by rw [Tryz.params6]; rfl) rfl x hx))
  have hns' : 4 * ns ≤ 140737488351232 := by
    have : reachBytes = 140737488351232 := rfl
    omega
  have hnl' : 4 * nl ≤ 140737488351232 := by
    have : reachBytes = 140737488351232 := rfl
    omega
  clear hA0 hval0
  refine (exactq_c saneHid a0 al as_ nl cl ns ca hl hs hnl' hns' W l s Ll nll Ls nss).mono fun e W' ⟨he, hg⟩ => ?_
  subst he
  exact ⟨_, rfl, post_law laidOut (by kernel_rfl) rfl rfl Tryz.underlying4 hW' hg rfl rfl rfl⟩
theorem over : Rows.vbitsExactRow.holds Tryz.pinned (OpenSpec.ofChange Rows.vbitsExactSpec) :=
  OpenClaim.holds_of_wide 6 Tryz.f6 rfl rfl rfl rfl rfl rfl rfl ⟨rfl, rfl, rfl, rfl, rfl⟩ rfl rfl rfl rfl rfl (by kernel_rfl) Tryz.func6 (by kernel_rfl)
    (of_decide_eq_true (by kernel_rfl)) (by unfold Func.isWrapper; first | (rw [if_pos (by decide +kernel)]; kernel_rfl) | (rw [if_neg (by decide +kernel)]; exact ⟨rfl, rfl⟩))
    (fun os started H enc _ => lifted os started H enc)
end Go.Proofs.YtboknfppecgjmaaGreat.vbitsExact
namespace Go.Proofs.YtboknfppecgjmaaGreat
theorem vbitsExact_holds : Rows.VbitsExactSaid := vbitsExact.over
#print axioms vbitsExact_holds
end Go.Proofs.YtboknfppecgjmaaGreat
