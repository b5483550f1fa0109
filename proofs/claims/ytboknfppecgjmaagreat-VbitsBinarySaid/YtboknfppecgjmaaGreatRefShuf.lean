/- The reference's BiShuf, walked. -/
import Derived.Test.YtboknfppecgjmaaGreatRefLaned
namespace Go.Proofs.YtboknfppecgjmaaGreat
set_option linter.unusedVariables false
set_option linter.unusedSimpArgs false
open Go.RowKit Go.Shelf
def Rf.shufLane (a y b : V) (i : Nat) : BitVec 32 := if decide (Rf.lane b 8 i &&& 15#32 = 0#32) = true then Rf.lane a 8 (Rf.lane y 8 i &&& 15#32).toNat else 255#32
def Rf.shufTo (a y b : V) : Nat → V
  | 0 => V.zero
  | n + 1 => Rf.setLane (Rf.shufTo a y b n) 8 n (Rf.shufLane a y b n)
theorem wrap_U (z : BitVec 32) : IntKind.i64.wrap (U z) = U z := by
  have h1 := U_nonneg z
  have h2 := U_lt z
  rw [IntKind.wrap_i64]; omega
attribute [go_sem] wrap_U
theorem lane8U_c (x : V) (z : BitVec 32) (hz : z.toNat < 16) (w : World) : Calls Tryz.prog 115 #[vv x, iv (8 : Int), iv (U z)] w fun e w' => e = .returned (uv (Rf.lane x 8 z.toNat)) ∧ Below w.heap.size w w' := lane8_c x z.toNat hz w
structure LS (n : Nat) (a y b o : V) (W : World) : Prop where
  A : W.heap[n]? = some (vcell a)
  Y : W.heap[n + 1]? = some (vcell y)
  B : W.heap[n + 1 + 1]? = some (vcell b)
  R : W.heap[n + 1 + 1 + 1]? = some (vcell V.zero)
  O : W.heap[n + 1 + 1 + 1 + 1]? = some (vcell o)
theorem LS.lt {n : Nat} {a y b o : V} {W : World} (K : LS n a y b o W) : n + 1 + 1 + 1 + 1 < W.heap.size := (Array.getElem?_eq_some_iff.1 K.O).1
theorem LS.step {n : Nat} {a y b o : V} {W W' : World} (K : LS n a y b o W) (hb : Below W.heap.size W W') : LS n a y b o W' := by
  have h1 := K.lt
  exact ⟨(hb.block _ (by omega)).trans K.A, (hb.block _ (by omega)).trans K.Y, (hb.block _ (by omega)).trans K.B, (hb.block _ (by omega)).trans K.R, (hb.block _ h1).trans K.O⟩
theorem LS.store {n : Nat} {a y b o p : V} {W W' : World} (K : LS n a y b o W) (hS : Stored (n + 1 + 1 + 1 + 1) W W') (hO : W'.heap[n + 1 + 1 + 1 + 1]? = some (vcell p)) : LS n a y b p W' :=
  ⟨(hS.other _ (by omega)).trans K.A, (hS.other _ (by omega)).trans K.Y, (hS.other _ (by omega)).trans K.B, (hS.other _ (by omega)).trans K.R, hO⟩
theorem and15 (z : BitVec 32) : (z &&& 15#32).toNat < 16 := by
  have h : (z &&& 15#32).toNat = z.toNat % 16 := by
    rw [BitVec.toNat_and]
    show z.toNat &&& (2 ^ 4 - 1) = _
    rw [Nat.and_two_pow_sub_one_eq_mod]
  omega
set_option maxRecDepth 100000 in
set_option maxHeartbeats 8000000 in
theorem shuffled_c (a y b : V) (w : World) : Calls Tryz.prog 62 #[vv a, vv y, vv b] w fun e w' => e = .returned (vv (Rf.shufTo a y b 16)) ∧ Below w.heap.size w w' := by
  obtain ⟨A, Y, B, R, O⟩ := heap_alloc5 w (vcell a) (vcell y) (vcell b) (vcell V.zero) (vcell V.zero)
  have B0 : Below w.heap.size w (((((w.alloc (vcell a)).alloc (vcell y)).alloc (vcell b)).alloc (vcell V.zero)).alloc (vcell V.zero)) := by (repeat (first | exact Below.refl _ _ | refine Below.setCell ?_ (by first | omega | (simp <;> omega)) _ | refine Below.alloc ?_ (by first | omega | (simp <;> omega)) _ | refine Below.drew ?_ | refine Below.trans ?_ (Below.mono (by assumption) (by first | omega | (simp <;> omega)))))
  go_enter Tryz.func62, Tryz.ntmps62
  go_wp2_with fail
  generalize hu : World.alloc _ _ = u
  have K : LS w.heap.size a y b V.zero u := by rw [← hu]; exact ⟨A, Y, B, R, O⟩
  have Bu : Below w.heap.size w u := by rw [← hu]; exact B0
  clear hu A Y B R O B0
  go_loopg [8] 16 (fun k p wr => ∃ i : Nat, i + k = 16 ∧ p = .int .i64 (i : Int) ∧ LS w.heap.size a y b (Rf.shufTo a y b i) wr ∧ Below w.heap.size w wr)
  case atStart => exact ⟨0, by omega, rfl, K, Bu⟩
  case round =>
    clear K Bu
    obtain ⟨i, hik, rfl, K0, B0⟩ := hrel
    by_cases hlt : i < 16
    · have l0 := K0.lt
      obtain ⟨ac, af, al⟩ := block_cells K0.A
      obtain ⟨yc, yf, yl⟩ := block_cells K0.Y
      go_wp2_with fail
      refine Flow.wp_region_below 7 (by kernel_rfl) (by kernel_rfl) (fun R hRc hRt => ?_)
      simp only [List.take_succ_cons, List.take_zero, List.drop_succ_cons, List.drop_zero]
      iterate 7
        first
          | refine Flow.flow_skip rfl ?_
          | (apply Flow.flow_step; rfl; (intro w1 hb; have hc := hRc.out w1 hb; go_simp; (first | with_reducible exact ⟨rfl, hb⟩ | (go_at_call 115; (with_reducible refine (lane8_c y i hlt _ ).mono ?_); rintro e w2 ⟨rfl, hb2⟩; exact ⟨_, rfl, rfl, hRt.out _ _ hb hb2⟩) | (go_at_call 115; (with_reducible refine (lane8U_c a (Rf.lane y 8 i &&& 15#32) (and15 _) _ ).mono ?_); rintro e w2 ⟨rfl, hb2⟩; exact ⟨_, rfl, rfl, hRt.out _ _ hb hb2⟩))))
        simp only [Act.put, List.setIfInBounds_toArray, List.set_cons_zero, List.set_cons_succ]
      apply Flow.flow_nil
      clear hRc hRt
      intro w1 hb
      obtain ⟨hc, hf⟩ := Flow.bcell hb
      have hz := hb.size
      (try simp only [World.size_alloc, World.size_setCell, World.size_drew] at hz)
      have K1 := K0.step hb
      have B1 : Below w.heap.size w w1 := B0.trans (hb.mono (by omega))
      have l1 := K1.lt
      clear hb hc hf ac af yc yf
      obtain ⟨bc, bf, bl⟩ := block_cells K1.B
      go_wp2_with fail
      clear bc bf
      (refine (lane8_c b i hlt _ ).mono ?_; rintro e u2 ⟨rfl, hb⟩; obtain ⟨hc, hf⟩ := Flow.bcell hb; have hz := hb.size; (try simp only [World.size_alloc, World.size_setCell, World.size_drew] at hz))
      have K2 := K1.step hb
      have B2 : Below w.heap.size w u2 := B1.trans (hb.mono (by omega))
      have l2 := K2.lt
      clear hb hc hf
      cases hd : decide (Rf.lane b 8 i &&& 15#32 = 0#32)
      · have hv : Rf.shufLane a y b i = 255#32 := by unfold Rf.shufLane; rw [hd]; rfl
        obtain ⟨oc, of, ol⟩ := block_cells K2.O
        have HV := Lib.hid hv
        clear hv
        go_wp2_with fail
        clear oc of
        (refine (setLane8_c (Rf.shufTo a y b i) i hlt 255#32 _ ).mono ?_; rintro e u3 ⟨rfl, hb⟩; obtain ⟨hc, hf⟩ := Flow.bcell hb; have hz := hb.size; (try simp only [World.size_alloc, World.size_setCell, World.size_drew] at hz))
        have K3 := K2.step hb
        have B3 : Below w.heap.size w u3 := B2.trans (hb.mono (by omega))
        clear hb hc hf
        obtain ⟨oc, of, ol⟩ := block_cells K3.O
        obtain ⟨u4, e4, O4, S4⟩ := store4 K3.O 0 1 2 3 (uv (Rf.setLane (Rf.shufTo a y b i) 8 i 255#32).a) (uv (Rf.setLane (Rf.shufTo a y b i) 8 i 255#32).b) (uv (Rf.setLane (Rf.shufTo a y b i) 8 i 255#32).c) (uv (Rf.setLane (Rf.shufTo a y b i) 8 i 255#32).d)
        go_wp2_with fail
        go_roundg (gk - 1)
        case measure => omega
        case rel => exact ⟨i + 1, by omega, by simp, K3.store S4 (by rw [Rf.shufTo, HV.out]; exact O4), B3.trans (S4.below _ (by omega))⟩
      · have hv : Rf.shufLane a y b i = Rf.lane a 8 (Rf.lane y 8 i &&& 15#32).toNat := by unfold Rf.shufLane; rw [hd]; rfl
        have HV := Lib.hid hv
        clear hv
        generalize Rf.lane a 8 (Rf.lane y 8 i &&& 15#32).toNat = q at *
        obtain ⟨oc, of, ol⟩ := block_cells K2.O
        go_wp2_with fail
        clear oc of
        (refine (setLane8_c (Rf.shufTo a y b i) i hlt q _ ).mono ?_; rintro e u3 ⟨rfl, hb⟩; obtain ⟨hc, hf⟩ := Flow.bcell hb; have hz := hb.size; (try simp only [World.size_alloc, World.size_setCell, World.size_drew] at hz))
        have K3 := K2.step hb
        have B3 : Below w.heap.size w u3 := B2.trans (hb.mono (by omega))
        clear hb hc hf
        obtain ⟨oc, of, ol⟩ := block_cells K3.O
        obtain ⟨u4, e4, O4, S4⟩ := store4 K3.O 0 1 2 3 (uv (Rf.setLane (Rf.shufTo a y b i) 8 i q).a) (uv (Rf.setLane (Rf.shufTo a y b i) 8 i q).b) (uv (Rf.setLane (Rf.shufTo a y b i) 8 i q).c) (uv (Rf.setLane (Rf.shufTo a y b i) 8 i q).d)
        go_wp2_with fail
        go_roundg (gk - 1)
        case measure => omega
        case rel => exact ⟨i + 1, by omega, by simp, K3.store S4 (by rw [Rf.shufTo, HV.out]; exact O4), B3.trans (S4.below _ (by omega))⟩
    · have hin : i = 16 := by omega
      subst hin
      obtain ⟨oc, of, ol⟩ := block_cells K0.O
      obtain ⟨rc, rf, rl⟩ := block_cells K0.R
      go_wp2_with fail
      refine Flow.bodyPost_k rfl (fun K hK => ?_)
      simp only [results, Tryz.results62]
      go_simp
      refine hK _ ⟨?_, ?_⟩
      · rfl
      · have hle : w.heap.size ≤ w.heap.size + 1 + 1 + 1 := by omega
        exact (((B0.setCell hle _).setCell hle _).setCell hle _).setCell hle _
end Go.Proofs.YtboknfppecgjmaaGreat
