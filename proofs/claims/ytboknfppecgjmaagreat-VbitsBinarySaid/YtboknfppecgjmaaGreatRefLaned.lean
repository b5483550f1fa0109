/- The reference's operations lane by lane, walked. -/
import Derived.Test.YtboknfppecgjmaaGreatRefWord
namespace Go.Proofs.YtboknfppecgjmaaGreat
set_option linter.unusedVariables false
set_option linter.unusedSimpArgs false
open Go.RowKit Go.Shelf
def Rf.equal (p q u v : BitVec 32) : BitVec 32 := if Rf.undecided (V.word (p ^^^ u)) (V.word (q ||| v)) = true then 4294967295#32 else 0#32
/-- The first so many lanes, each made by f. -/
def Rf.lanedTo (f : BitVec 32 → BitVec 32 → BitVec 32 → BitVec 32 → BitVec 32) (x a y b : V) (s : Nat) : Nat → V
  | 0 => V.zero
  | n + 1 => Rf.setLane (Rf.lanedTo f x a y b s n) s n (f (Rf.lane x s n) (Rf.lane a s n) (Rf.lane y s n) (Rf.lane b s n))
/-- The loop's memory: four operands, the result's place, what is made. -/
structure LB (n bo : Nat) (x a y b o : V) (W : World) : Prop where
  X : W.heap[n]? = some (vcell x)
  A : W.heap[n + 1]? = some (vcell a)
  Y : W.heap[n + 1 + 1]? = some (vcell y)
  B : W.heap[n + 1 + 1 + 1]? = some (vcell b)
  R : W.heap[n + 1 + 1 + 1 + 1]? = some (vcell V.zero)
  O : W.heap[bo]? = some (vcell o)
  h : n + 1 + 1 + 1 + 1 < bo
theorem LB.lt {n bo : Nat} {x a y b o : V} {W : World} (K : LB n bo x a y b o W) : bo < W.heap.size := (Array.getElem?_eq_some_iff.1 K.O).1
theorem LB.step {n bo : Nat} {x a y b o : V} {W W' : World} (K : LB n bo x a y b o W) (hb : Below W.heap.size W W') : LB n bo x a y b o W' := by
  have h1 := K.lt
  have h2 := K.h
  exact ⟨(hb.block _ (by omega)).trans K.X, (hb.block _ (by omega)).trans K.A, (hb.block _ (by omega)).trans K.Y, (hb.block _ (by omega)).trans K.B, (hb.block _ (by omega)).trans K.R, (hb.block _ h1).trans K.O, h2⟩
theorem LB.store {n bo : Nat} {x a y b o p : V} {W W' : World} (K : LB n bo x a y b o W) (hS : Stored bo W W') (hO : W'.heap[bo]? = some (vcell p)) : LB n bo x a y b p W' := by
  have h2 := K.h
  exact ⟨(hS.other _ (by omega)).trans K.X, (hS.other _ (by omega)).trans K.A, (hS.other _ (by omega)).trans K.Y, (hS.other _ (by omega)).trans K.B, (hS.other _ (by omega)).trans K.R, hO, h2⟩
theorem heap_alloc5 (w : World) (a b c d e : Obj) : (((((w.alloc a).alloc b).alloc c).alloc d).alloc e).heap[w.heap.size]? = some a ∧ (((((w.alloc a).alloc b).alloc c).alloc d).alloc e).heap[w.heap.size + 1]? = some b ∧
    (((((w.alloc a).alloc b).alloc c).alloc d).alloc e).heap[w.heap.size + 1 + 1]? = some c ∧ (((((w.alloc a).alloc b).alloc c).alloc d).alloc e).heap[w.heap.size + 1 + 1 + 1]? = some d ∧ (((((w.alloc a).alloc b).alloc c).alloc d).alloc e).heap[w.heap.size + 1 + 1 + 1 + 1]? = some e := by
  obtain ⟨h0, h1, h2, h3⟩ := heap_alloc4 w a b c d
  have s4 : ((((w.alloc a).alloc b).alloc c).alloc d).heap.size = w.heap.size + 1 + 1 + 1 + 1 := by simp
  have h4 := heap_alloc_new ((((w.alloc a).alloc b).alloc c).alloc d) e
  rw [s4] at h4
  exact ⟨(Below.heap_alloc _ e _ (by omega)).trans h0, (Below.heap_alloc _ e _ (by omega)).trans h1, (Below.heap_alloc _ e _ (by omega)).trans h2, (Below.heap_alloc _ e _ (by omega)).trans h3, h4⟩

set_option maxHeartbeats 400000 in
theorem size20_c (w : World) : Calls Tryz.prog 117 #[iv (20 : Int)] w fun e w' => e = .returned (iv (8 : Int)) ∧ Below w.heap.size w w' := by
  go_enter Tryz.func117, Tryz.ntmps117
  go_wp2
  go_ret
  exact ⟨rfl, by (repeat (first | exact Below.refl _ _ | refine Below.setCell ?_ (by first | omega | (simp <;> omega)) _ | refine Below.alloc ?_ (by first | omega | (simp <;> omega)) _ | refine Below.drew ?_ | refine Below.trans ?_ (Below.mono (by assumption) (by first | omega | (simp <;> omega)))))⟩
set_option maxRecDepth 100000 in
set_option maxHeartbeats 8000000 in
theorem laned20_c (x a y b : V) (w : World) : Calls Tryz.prog 63 #[iv (20 : Int), vv x, vv a, vv y, vv b] w fun e w' => e = .returned (vv (Rf.lanedTo Vb.added x a y b 8 16)) ∧ Below w.heap.size w w' := by
  obtain ⟨X, A, Y, B, R⟩ := heap_alloc5 w (vcell x) (vcell a) (vcell y) (vcell b) (vcell V.zero)
  go_enter Tryz.func63, Tryz.ntmps63
  go_wp2_with fail
  (refine (size20_c _ ).mono ?_; rintro e u1 ⟨rfl, hb⟩; obtain ⟨hc, hf⟩ := Flow.bcell hb; have hz := hb.size; (try simp only [World.size_alloc, World.size_setCell, World.size_drew] at hz))
  have hz' := hb.size
  simp only [World.size_alloc] at hz'
  have X1 := (hb.block w.heap.size (by simp <;> omega)).trans X
  have A1 := (hb.block (w.heap.size + 1) (by simp <;> omega)).trans A
  have Y1 := (hb.block (w.heap.size + 1 + 1) (by simp <;> omega)).trans Y
  have b1 := (hb.block (w.heap.size + 1 + 1 + 1) (by simp <;> omega)).trans B
  have R1 := (hb.block (w.heap.size + 1 + 1 + 1 + 1) (by simp)).trans R
  have B1 : Below w.heap.size w u1 := by (repeat (first | exact Below.refl _ _ | refine Below.setCell ?_ (by first | omega | (simp <;> omega)) _ | refine Below.alloc ?_ (by first | omega | (simp <;> omega)) _ | refine Below.drew ?_ | refine Below.trans ?_ (Below.mono (by assumption) (by first | omega | (simp <;> omega)))))
  clear X A Y B R hb hc hf
  go_wp2_with fail
  generalize hu : World.alloc _ _ = u
  have K : LB w.heap.size u1.heap.size x a y b V.zero u := by
    rw [← hu]
    exact ⟨(Below.heap_alloc u1 _ _ (by omega)).trans X1, (Below.heap_alloc u1 _ _ (by omega)).trans A1, (Below.heap_alloc u1 _ _ (by omega)).trans Y1, (Below.heap_alloc u1 _ _ (by omega)).trans b1, (Below.heap_alloc u1 _ _ (by omega)).trans R1, heap_alloc_new u1 _, by omega⟩
  have B : Below w.heap.size w u := by rw [← hu]; exact B1.alloc (by omega) _
  clear hu X1 A1 Y1 b1 R1 B1 hz' hz
  generalize u1.heap.size = bo at *
  go_loopg [13] 16 (fun k p wr => ∃ i : Nat, i + k = 16 ∧ p = .int .i64 (i : Int) ∧ LB w.heap.size bo x a y b (Rf.lanedTo Vb.added x a y b 8 i) wr ∧ Below w.heap.size w wr)
  case atStart => exact ⟨0, by omega, rfl, K, B⟩
  case round =>
    clear K B
    obtain ⟨i, hik, rfl, K0, B0⟩ := hrel
    by_cases hlt : i < 16
    · skip
      obtain ⟨xc, xf, xl⟩ := block_cells K0.X
      obtain ⟨ac, af, al⟩ := block_cells K0.A
      obtain ⟨yc, yf, yl⟩ := block_cells K0.Y
      obtain ⟨bc, bf, bl⟩ := block_cells K0.B
      obtain ⟨oc, of, ol⟩ := block_cells K0.O
      go_wp2_with fail
      clear xc xf ac af yc yf bc bf oc of
      (refine (lane8_c x i hlt _ ).mono ?_; rintro e u1 ⟨rfl, hb⟩; obtain ⟨hc, hf⟩ := Flow.bcell hb; have hz := hb.size; (try simp only [World.size_alloc, World.size_setCell, World.size_drew] at hz))
      have K1 := K0.step hb
      have B1 : Below w.heap.size w u1 := B0.trans (hb.mono (by have := K0.lt; have := K0.h; omega))
      clear hb hc hf
      obtain ⟨xc, xf, xl⟩ := block_cells K1.X
      obtain ⟨ac, af, al⟩ := block_cells K1.A
      obtain ⟨yc, yf, yl⟩ := block_cells K1.Y
      obtain ⟨bc, bf, bl⟩ := block_cells K1.B
      obtain ⟨oc, of, ol⟩ := block_cells K1.O
      go_wp2_with fail
      clear xc xf ac af yc yf bc bf oc of
      (refine (lane8_c a i hlt _ ).mono ?_; rintro e u2 ⟨rfl, hb⟩; obtain ⟨hc, hf⟩ := Flow.bcell hb; have hz := hb.size; (try simp only [World.size_alloc, World.size_setCell, World.size_drew] at hz))
      have K2 := K1.step hb
      have B2 : Below w.heap.size w u2 := B1.trans (hb.mono (by have := K1.lt; have := K1.h; omega))
      clear hb hc hf
      obtain ⟨xc, xf, xl⟩ := block_cells K2.X
      obtain ⟨ac, af, al⟩ := block_cells K2.A
      obtain ⟨yc, yf, yl⟩ := block_cells K2.Y
      obtain ⟨bc, bf, bl⟩ := block_cells K2.B
      obtain ⟨oc, of, ol⟩ := block_cells K2.O
      go_wp2_with fail
      clear xc xf ac af yc yf bc bf oc of
      (refine (lane8_c y i hlt _ ).mono ?_; rintro e u3 ⟨rfl, hb⟩; obtain ⟨hc, hf⟩ := Flow.bcell hb; have hz := hb.size; (try simp only [World.size_alloc, World.size_setCell, World.size_drew] at hz))
      have K3 := K2.step hb
      have B3 : Below w.heap.size w u3 := B2.trans (hb.mono (by have := K2.lt; have := K2.h; omega))
      clear hb hc hf
      obtain ⟨xc, xf, xl⟩ := block_cells K3.X
      obtain ⟨ac, af, al⟩ := block_cells K3.A
      obtain ⟨yc, yf, yl⟩ := block_cells K3.Y
      obtain ⟨bc, bf, bl⟩ := block_cells K3.B
      obtain ⟨oc, of, ol⟩ := block_cells K3.O
      go_wp2_with fail
      clear xc xf ac af yc yf bc bf oc of
      (refine (lane8_c b i hlt _ ).mono ?_; rintro e u4 ⟨rfl, hb⟩; obtain ⟨hc, hf⟩ := Flow.bcell hb; have hz := hb.size; (try simp only [World.size_alloc, World.size_setCell, World.size_drew] at hz))
      have K4 := K3.step hb
      have B4 : Below w.heap.size w u4 := B3.trans (hb.mono (by have := K3.lt; have := K3.h; omega))
      clear hb hc hf
      go_wp2_with fail
      (refine (rsum_c (Rf.lane x 8 i) (Rf.lane a 8 i) (Rf.lane y 8 i) (Rf.lane b 8 i) _ ).mono ?_; rintro e u5 ⟨rfl, hb⟩; obtain ⟨hc, hf⟩ := Flow.bcell hb; have hz := hb.size; (try simp only [World.size_alloc, World.size_setCell, World.size_drew] at hz))
      have K5 := K4.step hb
      have B5 : Below w.heap.size w u5 := B4.trans (hb.mono (by have := K4.lt; have := K4.h; omega))
      clear hb hc hf
      obtain ⟨q, hq⟩ : ∃ q, Hid (q = Vb.added (Rf.lane x 8 i) (Rf.lane a 8 i) (Rf.lane y 8 i) (Rf.lane b 8 i)) := ⟨_, Lib.hid rfl⟩
      rw [← hq.out]
      obtain ⟨oc, of, ol⟩ := block_cells K5.O
      go_wp2_with fail
      clear oc of
      (refine (setLane8_c (Rf.lanedTo Vb.added x a y b 8 i) i hlt q _ ).mono ?_; rintro e u6 ⟨rfl, hb⟩; obtain ⟨hc, hf⟩ := Flow.bcell hb; have hz := hb.size; (try simp only [World.size_alloc, World.size_setCell, World.size_drew] at hz))
      have K6 := K5.step hb
      have B6 : Below w.heap.size w u6 := B5.trans (hb.mono (by have := K5.lt; have := K5.h; omega))
      clear hb hc hf
      obtain ⟨oc, of, ol⟩ := block_cells K6.O
      obtain ⟨u7, e7, O7, S7⟩ := store4 K6.O 0 1 2 3 (uv (Rf.setLane (Rf.lanedTo Vb.added x a y b 8 i) 8 i q).a) (uv (Rf.setLane (Rf.lanedTo Vb.added x a y b 8 i) 8 i q).b) (uv (Rf.setLane (Rf.lanedTo Vb.added x a y b 8 i) 8 i q).c) (uv (Rf.setLane (Rf.lanedTo Vb.added x a y b 8 i) 8 i q).d)
      go_wp2_with fail
      go_roundg (gk - 1)
      case measure => omega
      case rel => exact ⟨i + 1, by omega, by simp, K6.store S7 (by rw [Rf.lanedTo, ← hq.out]; exact O7), B6.trans (S7.below _ (by have := K6.h; omega))⟩
    · have hin : i = 16 := by omega
      subst hin
      obtain ⟨oc, of, ol⟩ := block_cells K0.O
      obtain ⟨rc, rf, rl⟩ := block_cells K0.R
      go_wp2_with fail
      refine Flow.bodyPost_k rfl (fun K hK => ?_)
      simp only [results, Tryz.results63]
      go_simp
      refine hK _ ⟨?_, ?_⟩
      · rfl
      · have hle : w.heap.size ≤ w.heap.size + 1 + 1 + 1 + 1 := by omega
        exact (((B0.setCell hle _).setCell hle _).setCell hle _).setCell hle _
set_option maxHeartbeats 400000 in
theorem size21_c (w : World) : Calls Tryz.prog 117 #[iv (21 : Int)] w fun e w' => e = .returned (iv (16 : Int)) ∧ Below w.heap.size w w' := by
  go_enter Tryz.func117, Tryz.ntmps117
  go_wp2
  go_ret
  exact ⟨rfl, by (repeat (first | exact Below.refl _ _ | refine Below.setCell ?_ (by first | omega | (simp <;> omega)) _ | refine Below.alloc ?_ (by first | omega | (simp <;> omega)) _ | refine Below.drew ?_ | refine Below.trans ?_ (Below.mono (by assumption) (by first | omega | (simp <;> omega)))))⟩
set_option maxRecDepth 100000 in
set_option maxHeartbeats 8000000 in
theorem laned21_c (x a y b : V) (w : World) : Calls Tryz.prog 63 #[iv (21 : Int), vv x, vv a, vv y, vv b] w fun e w' => e = .returned (vv (Rf.lanedTo Vb.added x a y b 16 8)) ∧ Below w.heap.size w w' := by
  obtain ⟨X, A, Y, B, R⟩ := heap_alloc5 w (vcell x) (vcell a) (vcell y) (vcell b) (vcell V.zero)
  go_enter Tryz.func63, Tryz.ntmps63
  go_wp2_with fail
  (refine (size21_c _ ).mono ?_; rintro e u1 ⟨rfl, hb⟩; obtain ⟨hc, hf⟩ := Flow.bcell hb; have hz := hb.size; (try simp only [World.size_alloc, World.size_setCell, World.size_drew] at hz))
  have hz' := hb.size
  simp only [World.size_alloc] at hz'
  have X1 := (hb.block w.heap.size (by simp <;> omega)).trans X
  have A1 := (hb.block (w.heap.size + 1) (by simp <;> omega)).trans A
  have Y1 := (hb.block (w.heap.size + 1 + 1) (by simp <;> omega)).trans Y
  have b1 := (hb.block (w.heap.size + 1 + 1 + 1) (by simp <;> omega)).trans B
  have R1 := (hb.block (w.heap.size + 1 + 1 + 1 + 1) (by simp)).trans R
  have B1 : Below w.heap.size w u1 := by (repeat (first | exact Below.refl _ _ | refine Below.setCell ?_ (by first | omega | (simp <;> omega)) _ | refine Below.alloc ?_ (by first | omega | (simp <;> omega)) _ | refine Below.drew ?_ | refine Below.trans ?_ (Below.mono (by assumption) (by first | omega | (simp <;> omega)))))
  clear X A Y B R hb hc hf
  go_wp2_with fail
  generalize hu : World.alloc _ _ = u
  have K : LB w.heap.size u1.heap.size x a y b V.zero u := by
    rw [← hu]
    exact ⟨(Below.heap_alloc u1 _ _ (by omega)).trans X1, (Below.heap_alloc u1 _ _ (by omega)).trans A1, (Below.heap_alloc u1 _ _ (by omega)).trans Y1, (Below.heap_alloc u1 _ _ (by omega)).trans b1, (Below.heap_alloc u1 _ _ (by omega)).trans R1, heap_alloc_new u1 _, by omega⟩
  have B : Below w.heap.size w u := by rw [← hu]; exact B1.alloc (by omega) _
  clear hu X1 A1 Y1 b1 R1 B1 hz' hz
  generalize u1.heap.size = bo at *
  go_loopg [13] 8 (fun k p wr => ∃ i : Nat, i + k = 8 ∧ p = .int .i64 (i : Int) ∧ LB w.heap.size bo x a y b (Rf.lanedTo Vb.added x a y b 16 i) wr ∧ Below w.heap.size w wr)
  case atStart => exact ⟨0, by omega, rfl, K, B⟩
  case round =>
    clear K B
    obtain ⟨i, hik, rfl, K0, B0⟩ := hrel
    by_cases hlt : i < 8
    · skip
      obtain ⟨xc, xf, xl⟩ := block_cells K0.X
      obtain ⟨ac, af, al⟩ := block_cells K0.A
      obtain ⟨yc, yf, yl⟩ := block_cells K0.Y
      obtain ⟨bc, bf, bl⟩ := block_cells K0.B
      obtain ⟨oc, of, ol⟩ := block_cells K0.O
      go_wp2_with fail
      clear xc xf ac af yc yf bc bf oc of
      (refine (lane16_c x i hlt _ ).mono ?_; rintro e u1 ⟨rfl, hb⟩; obtain ⟨hc, hf⟩ := Flow.bcell hb; have hz := hb.size; (try simp only [World.size_alloc, World.size_setCell, World.size_drew] at hz))
      have K1 := K0.step hb
      have B1 : Below w.heap.size w u1 := B0.trans (hb.mono (by have := K0.lt; have := K0.h; omega))
      clear hb hc hf
      obtain ⟨xc, xf, xl⟩ := block_cells K1.X
      obtain ⟨ac, af, al⟩ := block_cells K1.A
      obtain ⟨yc, yf, yl⟩ := block_cells K1.Y
      obtain ⟨bc, bf, bl⟩ := block_cells K1.B
      obtain ⟨oc, of, ol⟩ := block_cells K1.O
      go_wp2_with fail
      clear xc xf ac af yc yf bc bf oc of
      (refine (lane16_c a i hlt _ ).mono ?_; rintro e u2 ⟨rfl, hb⟩; obtain ⟨hc, hf⟩ := Flow.bcell hb; have hz := hb.size; (try simp only [World.size_alloc, World.size_setCell, World.size_drew] at hz))
      have K2 := K1.step hb
      have B2 : Below w.heap.size w u2 := B1.trans (hb.mono (by have := K1.lt; have := K1.h; omega))
      clear hb hc hf
      obtain ⟨xc, xf, xl⟩ := block_cells K2.X
      obtain ⟨ac, af, al⟩ := block_cells K2.A
      obtain ⟨yc, yf, yl⟩ := block_cells K2.Y
      obtain ⟨bc, bf, bl⟩ := block_cells K2.B
      obtain ⟨oc, of, ol⟩ := block_cells K2.O
      go_wp2_with fail
      clear xc xf ac af yc yf bc bf oc of
      (refine (lane16_c y i hlt _ ).mono ?_; rintro e u3 ⟨rfl, hb⟩; obtain ⟨hc, hf⟩ := Flow.bcell hb; have hz := hb.size; (try simp only [World.size_alloc, World.size_setCell, World.size_drew] at hz))
      have K3 := K2.step hb
      have B3 : Below w.heap.size w u3 := B2.trans (hb.mono (by have := K2.lt; have := K2.h; omega))
      clear hb hc hf
      obtain ⟨xc, xf, xl⟩ := block_cells K3.X
      obtain ⟨ac, af, al⟩ := block_cells K3.A
      obtain ⟨yc, yf, yl⟩ := block_cells K3.Y
      obtain ⟨bc, bf, bl⟩ := block_cells K3.B
      obtain ⟨oc, of, ol⟩ := block_cells K3.O
      go_wp2_with fail
      clear xc xf ac af yc yf bc bf oc of
      (refine (lane16_c b i hlt _ ).mono ?_; rintro e u4 ⟨rfl, hb⟩; obtain ⟨hc, hf⟩ := Flow.bcell hb; have hz := hb.size; (try simp only [World.size_alloc, World.size_setCell, World.size_drew] at hz))
      have K4 := K3.step hb
      have B4 : Below w.heap.size w u4 := B3.trans (hb.mono (by have := K3.lt; have := K3.h; omega))
      clear hb hc hf
      go_wp2_with fail
      (refine (rsum_c (Rf.lane x 16 i) (Rf.lane a 16 i) (Rf.lane y 16 i) (Rf.lane b 16 i) _ ).mono ?_; rintro e u5 ⟨rfl, hb⟩; obtain ⟨hc, hf⟩ := Flow.bcell hb; have hz := hb.size; (try simp only [World.size_alloc, World.size_setCell, World.size_drew] at hz))
      have K5 := K4.step hb
      have B5 : Below w.heap.size w u5 := B4.trans (hb.mono (by have := K4.lt; have := K4.h; omega))
      clear hb hc hf
      obtain ⟨q, hq⟩ : ∃ q, Hid (q = Vb.added (Rf.lane x 16 i) (Rf.lane a 16 i) (Rf.lane y 16 i) (Rf.lane b 16 i)) := ⟨_, Lib.hid rfl⟩
      rw [← hq.out]
      obtain ⟨oc, of, ol⟩ := block_cells K5.O
      go_wp2_with fail
      clear oc of
      (refine (setLane16_c (Rf.lanedTo Vb.added x a y b 16 i) i hlt q _ ).mono ?_; rintro e u6 ⟨rfl, hb⟩; obtain ⟨hc, hf⟩ := Flow.bcell hb; have hz := hb.size; (try simp only [World.size_alloc, World.size_setCell, World.size_drew] at hz))
      have K6 := K5.step hb
      have B6 : Below w.heap.size w u6 := B5.trans (hb.mono (by have := K5.lt; have := K5.h; omega))
      clear hb hc hf
      obtain ⟨oc, of, ol⟩ := block_cells K6.O
      obtain ⟨u7, e7, O7, S7⟩ := store4 K6.O 0 1 2 3 (uv (Rf.setLane (Rf.lanedTo Vb.added x a y b 16 i) 16 i q).a) (uv (Rf.setLane (Rf.lanedTo Vb.added x a y b 16 i) 16 i q).b) (uv (Rf.setLane (Rf.lanedTo Vb.added x a y b 16 i) 16 i q).c) (uv (Rf.setLane (Rf.lanedTo Vb.added x a y b 16 i) 16 i q).d)
      go_wp2_with fail
      go_roundg (gk - 1)
      case measure => omega
      case rel => exact ⟨i + 1, by omega, by simp, K6.store S7 (by rw [Rf.lanedTo, ← hq.out]; exact O7), B6.trans (S7.below _ (by have := K6.h; omega))⟩
    · have hin : i = 8 := by omega
      subst hin
      obtain ⟨oc, of, ol⟩ := block_cells K0.O
      obtain ⟨rc, rf, rl⟩ := block_cells K0.R
      go_wp2_with fail
      refine Flow.bodyPost_k rfl (fun K hK => ?_)
      simp only [results, Tryz.results63]
      go_simp
      refine hK _ ⟨?_, ?_⟩
      · rfl
      · have hle : w.heap.size ≤ w.heap.size + 1 + 1 + 1 + 1 := by omega
        exact (((B0.setCell hle _).setCell hle _).setCell hle _).setCell hle _
set_option maxHeartbeats 400000 in
theorem size22_c (w : World) : Calls Tryz.prog 117 #[iv (22 : Int)] w fun e w' => e = .returned (iv (32 : Int)) ∧ Below w.heap.size w w' := by
  go_enter Tryz.func117, Tryz.ntmps117
  go_wp2
  go_ret
  exact ⟨rfl, by (repeat (first | exact Below.refl _ _ | refine Below.setCell ?_ (by first | omega | (simp <;> omega)) _ | refine Below.alloc ?_ (by first | omega | (simp <;> omega)) _ | refine Below.drew ?_ | refine Below.trans ?_ (Below.mono (by assumption) (by first | omega | (simp <;> omega)))))⟩
set_option maxRecDepth 100000 in
set_option maxHeartbeats 8000000 in
theorem laned22_c (x a y b : V) (w : World) : Calls Tryz.prog 63 #[iv (22 : Int), vv x, vv a, vv y, vv b] w fun e w' => e = .returned (vv (Rf.lanedTo Vb.added x a y b 32 4)) ∧ Below w.heap.size w w' := by
  obtain ⟨X, A, Y, B, R⟩ := heap_alloc5 w (vcell x) (vcell a) (vcell y) (vcell b) (vcell V.zero)
  go_enter Tryz.func63, Tryz.ntmps63
  go_wp2_with fail
  (refine (size22_c _ ).mono ?_; rintro e u1 ⟨rfl, hb⟩; obtain ⟨hc, hf⟩ := Flow.bcell hb; have hz := hb.size; (try simp only [World.size_alloc, World.size_setCell, World.size_drew] at hz))
  have hz' := hb.size
  simp only [World.size_alloc] at hz'
  have X1 := (hb.block w.heap.size (by simp <;> omega)).trans X
  have A1 := (hb.block (w.heap.size + 1) (by simp <;> omega)).trans A
  have Y1 := (hb.block (w.heap.size + 1 + 1) (by simp <;> omega)).trans Y
  have b1 := (hb.block (w.heap.size + 1 + 1 + 1) (by simp <;> omega)).trans B
  have R1 := (hb.block (w.heap.size + 1 + 1 + 1 + 1) (by simp)).trans R
  have B1 : Below w.heap.size w u1 := by (repeat (first | exact Below.refl _ _ | refine Below.setCell ?_ (by first | omega | (simp <;> omega)) _ | refine Below.alloc ?_ (by first | omega | (simp <;> omega)) _ | refine Below.drew ?_ | refine Below.trans ?_ (Below.mono (by assumption) (by first | omega | (simp <;> omega)))))
  clear X A Y B R hb hc hf
  go_wp2_with fail
  generalize hu : World.alloc _ _ = u
  have K : LB w.heap.size u1.heap.size x a y b V.zero u := by
    rw [← hu]
    exact ⟨(Below.heap_alloc u1 _ _ (by omega)).trans X1, (Below.heap_alloc u1 _ _ (by omega)).trans A1, (Below.heap_alloc u1 _ _ (by omega)).trans Y1, (Below.heap_alloc u1 _ _ (by omega)).trans b1, (Below.heap_alloc u1 _ _ (by omega)).trans R1, heap_alloc_new u1 _, by omega⟩
  have B : Below w.heap.size w u := by rw [← hu]; exact B1.alloc (by omega) _
  clear hu X1 A1 Y1 b1 R1 B1 hz' hz
  generalize u1.heap.size = bo at *
  go_loopg [13] 4 (fun k p wr => ∃ i : Nat, i + k = 4 ∧ p = .int .i64 (i : Int) ∧ LB w.heap.size bo x a y b (Rf.lanedTo Vb.added x a y b 32 i) wr ∧ Below w.heap.size w wr)
  case atStart => exact ⟨0, by omega, rfl, K, B⟩
  case round =>
    clear K B
    obtain ⟨i, hik, rfl, K0, B0⟩ := hrel
    by_cases hlt : i < 4
    · skip
      obtain ⟨xc, xf, xl⟩ := block_cells K0.X
      obtain ⟨ac, af, al⟩ := block_cells K0.A
      obtain ⟨yc, yf, yl⟩ := block_cells K0.Y
      obtain ⟨bc, bf, bl⟩ := block_cells K0.B
      obtain ⟨oc, of, ol⟩ := block_cells K0.O
      go_wp2_with fail
      clear xc xf ac af yc yf bc bf oc of
      (refine (lane32_c x i hlt _ ).mono ?_; rintro e u1 ⟨rfl, hb⟩; obtain ⟨hc, hf⟩ := Flow.bcell hb; have hz := hb.size; (try simp only [World.size_alloc, World.size_setCell, World.size_drew] at hz))
      have K1 := K0.step hb
      have B1 : Below w.heap.size w u1 := B0.trans (hb.mono (by have := K0.lt; have := K0.h; omega))
      clear hb hc hf
      obtain ⟨xc, xf, xl⟩ := block_cells K1.X
      obtain ⟨ac, af, al⟩ := block_cells K1.A
      obtain ⟨yc, yf, yl⟩ := block_cells K1.Y
      obtain ⟨bc, bf, bl⟩ := block_cells K1.B
      obtain ⟨oc, of, ol⟩ := block_cells K1.O
      go_wp2_with fail
      clear xc xf ac af yc yf bc bf oc of
      (refine (lane32_c a i hlt _ ).mono ?_; rintro e u2 ⟨rfl, hb⟩; obtain ⟨hc, hf⟩ := Flow.bcell hb; have hz := hb.size; (try simp only [World.size_alloc, World.size_setCell, World.size_drew] at hz))
      have K2 := K1.step hb
      have B2 : Below w.heap.size w u2 := B1.trans (hb.mono (by have := K1.lt; have := K1.h; omega))
      clear hb hc hf
      obtain ⟨xc, xf, xl⟩ := block_cells K2.X
      obtain ⟨ac, af, al⟩ := block_cells K2.A
      obtain ⟨yc, yf, yl⟩ := block_cells K2.Y
      obtain ⟨bc, bf, bl⟩ := block_cells K2.B
      obtain ⟨oc, of, ol⟩ := block_cells K2.O
      go_wp2_with fail
      clear xc xf ac af yc yf bc bf oc of
      (refine (lane32_c y i hlt _ ).mono ?_; rintro e u3 ⟨rfl, hb⟩; obtain ⟨hc, hf⟩ := Flow.bcell hb; have hz := hb.size; (try simp only [World.size_alloc, World.size_setCell, World.size_drew] at hz))
      have K3 := K2.step hb
      have B3 : Below w.heap.size w u3 := B2.trans (hb.mono (by have := K2.lt; have := K2.h; omega))
      clear hb hc hf
      obtain ⟨xc, xf, xl⟩ := block_cells K3.X
      obtain ⟨ac, af, al⟩ := block_cells K3.A
      obtain ⟨yc, yf, yl⟩ := block_cells K3.Y
      obtain ⟨bc, bf, bl⟩ := block_cells K3.B
      obtain ⟨oc, of, ol⟩ := block_cells K3.O
      go_wp2_with fail
      clear xc xf ac af yc yf bc bf oc of
      (refine (lane32_c b i hlt _ ).mono ?_; rintro e u4 ⟨rfl, hb⟩; obtain ⟨hc, hf⟩ := Flow.bcell hb; have hz := hb.size; (try simp only [World.size_alloc, World.size_setCell, World.size_drew] at hz))
      have K4 := K3.step hb
      have B4 : Below w.heap.size w u4 := B3.trans (hb.mono (by have := K3.lt; have := K3.h; omega))
      clear hb hc hf
      go_wp2_with fail
      (refine (rsum_c (Rf.lane x 32 i) (Rf.lane a 32 i) (Rf.lane y 32 i) (Rf.lane b 32 i) _ ).mono ?_; rintro e u5 ⟨rfl, hb⟩; obtain ⟨hc, hf⟩ := Flow.bcell hb; have hz := hb.size; (try simp only [World.size_alloc, World.size_setCell, World.size_drew] at hz))
      have K5 := K4.step hb
      have B5 : Below w.heap.size w u5 := B4.trans (hb.mono (by have := K4.lt; have := K4.h; omega))
      clear hb hc hf
      obtain ⟨q, hq⟩ : ∃ q, Hid (q = Vb.added (Rf.lane x 32 i) (Rf.lane a 32 i) (Rf.lane y 32 i) (Rf.lane b 32 i)) := ⟨_, Lib.hid rfl⟩
      rw [← hq.out]
      obtain ⟨oc, of, ol⟩ := block_cells K5.O
      go_wp2_with fail
      clear oc of
      (refine (setLane32_c (Rf.lanedTo Vb.added x a y b 32 i) i hlt q _ ).mono ?_; rintro e u6 ⟨rfl, hb⟩; obtain ⟨hc, hf⟩ := Flow.bcell hb; have hz := hb.size; (try simp only [World.size_alloc, World.size_setCell, World.size_drew] at hz))
      have K6 := K5.step hb
      have B6 : Below w.heap.size w u6 := B5.trans (hb.mono (by have := K5.lt; have := K5.h; omega))
      clear hb hc hf
      obtain ⟨oc, of, ol⟩ := block_cells K6.O
      obtain ⟨u7, e7, O7, S7⟩ := store4 K6.O 0 1 2 3 (uv (Rf.setLane (Rf.lanedTo Vb.added x a y b 32 i) 32 i q).a) (uv (Rf.setLane (Rf.lanedTo Vb.added x a y b 32 i) 32 i q).b) (uv (Rf.setLane (Rf.lanedTo Vb.added x a y b 32 i) 32 i q).c) (uv (Rf.setLane (Rf.lanedTo Vb.added x a y b 32 i) 32 i q).d)
      go_wp2_with fail
      go_roundg (gk - 1)
      case measure => omega
      case rel => exact ⟨i + 1, by omega, by simp, K6.store S7 (by rw [Rf.lanedTo, ← hq.out]; exact O7), B6.trans (S7.below _ (by have := K6.h; omega))⟩
    · have hin : i = 4 := by omega
      subst hin
      obtain ⟨oc, of, ol⟩ := block_cells K0.O
      obtain ⟨rc, rf, rl⟩ := block_cells K0.R
      go_wp2_with fail
      refine Flow.bodyPost_k rfl (fun K hK => ?_)
      simp only [results, Tryz.results63]
      go_simp
      refine hK _ ⟨?_, ?_⟩
      · rfl
      · have hle : w.heap.size ≤ w.heap.size + 1 + 1 + 1 + 1 := by omega
        exact (((B0.setCell hle _).setCell hle _).setCell hle _).setCell hle _
set_option maxHeartbeats 400000 in
theorem size23_c (w : World) : Calls Tryz.prog 117 #[iv (23 : Int)] w fun e w' => e = .returned (iv (8 : Int)) ∧ Below w.heap.size w w' := by
  go_enter Tryz.func117, Tryz.ntmps117
  go_wp2
  go_ret
  exact ⟨rfl, by (repeat (first | exact Below.refl _ _ | refine Below.setCell ?_ (by first | omega | (simp <;> omega)) _ | refine Below.alloc ?_ (by first | omega | (simp <;> omega)) _ | refine Below.drew ?_ | refine Below.trans ?_ (Below.mono (by assumption) (by first | omega | (simp <;> omega)))))⟩
set_option maxRecDepth 100000 in
set_option maxHeartbeats 8000000 in
theorem laned23_c (x a y b : V) (w : World) : Calls Tryz.prog 63 #[iv (23 : Int), vv x, vv a, vv y, vv b] w fun e w' => e = .returned (vv (Rf.lanedTo Vb.subtracted x a y b 8 16)) ∧ Below w.heap.size w w' := by
  obtain ⟨X, A, Y, B, R⟩ := heap_alloc5 w (vcell x) (vcell a) (vcell y) (vcell b) (vcell V.zero)
  go_enter Tryz.func63, Tryz.ntmps63
  go_wp2_with fail
  (refine (size23_c _ ).mono ?_; rintro e u1 ⟨rfl, hb⟩; obtain ⟨hc, hf⟩ := Flow.bcell hb; have hz := hb.size; (try simp only [World.size_alloc, World.size_setCell, World.size_drew] at hz))
  have hz' := hb.size
  simp only [World.size_alloc] at hz'
  have X1 := (hb.block w.heap.size (by simp <;> omega)).trans X
  have A1 := (hb.block (w.heap.size + 1) (by simp <;> omega)).trans A
  have Y1 := (hb.block (w.heap.size + 1 + 1) (by simp <;> omega)).trans Y
  have b1 := (hb.block (w.heap.size + 1 + 1 + 1) (by simp <;> omega)).trans B
  have R1 := (hb.block (w.heap.size + 1 + 1 + 1 + 1) (by simp)).trans R
  have B1 : Below w.heap.size w u1 := by (repeat (first | exact Below.refl _ _ | refine Below.setCell ?_ (by first | omega | (simp <;> omega)) _ | refine Below.alloc ?_ (by first | omega | (simp <;> omega)) _ | refine Below.drew ?_ | refine Below.trans ?_ (Below.mono (by assumption) (by first | omega | (simp <;> omega)))))
  clear X A Y B R hb hc hf
  go_wp2_with fail
  generalize hu : World.alloc _ _ = u
  have K : LB w.heap.size u1.heap.size x a y b V.zero u := by
    rw [← hu]
    exact ⟨(Below.heap_alloc u1 _ _ (by omega)).trans X1, (Below.heap_alloc u1 _ _ (by omega)).trans A1, (Below.heap_alloc u1 _ _ (by omega)).trans Y1, (Below.heap_alloc u1 _ _ (by omega)).trans b1, (Below.heap_alloc u1 _ _ (by omega)).trans R1, heap_alloc_new u1 _, by omega⟩
  have B : Below w.heap.size w u := by rw [← hu]; exact B1.alloc (by omega) _
  clear hu X1 A1 Y1 b1 R1 B1 hz' hz
  generalize u1.heap.size = bo at *
  go_loopg [13] 16 (fun k p wr => ∃ i : Nat, i + k = 16 ∧ p = .int .i64 (i : Int) ∧ LB w.heap.size bo x a y b (Rf.lanedTo Vb.subtracted x a y b 8 i) wr ∧ Below w.heap.size w wr)
  case atStart => exact ⟨0, by omega, rfl, K, B⟩
  case round =>
    clear K B
    obtain ⟨i, hik, rfl, K0, B0⟩ := hrel
    by_cases hlt : i < 16
    · skip
      obtain ⟨xc, xf, xl⟩ := block_cells K0.X
      obtain ⟨ac, af, al⟩ := block_cells K0.A
      obtain ⟨yc, yf, yl⟩ := block_cells K0.Y
      obtain ⟨bc, bf, bl⟩ := block_cells K0.B
      obtain ⟨oc, of, ol⟩ := block_cells K0.O
      go_wp2_with fail
      clear xc xf ac af yc yf bc bf oc of
      (refine (lane8_c x i hlt _ ).mono ?_; rintro e u1 ⟨rfl, hb⟩; obtain ⟨hc, hf⟩ := Flow.bcell hb; have hz := hb.size; (try simp only [World.size_alloc, World.size_setCell, World.size_drew] at hz))
      have K1 := K0.step hb
      have B1 : Below w.heap.size w u1 := B0.trans (hb.mono (by have := K0.lt; have := K0.h; omega))
      clear hb hc hf
      obtain ⟨xc, xf, xl⟩ := block_cells K1.X
      obtain ⟨ac, af, al⟩ := block_cells K1.A
      obtain ⟨yc, yf, yl⟩ := block_cells K1.Y
      obtain ⟨bc, bf, bl⟩ := block_cells K1.B
      obtain ⟨oc, of, ol⟩ := block_cells K1.O
      go_wp2_with fail
      clear xc xf ac af yc yf bc bf oc of
      (refine (lane8_c a i hlt _ ).mono ?_; rintro e u2 ⟨rfl, hb⟩; obtain ⟨hc, hf⟩ := Flow.bcell hb; have hz := hb.size; (try simp only [World.size_alloc, World.size_setCell, World.size_drew] at hz))
      have K2 := K1.step hb
      have B2 : Below w.heap.size w u2 := B1.trans (hb.mono (by have := K1.lt; have := K1.h; omega))
      clear hb hc hf
      obtain ⟨xc, xf, xl⟩ := block_cells K2.X
      obtain ⟨ac, af, al⟩ := block_cells K2.A
      obtain ⟨yc, yf, yl⟩ := block_cells K2.Y
      obtain ⟨bc, bf, bl⟩ := block_cells K2.B
      obtain ⟨oc, of, ol⟩ := block_cells K2.O
      go_wp2_with fail
      clear xc xf ac af yc yf bc bf oc of
      (refine (lane8_c y i hlt _ ).mono ?_; rintro e u3 ⟨rfl, hb⟩; obtain ⟨hc, hf⟩ := Flow.bcell hb; have hz := hb.size; (try simp only [World.size_alloc, World.size_setCell, World.size_drew] at hz))
      have K3 := K2.step hb
      have B3 : Below w.heap.size w u3 := B2.trans (hb.mono (by have := K2.lt; have := K2.h; omega))
      clear hb hc hf
      obtain ⟨xc, xf, xl⟩ := block_cells K3.X
      obtain ⟨ac, af, al⟩ := block_cells K3.A
      obtain ⟨yc, yf, yl⟩ := block_cells K3.Y
      obtain ⟨bc, bf, bl⟩ := block_cells K3.B
      obtain ⟨oc, of, ol⟩ := block_cells K3.O
      go_wp2_with fail
      clear xc xf ac af yc yf bc bf oc of
      (refine (lane8_c b i hlt _ ).mono ?_; rintro e u4 ⟨rfl, hb⟩; obtain ⟨hc, hf⟩ := Flow.bcell hb; have hz := hb.size; (try simp only [World.size_alloc, World.size_setCell, World.size_drew] at hz))
      have K4 := K3.step hb
      have B4 : Below w.heap.size w u4 := B3.trans (hb.mono (by have := K3.lt; have := K3.h; omega))
      clear hb hc hf
      go_wp2_with fail
      (refine (rdiff_c (Rf.lane x 8 i) (Rf.lane a 8 i) (Rf.lane y 8 i) (Rf.lane b 8 i) _ ).mono ?_; rintro e u5 ⟨rfl, hb⟩; obtain ⟨hc, hf⟩ := Flow.bcell hb; have hz := hb.size; (try simp only [World.size_alloc, World.size_setCell, World.size_drew] at hz))
      have K5 := K4.step hb
      have B5 : Below w.heap.size w u5 := B4.trans (hb.mono (by have := K4.lt; have := K4.h; omega))
      clear hb hc hf
      obtain ⟨q, hq⟩ : ∃ q, Hid (q = Vb.subtracted (Rf.lane x 8 i) (Rf.lane a 8 i) (Rf.lane y 8 i) (Rf.lane b 8 i)) := ⟨_, Lib.hid rfl⟩
      rw [← hq.out]
      obtain ⟨oc, of, ol⟩ := block_cells K5.O
      go_wp2_with fail
      clear oc of
      (refine (setLane8_c (Rf.lanedTo Vb.subtracted x a y b 8 i) i hlt q _ ).mono ?_; rintro e u6 ⟨rfl, hb⟩; obtain ⟨hc, hf⟩ := Flow.bcell hb; have hz := hb.size; (try simp only [World.size_alloc, World.size_setCell, World.size_drew] at hz))
      have K6 := K5.step hb
      have B6 : Below w.heap.size w u6 := B5.trans (hb.mono (by have := K5.lt; have := K5.h; omega))
      clear hb hc hf
      obtain ⟨oc, of, ol⟩ := block_cells K6.O
      obtain ⟨u7, e7, O7, S7⟩ := store4 K6.O 0 1 2 3 (uv (Rf.setLane (Rf.lanedTo Vb.subtracted x a y b 8 i) 8 i q).a) (uv (Rf.setLane (Rf.lanedTo Vb.subtracted x a y b 8 i) 8 i q).b) (uv (Rf.setLane (Rf.lanedTo Vb.subtracted x a y b 8 i) 8 i q).c) (uv (Rf.setLane (Rf.lanedTo Vb.subtracted x a y b 8 i) 8 i q).d)
      go_wp2_with fail
      go_roundg (gk - 1)
      case measure => omega
      case rel => exact ⟨i + 1, by omega, by simp, K6.store S7 (by rw [Rf.lanedTo, ← hq.out]; exact O7), B6.trans (S7.below _ (by have := K6.h; omega))⟩
    · have hin : i = 16 := by omega
      subst hin
      obtain ⟨oc, of, ol⟩ := block_cells K0.O
      obtain ⟨rc, rf, rl⟩ := block_cells K0.R
      go_wp2_with fail
      refine Flow.bodyPost_k rfl (fun K hK => ?_)
      simp only [results, Tryz.results63]
      go_simp
      refine hK _ ⟨?_, ?_⟩
      · rfl
      · have hle : w.heap.size ≤ w.heap.size + 1 + 1 + 1 + 1 := by omega
        exact (((B0.setCell hle _).setCell hle _).setCell hle _).setCell hle _
set_option maxHeartbeats 400000 in
theorem size24_c (w : World) : Calls Tryz.prog 117 #[iv (24 : Int)] w fun e w' => e = .returned (iv (16 : Int)) ∧ Below w.heap.size w w' := by
  go_enter Tryz.func117, Tryz.ntmps117
  go_wp2
  go_ret
  exact ⟨rfl, by (repeat (first | exact Below.refl _ _ | refine Below.setCell ?_ (by first | omega | (simp <;> omega)) _ | refine Below.alloc ?_ (by first | omega | (simp <;> omega)) _ | refine Below.drew ?_ | refine Below.trans ?_ (Below.mono (by assumption) (by first | omega | (simp <;> omega)))))⟩
set_option maxRecDepth 100000 in
set_option maxHeartbeats 8000000 in
theorem laned24_c (x a y b : V) (w : World) : Calls Tryz.prog 63 #[iv (24 : Int), vv x, vv a, vv y, vv b] w fun e w' => e = .returned (vv (Rf.lanedTo Vb.subtracted x a y b 16 8)) ∧ Below w.heap.size w w' := by
  obtain ⟨X, A, Y, B, R⟩ := heap_alloc5 w (vcell x) (vcell a) (vcell y) (vcell b) (vcell V.zero)
  go_enter Tryz.func63, Tryz.ntmps63
  go_wp2_with fail
  (refine (size24_c _ ).mono ?_; rintro e u1 ⟨rfl, hb⟩; obtain ⟨hc, hf⟩ := Flow.bcell hb; have hz := hb.size; (try simp only [World.size_alloc, World.size_setCell, World.size_drew] at hz))
  have hz' := hb.size
  simp only [World.size_alloc] at hz'
  have X1 := (hb.block w.heap.size (by simp <;> omega)).trans X
  have A1 := (hb.block (w.heap.size + 1) (by simp <;> omega)).trans A
  have Y1 := (hb.block (w.heap.size + 1 + 1) (by simp <;> omega)).trans Y
  have b1 := (hb.block (w.heap.size + 1 + 1 + 1) (by simp <;> omega)).trans B
  have R1 := (hb.block (w.heap.size + 1 + 1 + 1 + 1) (by simp)).trans R
  have B1 : Below w.heap.size w u1 := by (repeat (first | exact Below.refl _ _ | refine Below.setCell ?_ (by first | omega | (simp <;> omega)) _ | refine Below.alloc ?_ (by first | omega | (simp <;> omega)) _ | refine Below.drew ?_ | refine Below.trans ?_ (Below.mono (by assumption) (by first | omega | (simp <;> omega)))))
  clear X A Y B R hb hc hf
  go_wp2_with fail
  generalize hu : World.alloc _ _ = u
  have K : LB w.heap.size u1.heap.size x a y b V.zero u := by
    rw [← hu]
    exact ⟨(Below.heap_alloc u1 _ _ (by omega)).trans X1, (Below.heap_alloc u1 _ _ (by omega)).trans A1, (Below.heap_alloc u1 _ _ (by omega)).trans Y1, (Below.heap_alloc u1 _ _ (by omega)).trans b1, (Below.heap_alloc u1 _ _ (by omega)).trans R1, heap_alloc_new u1 _, by omega⟩
  have B : Below w.heap.size w u := by rw [← hu]; exact B1.alloc (by omega) _
  clear hu X1 A1 Y1 b1 R1 B1 hz' hz
  generalize u1.heap.size = bo at *
  go_loopg [13] 8 (fun k p wr => ∃ i : Nat, i + k = 8 ∧ p = .int .i64 (i : Int) ∧ LB w.heap.size bo x a y b (Rf.lanedTo Vb.subtracted x a y b 16 i) wr ∧ Below w.heap.size w wr)
  case atStart => exact ⟨0, by omega, rfl, K, B⟩
  case round =>
    clear K B
    obtain ⟨i, hik, rfl, K0, B0⟩ := hrel
    by_cases hlt : i < 8
    · skip
      obtain ⟨xc, xf, xl⟩ := block_cells K0.X
      obtain ⟨ac, af, al⟩ := block_cells K0.A
      obtain ⟨yc, yf, yl⟩ := block_cells K0.Y
      obtain ⟨bc, bf, bl⟩ := block_cells K0.B
      obtain ⟨oc, of, ol⟩ := block_cells K0.O
      go_wp2_with fail
      clear xc xf ac af yc yf bc bf oc of
      (refine (lane16_c x i hlt _ ).mono ?_; rintro e u1 ⟨rfl, hb⟩; obtain ⟨hc, hf⟩ := Flow.bcell hb; have hz := hb.size; (try simp only [World.size_alloc, World.size_setCell, World.size_drew] at hz))
      have K1 := K0.step hb
      have B1 : Below w.heap.size w u1 := B0.trans (hb.mono (by have := K0.lt; have := K0.h; omega))
      clear hb hc hf
      obtain ⟨xc, xf, xl⟩ := block_cells K1.X
      obtain ⟨ac, af, al⟩ := block_cells K1.A
      obtain ⟨yc, yf, yl⟩ := block_cells K1.Y
      obtain ⟨bc, bf, bl⟩ := block_cells K1.B
      obtain ⟨oc, of, ol⟩ := block_cells K1.O
      go_wp2_with fail
      clear xc xf ac af yc yf bc bf oc of
      (refine (lane16_c a i hlt _ ).mono ?_; rintro e u2 ⟨rfl, hb⟩; obtain ⟨hc, hf⟩ := Flow.bcell hb; have hz := hb.size; (try simp only [World.size_alloc, World.size_setCell, World.size_drew] at hz))
      have K2 := K1.step hb
      have B2 : Below w.heap.size w u2 := B1.trans (hb.mono (by have := K1.lt; have := K1.h; omega))
      clear hb hc hf
      obtain ⟨xc, xf, xl⟩ := block_cells K2.X
      obtain ⟨ac, af, al⟩ := block_cells K2.A
      obtain ⟨yc, yf, yl⟩ := block_cells K2.Y
      obtain ⟨bc, bf, bl⟩ := block_cells K2.B
      obtain ⟨oc, of, ol⟩ := block_cells K2.O
      go_wp2_with fail
      clear xc xf ac af yc yf bc bf oc of
      (refine (lane16_c y i hlt _ ).mono ?_; rintro e u3 ⟨rfl, hb⟩; obtain ⟨hc, hf⟩ := Flow.bcell hb; have hz := hb.size; (try simp only [World.size_alloc, World.size_setCell, World.size_drew] at hz))
      have K3 := K2.step hb
      have B3 : Below w.heap.size w u3 := B2.trans (hb.mono (by have := K2.lt; have := K2.h; omega))
      clear hb hc hf
      obtain ⟨xc, xf, xl⟩ := block_cells K3.X
      obtain ⟨ac, af, al⟩ := block_cells K3.A
      obtain ⟨yc, yf, yl⟩ := block_cells K3.Y
      obtain ⟨bc, bf, bl⟩ := block_cells K3.B
      obtain ⟨oc, of, ol⟩ := block_cells K3.O
      go_wp2_with fail
      clear xc xf ac af yc yf bc bf oc of
      (refine (lane16_c b i hlt _ ).mono ?_; rintro e u4 ⟨rfl, hb⟩; obtain ⟨hc, hf⟩ := Flow.bcell hb; have hz := hb.size; (try simp only [World.size_alloc, World.size_setCell, World.size_drew] at hz))
      have K4 := K3.step hb
      have B4 : Below w.heap.size w u4 := B3.trans (hb.mono (by have := K3.lt; have := K3.h; omega))
      clear hb hc hf
      go_wp2_with fail
      (refine (rdiff_c (Rf.lane x 16 i) (Rf.lane a 16 i) (Rf.lane y 16 i) (Rf.lane b 16 i) _ ).mono ?_; rintro e u5 ⟨rfl, hb⟩; obtain ⟨hc, hf⟩ := Flow.bcell hb; have hz := hb.size; (try simp only [World.size_alloc, World.size_setCell, World.size_drew] at hz))
      have K5 := K4.step hb
      have B5 : Below w.heap.size w u5 := B4.trans (hb.mono (by have := K4.lt; have := K4.h; omega))
      clear hb hc hf
      obtain ⟨q, hq⟩ : ∃ q, Hid (q = Vb.subtracted (Rf.lane x 16 i) (Rf.lane a 16 i) (Rf.lane y 16 i) (Rf.lane b 16 i)) := ⟨_, Lib.hid rfl⟩
      rw [← hq.out]
      obtain ⟨oc, of, ol⟩ := block_cells K5.O
      go_wp2_with fail
      clear oc of
      (refine (setLane16_c (Rf.lanedTo Vb.subtracted x a y b 16 i) i hlt q _ ).mono ?_; rintro e u6 ⟨rfl, hb⟩; obtain ⟨hc, hf⟩ := Flow.bcell hb; have hz := hb.size; (try simp only [World.size_alloc, World.size_setCell, World.size_drew] at hz))
      have K6 := K5.step hb
      have B6 : Below w.heap.size w u6 := B5.trans (hb.mono (by have := K5.lt; have := K5.h; omega))
      clear hb hc hf
      obtain ⟨oc, of, ol⟩ := block_cells K6.O
      obtain ⟨u7, e7, O7, S7⟩ := store4 K6.O 0 1 2 3 (uv (Rf.setLane (Rf.lanedTo Vb.subtracted x a y b 16 i) 16 i q).a) (uv (Rf.setLane (Rf.lanedTo Vb.subtracted x a y b 16 i) 16 i q).b) (uv (Rf.setLane (Rf.lanedTo Vb.subtracted x a y b 16 i) 16 i q).c) (uv (Rf.setLane (Rf.lanedTo Vb.subtracted x a y b 16 i) 16 i q).d)
      go_wp2_with fail
      go_roundg (gk - 1)
      case measure => omega
      case rel => exact ⟨i + 1, by omega, by simp, K6.store S7 (by rw [Rf.lanedTo, ← hq.out]; exact O7), B6.trans (S7.below _ (by have := K6.h; omega))⟩
    · have hin : i = 8 := by omega
      subst hin
      obtain ⟨oc, of, ol⟩ := block_cells K0.O
      obtain ⟨rc, rf, rl⟩ := block_cells K0.R
      go_wp2_with fail
      refine Flow.bodyPost_k rfl (fun K hK => ?_)
      simp only [results, Tryz.results63]
      go_simp
      refine hK _ ⟨?_, ?_⟩
      · rfl
      · have hle : w.heap.size ≤ w.heap.size + 1 + 1 + 1 + 1 := by omega
        exact (((B0.setCell hle _).setCell hle _).setCell hle _).setCell hle _
set_option maxHeartbeats 400000 in
theorem size25_c (w : World) : Calls Tryz.prog 117 #[iv (25 : Int)] w fun e w' => e = .returned (iv (32 : Int)) ∧ Below w.heap.size w w' := by
  go_enter Tryz.func117, Tryz.ntmps117
  go_wp2
  go_ret
  exact ⟨rfl, by (repeat (first | exact Below.refl _ _ | refine Below.setCell ?_ (by first | omega | (simp <;> omega)) _ | refine Below.alloc ?_ (by first | omega | (simp <;> omega)) _ | refine Below.drew ?_ | refine Below.trans ?_ (Below.mono (by assumption) (by first | omega | (simp <;> omega)))))⟩
set_option maxRecDepth 100000 in
set_option maxHeartbeats 8000000 in
theorem laned25_c (x a y b : V) (w : World) : Calls Tryz.prog 63 #[iv (25 : Int), vv x, vv a, vv y, vv b] w fun e w' => e = .returned (vv (Rf.lanedTo Vb.subtracted x a y b 32 4)) ∧ Below w.heap.size w w' := by
  obtain ⟨X, A, Y, B, R⟩ := heap_alloc5 w (vcell x) (vcell a) (vcell y) (vcell b) (vcell V.zero)
  go_enter Tryz.func63, Tryz.ntmps63
  go_wp2_with fail
  (refine (size25_c _ ).mono ?_; rintro e u1 ⟨rfl, hb⟩; obtain ⟨hc, hf⟩ := Flow.bcell hb; have hz := hb.size; (try simp only [World.size_alloc, World.size_setCell, World.size_drew] at hz))
  have hz' := hb.size
  simp only [World.size_alloc] at hz'
  have X1 := (hb.block w.heap.size (by simp <;> omega)).trans X
  have A1 := (hb.block (w.heap.size + 1) (by simp <;> omega)).trans A
  have Y1 := (hb.block (w.heap.size + 1 + 1) (by simp <;> omega)).trans Y
  have b1 := (hb.block (w.heap.size + 1 + 1 + 1) (by simp <;> omega)).trans B
  have R1 := (hb.block (w.heap.size + 1 + 1 + 1 + 1) (by simp)).trans R
  have B1 : Below w.heap.size w u1 := by (repeat (first | exact Below.refl _ _ | refine Below.setCell ?_ (by first | omega | (simp <;> omega)) _ | refine Below.alloc ?_ (by first | omega | (simp <;> omega)) _ | refine Below.drew ?_ | refine Below.trans ?_ (Below.mono (by assumption) (by first | omega | (simp <;> omega)))))
  clear X A Y B R hb hc hf
  go_wp2_with fail
  generalize hu : World.alloc _ _ = u
  have K : LB w.heap.size u1.heap.size x a y b V.zero u := by
    rw [← hu]
    exact ⟨(Below.heap_alloc u1 _ _ (by omega)).trans X1, (Below.heap_alloc u1 _ _ (by omega)).trans A1, (Below.heap_alloc u1 _ _ (by omega)).trans Y1, (Below.heap_alloc u1 _ _ (by omega)).trans b1, (Below.heap_alloc u1 _ _ (by omega)).trans R1, heap_alloc_new u1 _, by omega⟩
  have B : Below w.heap.size w u := by rw [← hu]; exact B1.alloc (by omega) _
  clear hu X1 A1 Y1 b1 R1 B1 hz' hz
  generalize u1.heap.size = bo at *
  go_loopg [13] 4 (fun k p wr => ∃ i : Nat, i + k = 4 ∧ p = .int .i64 (i : Int) ∧ LB w.heap.size bo x a y b (Rf.lanedTo Vb.subtracted x a y b 32 i) wr ∧ Below w.heap.size w wr)
  case atStart => exact ⟨0, by omega, rfl, K, B⟩
  case round =>
    clear K B
    obtain ⟨i, hik, rfl, K0, B0⟩ := hrel
    by_cases hlt : i < 4
    · skip
      obtain ⟨xc, xf, xl⟩ := block_cells K0.X
      obtain ⟨ac, af, al⟩ := block_cells K0.A
      obtain ⟨yc, yf, yl⟩ := block_cells K0.Y
      obtain ⟨bc, bf, bl⟩ := block_cells K0.B
      obtain ⟨oc, of, ol⟩ := block_cells K0.O
      go_wp2_with fail
      clear xc xf ac af yc yf bc bf oc of
      (refine (lane32_c x i hlt _ ).mono ?_; rintro e u1 ⟨rfl, hb⟩; obtain ⟨hc, hf⟩ := Flow.bcell hb; have hz := hb.size; (try simp only [World.size_alloc, World.size_setCell, World.size_drew] at hz))
      have K1 := K0.step hb
      have B1 : Below w.heap.size w u1 := B0.trans (hb.mono (by have := K0.lt; have := K0.h; omega))
      clear hb hc hf
      obtain ⟨xc, xf, xl⟩ := block_cells K1.X
      obtain ⟨ac, af, al⟩ := block_cells K1.A
      obtain ⟨yc, yf, yl⟩ := block_cells K1.Y
      obtain ⟨bc, bf, bl⟩ := block_cells K1.B
      obtain ⟨oc, of, ol⟩ := block_cells K1.O
      go_wp2_with fail
      clear xc xf ac af yc yf bc bf oc of
      (refine (lane32_c a i hlt _ ).mono ?_; rintro e u2 ⟨rfl, hb⟩; obtain ⟨hc, hf⟩ := Flow.bcell hb; have hz := hb.size; (try simp only [World.size_alloc, World.size_setCell, World.size_drew] at hz))
      have K2 := K1.step hb
      have B2 : Below w.heap.size w u2 := B1.trans (hb.mono (by have := K1.lt; have := K1.h; omega))
      clear hb hc hf
      obtain ⟨xc, xf, xl⟩ := block_cells K2.X
      obtain ⟨ac, af, al⟩ := block_cells K2.A
      obtain ⟨yc, yf, yl⟩ := block_cells K2.Y
      obtain ⟨bc, bf, bl⟩ := block_cells K2.B
      obtain ⟨oc, of, ol⟩ := block_cells K2.O
      go_wp2_with fail
      clear xc xf ac af yc yf bc bf oc of
      (refine (lane32_c y i hlt _ ).mono ?_; rintro e u3 ⟨rfl, hb⟩; obtain ⟨hc, hf⟩ := Flow.bcell hb; have hz := hb.size; (try simp only [World.size_alloc, World.size_setCell, World.size_drew] at hz))
      have K3 := K2.step hb
      have B3 : Below w.heap.size w u3 := B2.trans (hb.mono (by have := K2.lt; have := K2.h; omega))
      clear hb hc hf
      obtain ⟨xc, xf, xl⟩ := block_cells K3.X
      obtain ⟨ac, af, al⟩ := block_cells K3.A
      obtain ⟨yc, yf, yl⟩ := block_cells K3.Y
      obtain ⟨bc, bf, bl⟩ := block_cells K3.B
      obtain ⟨oc, of, ol⟩ := block_cells K3.O
      go_wp2_with fail
      clear xc xf ac af yc yf bc bf oc of
      (refine (lane32_c b i hlt _ ).mono ?_; rintro e u4 ⟨rfl, hb⟩; obtain ⟨hc, hf⟩ := Flow.bcell hb; have hz := hb.size; (try simp only [World.size_alloc, World.size_setCell, World.size_drew] at hz))
      have K4 := K3.step hb
      have B4 : Below w.heap.size w u4 := B3.trans (hb.mono (by have := K3.lt; have := K3.h; omega))
      clear hb hc hf
      go_wp2_with fail
      (refine (rdiff_c (Rf.lane x 32 i) (Rf.lane a 32 i) (Rf.lane y 32 i) (Rf.lane b 32 i) _ ).mono ?_; rintro e u5 ⟨rfl, hb⟩; obtain ⟨hc, hf⟩ := Flow.bcell hb; have hz := hb.size; (try simp only [World.size_alloc, World.size_setCell, World.size_drew] at hz))
      have K5 := K4.step hb
      have B5 : Below w.heap.size w u5 := B4.trans (hb.mono (by have := K4.lt; have := K4.h; omega))
      clear hb hc hf
      obtain ⟨q, hq⟩ : ∃ q, Hid (q = Vb.subtracted (Rf.lane x 32 i) (Rf.lane a 32 i) (Rf.lane y 32 i) (Rf.lane b 32 i)) := ⟨_, Lib.hid rfl⟩
      rw [← hq.out]
      obtain ⟨oc, of, ol⟩ := block_cells K5.O
      go_wp2_with fail
      clear oc of
      (refine (setLane32_c (Rf.lanedTo Vb.subtracted x a y b 32 i) i hlt q _ ).mono ?_; rintro e u6 ⟨rfl, hb⟩; obtain ⟨hc, hf⟩ := Flow.bcell hb; have hz := hb.size; (try simp only [World.size_alloc, World.size_setCell, World.size_drew] at hz))
      have K6 := K5.step hb
      have B6 : Below w.heap.size w u6 := B5.trans (hb.mono (by have := K5.lt; have := K5.h; omega))
      clear hb hc hf
      obtain ⟨oc, of, ol⟩ := block_cells K6.O
      obtain ⟨u7, e7, O7, S7⟩ := store4 K6.O 0 1 2 3 (uv (Rf.setLane (Rf.lanedTo Vb.subtracted x a y b 32 i) 32 i q).a) (uv (Rf.setLane (Rf.lanedTo Vb.subtracted x a y b 32 i) 32 i q).b) (uv (Rf.setLane (Rf.lanedTo Vb.subtracted x a y b 32 i) 32 i q).c) (uv (Rf.setLane (Rf.lanedTo Vb.subtracted x a y b 32 i) 32 i q).d)
      go_wp2_with fail
      go_roundg (gk - 1)
      case measure => omega
      case rel => exact ⟨i + 1, by omega, by simp, K6.store S7 (by rw [Rf.lanedTo, ← hq.out]; exact O7), B6.trans (S7.below _ (by have := K6.h; omega))⟩
    · have hin : i = 4 := by omega
      subst hin
      obtain ⟨oc, of, ol⟩ := block_cells K0.O
      obtain ⟨rc, rf, rl⟩ := block_cells K0.R
      go_wp2_with fail
      refine Flow.bodyPost_k rfl (fun K hK => ?_)
      simp only [results, Tryz.results63]
      go_simp
      refine hK _ ⟨?_, ?_⟩
      · rfl
      · have hle : w.heap.size ≤ w.heap.size + 1 + 1 + 1 + 1 := by omega
        exact (((B0.setCell hle _).setCell hle _).setCell hle _).setCell hle _
set_option maxHeartbeats 400000 in
theorem size26_c (w : World) : Calls Tryz.prog 117 #[iv (26 : Int)] w fun e w' => e = .returned (iv (8 : Int)) ∧ Below w.heap.size w w' := by
  go_enter Tryz.func117, Tryz.ntmps117
  go_wp2
  go_ret
  exact ⟨rfl, by (repeat (first | exact Below.refl _ _ | refine Below.setCell ?_ (by first | omega | (simp <;> omega)) _ | refine Below.alloc ?_ (by first | omega | (simp <;> omega)) _ | refine Below.drew ?_ | refine Below.trans ?_ (Below.mono (by assumption) (by first | omega | (simp <;> omega)))))⟩
set_option maxRecDepth 100000 in
set_option maxHeartbeats 8000000 in
theorem laned26_c (x a y b : V) (w : World) : Calls Tryz.prog 63 #[iv (26 : Int), vv x, vv a, vv y, vv b] w fun e w' => e = .returned (vv (Rf.lanedTo Rf.equal x a y b 8 16)) ∧ Below w.heap.size w w' := by
  obtain ⟨X, A, Y, B, R⟩ := heap_alloc5 w (vcell x) (vcell a) (vcell y) (vcell b) (vcell V.zero)
  go_enter Tryz.func63, Tryz.ntmps63
  go_wp2_with fail
  (refine (size26_c _ ).mono ?_; rintro e u1 ⟨rfl, hb⟩; obtain ⟨hc, hf⟩ := Flow.bcell hb; have hz := hb.size; (try simp only [World.size_alloc, World.size_setCell, World.size_drew] at hz))
  have hz' := hb.size
  simp only [World.size_alloc] at hz'
  have X1 := (hb.block w.heap.size (by simp <;> omega)).trans X
  have A1 := (hb.block (w.heap.size + 1) (by simp <;> omega)).trans A
  have Y1 := (hb.block (w.heap.size + 1 + 1) (by simp <;> omega)).trans Y
  have b1 := (hb.block (w.heap.size + 1 + 1 + 1) (by simp <;> omega)).trans B
  have R1 := (hb.block (w.heap.size + 1 + 1 + 1 + 1) (by simp)).trans R
  have B1 : Below w.heap.size w u1 := by (repeat (first | exact Below.refl _ _ | refine Below.setCell ?_ (by first | omega | (simp <;> omega)) _ | refine Below.alloc ?_ (by first | omega | (simp <;> omega)) _ | refine Below.drew ?_ | refine Below.trans ?_ (Below.mono (by assumption) (by first | omega | (simp <;> omega)))))
  clear X A Y B R hb hc hf
  go_wp2_with fail
  generalize hu : World.alloc _ _ = u
  have K : LB w.heap.size u1.heap.size x a y b V.zero u := by
    rw [← hu]
    exact ⟨(Below.heap_alloc u1 _ _ (by omega)).trans X1, (Below.heap_alloc u1 _ _ (by omega)).trans A1, (Below.heap_alloc u1 _ _ (by omega)).trans Y1, (Below.heap_alloc u1 _ _ (by omega)).trans b1, (Below.heap_alloc u1 _ _ (by omega)).trans R1, heap_alloc_new u1 _, by omega⟩
  have B : Below w.heap.size w u := by rw [← hu]; exact B1.alloc (by omega) _
  clear hu X1 A1 Y1 b1 R1 B1 hz' hz
  generalize u1.heap.size = bo at *
  go_loopg [13] 16 (fun k p wr => ∃ i : Nat, i + k = 16 ∧ p = .int .i64 (i : Int) ∧ LB w.heap.size bo x a y b (Rf.lanedTo Rf.equal x a y b 8 i) wr ∧ Below w.heap.size w wr)
  case atStart => exact ⟨0, by omega, rfl, K, B⟩
  case round =>
    clear K B
    obtain ⟨i, hik, rfl, K0, B0⟩ := hrel
    by_cases hlt : i < 16
    · skip
      obtain ⟨xc, xf, xl⟩ := block_cells K0.X
      obtain ⟨ac, af, al⟩ := block_cells K0.A
      obtain ⟨yc, yf, yl⟩ := block_cells K0.Y
      obtain ⟨bc, bf, bl⟩ := block_cells K0.B
      obtain ⟨oc, of, ol⟩ := block_cells K0.O
      go_wp2_with fail
      clear xc xf ac af yc yf bc bf oc of
      (refine (lane8_c x i hlt _ ).mono ?_; rintro e u1 ⟨rfl, hb⟩; obtain ⟨hc, hf⟩ := Flow.bcell hb; have hz := hb.size; (try simp only [World.size_alloc, World.size_setCell, World.size_drew] at hz))
      have K1 := K0.step hb
      have B1 : Below w.heap.size w u1 := B0.trans (hb.mono (by have := K0.lt; have := K0.h; omega))
      clear hb hc hf
      obtain ⟨xc, xf, xl⟩ := block_cells K1.X
      obtain ⟨ac, af, al⟩ := block_cells K1.A
      obtain ⟨yc, yf, yl⟩ := block_cells K1.Y
      obtain ⟨bc, bf, bl⟩ := block_cells K1.B
      obtain ⟨oc, of, ol⟩ := block_cells K1.O
      go_wp2_with fail
      clear xc xf ac af yc yf bc bf oc of
      (refine (lane8_c a i hlt _ ).mono ?_; rintro e u2 ⟨rfl, hb⟩; obtain ⟨hc, hf⟩ := Flow.bcell hb; have hz := hb.size; (try simp only [World.size_alloc, World.size_setCell, World.size_drew] at hz))
      have K2 := K1.step hb
      have B2 : Below w.heap.size w u2 := B1.trans (hb.mono (by have := K1.lt; have := K1.h; omega))
      clear hb hc hf
      obtain ⟨xc, xf, xl⟩ := block_cells K2.X
      obtain ⟨ac, af, al⟩ := block_cells K2.A
      obtain ⟨yc, yf, yl⟩ := block_cells K2.Y
      obtain ⟨bc, bf, bl⟩ := block_cells K2.B
      obtain ⟨oc, of, ol⟩ := block_cells K2.O
      go_wp2_with fail
      clear xc xf ac af yc yf bc bf oc of
      (refine (lane8_c y i hlt _ ).mono ?_; rintro e u3 ⟨rfl, hb⟩; obtain ⟨hc, hf⟩ := Flow.bcell hb; have hz := hb.size; (try simp only [World.size_alloc, World.size_setCell, World.size_drew] at hz))
      have K3 := K2.step hb
      have B3 : Below w.heap.size w u3 := B2.trans (hb.mono (by have := K2.lt; have := K2.h; omega))
      clear hb hc hf
      obtain ⟨xc, xf, xl⟩ := block_cells K3.X
      obtain ⟨ac, af, al⟩ := block_cells K3.A
      obtain ⟨yc, yf, yl⟩ := block_cells K3.Y
      obtain ⟨bc, bf, bl⟩ := block_cells K3.B
      obtain ⟨oc, of, ol⟩ := block_cells K3.O
      go_wp2_with fail
      clear xc xf ac af yc yf bc bf oc of
      (refine (lane8_c b i hlt _ ).mono ?_; rintro e u4 ⟨rfl, hb⟩; obtain ⟨hc, hf⟩ := Flow.bcell hb; have hz := hb.size; (try simp only [World.size_alloc, World.size_setCell, World.size_drew] at hz))
      have K4 := K3.step hb
      have B4 : Below w.heap.size w u4 := B3.trans (hb.mono (by have := K3.lt; have := K3.h; omega))
      clear hb hc hf
      go_wp2_with fail
      (refine (undecided_c (V.word ((Rf.lane x 8 i) ^^^ (Rf.lane y 8 i))) (V.word ((Rf.lane a 8 i) ||| (Rf.lane b 8 i))) _ ).mono ?_; rintro e u5 ⟨rfl, hb⟩; obtain ⟨hc, hf⟩ := Flow.bcell hb; have hz := hb.size; (try simp only [World.size_alloc, World.size_setCell, World.size_drew] at hz))
      have K5 := K4.step hb
      have B5 : Below w.heap.size w u5 := B4.trans (hb.mono (by have := K4.lt; have := K4.h; omega))
      clear hb hc hf
      cases hd : Rf.undecided (V.word ((Rf.lane x 8 i) ^^^ (Rf.lane y 8 i))) (V.word ((Rf.lane a 8 i) ||| (Rf.lane b 8 i)))
      · obtain ⟨q, hq⟩ : ∃ q, q = 0#32 := ⟨_, rfl⟩
        have hq' : q = Rf.equal (Rf.lane x 8 i) (Rf.lane a 8 i) (Rf.lane y 8 i) (Rf.lane b 8 i) := by rw [hq]; unfold Rf.equal; rw [hd]; rfl
        obtain ⟨oc, of, ol⟩ := block_cells K5.O
        go_wp2_with fail
        clear oc of
        (refine (setLane8_c (Rf.lanedTo Rf.equal x a y b 8 i) i hlt 0#32 _ ).mono ?_; rintro e u6 ⟨rfl, hb⟩; obtain ⟨hc, hf⟩ := Flow.bcell hb; have hz := hb.size; (try simp only [World.size_alloc, World.size_setCell, World.size_drew] at hz))
        have K6 := K5.step hb
        have B6 : Below w.heap.size w u6 := B5.trans (hb.mono (by have := K5.lt; have := K5.h; omega))
        clear hb hc hf
        obtain ⟨oc, of, ol⟩ := block_cells K6.O
        obtain ⟨u7, e7, O7, S7⟩ := store4 K6.O 0 1 2 3 (uv (Rf.setLane (Rf.lanedTo Rf.equal x a y b 8 i) 8 i 0#32).a) (uv (Rf.setLane (Rf.lanedTo Rf.equal x a y b 8 i) 8 i 0#32).b) (uv (Rf.setLane (Rf.lanedTo Rf.equal x a y b 8 i) 8 i 0#32).c) (uv (Rf.setLane (Rf.lanedTo Rf.equal x a y b 8 i) 8 i 0#32).d)
        go_wp2_with fail
        go_roundg (gk - 1)
        case measure => omega
        case rel => exact ⟨i + 1, by omega, by simp, K6.store S7 (by rw [Rf.lanedTo, ← hq', hq]; exact O7), B6.trans (S7.below _ (by have := K6.h; omega))⟩
      · obtain ⟨q, hq⟩ : ∃ q, q = 4294967295#32 := ⟨_, rfl⟩
        have hq' : q = Rf.equal (Rf.lane x 8 i) (Rf.lane a 8 i) (Rf.lane y 8 i) (Rf.lane b 8 i) := by rw [hq]; unfold Rf.equal; rw [hd]; rfl
        obtain ⟨oc, of, ol⟩ := block_cells K5.O
        go_wp2_with fail
        clear oc of
        (refine (setLane8_c (Rf.lanedTo Rf.equal x a y b 8 i) i hlt 4294967295#32 _ ).mono ?_; rintro e u6 ⟨rfl, hb⟩; obtain ⟨hc, hf⟩ := Flow.bcell hb; have hz := hb.size; (try simp only [World.size_alloc, World.size_setCell, World.size_drew] at hz))
        have K6 := K5.step hb
        have B6 : Below w.heap.size w u6 := B5.trans (hb.mono (by have := K5.lt; have := K5.h; omega))
        clear hb hc hf
        obtain ⟨oc, of, ol⟩ := block_cells K6.O
        obtain ⟨u7, e7, O7, S7⟩ := store4 K6.O 0 1 2 3 (uv (Rf.setLane (Rf.lanedTo Rf.equal x a y b 8 i) 8 i 4294967295#32).a) (uv (Rf.setLane (Rf.lanedTo Rf.equal x a y b 8 i) 8 i 4294967295#32).b) (uv (Rf.setLane (Rf.lanedTo Rf.equal x a y b 8 i) 8 i 4294967295#32).c) (uv (Rf.setLane (Rf.lanedTo Rf.equal x a y b 8 i) 8 i 4294967295#32).d)
        go_wp2_with fail
        go_roundg (gk - 1)
        case measure => omega
        case rel => exact ⟨i + 1, by omega, by simp, K6.store S7 (by rw [Rf.lanedTo, ← hq', hq]; exact O7), B6.trans (S7.below _ (by have := K6.h; omega))⟩
    · have hin : i = 16 := by omega
      subst hin
      obtain ⟨oc, of, ol⟩ := block_cells K0.O
      obtain ⟨rc, rf, rl⟩ := block_cells K0.R
      go_wp2_with fail
      refine Flow.bodyPost_k rfl (fun K hK => ?_)
      simp only [results, Tryz.results63]
      go_simp
      refine hK _ ⟨?_, ?_⟩
      · rfl
      · have hle : w.heap.size ≤ w.heap.size + 1 + 1 + 1 + 1 := by omega
        exact (((B0.setCell hle _).setCell hle _).setCell hle _).setCell hle _
set_option maxHeartbeats 400000 in
theorem size27_c (w : World) : Calls Tryz.prog 117 #[iv (27 : Int)] w fun e w' => e = .returned (iv (16 : Int)) ∧ Below w.heap.size w w' := by
  go_enter Tryz.func117, Tryz.ntmps117
  go_wp2
  go_ret
  exact ⟨rfl, by (repeat (first | exact Below.refl _ _ | refine Below.setCell ?_ (by first | omega | (simp <;> omega)) _ | refine Below.alloc ?_ (by first | omega | (simp <;> omega)) _ | refine Below.drew ?_ | refine Below.trans ?_ (Below.mono (by assumption) (by first | omega | (simp <;> omega)))))⟩
set_option maxRecDepth 100000 in
set_option maxHeartbeats 8000000 in
theorem laned27_c (x a y b : V) (w : World) : Calls Tryz.prog 63 #[iv (27 : Int), vv x, vv a, vv y, vv b] w fun e w' => e = .returned (vv (Rf.lanedTo Rf.equal x a y b 16 8)) ∧ Below w.heap.size w w' := by
  obtain ⟨X, A, Y, B, R⟩ := heap_alloc5 w (vcell x) (vcell a) (vcell y) (vcell b) (vcell V.zero)
  go_enter Tryz.func63, Tryz.ntmps63
  go_wp2_with fail
  (refine (size27_c _ ).mono ?_; rintro e u1 ⟨rfl, hb⟩; obtain ⟨hc, hf⟩ := Flow.bcell hb; have hz := hb.size; (try simp only [World.size_alloc, World.size_setCell, World.size_drew] at hz))
  have hz' := hb.size
  simp only [World.size_alloc] at hz'
  have X1 := (hb.block w.heap.size (by simp <;> omega)).trans X
  have A1 := (hb.block (w.heap.size + 1) (by simp <;> omega)).trans A
  have Y1 := (hb.block (w.heap.size + 1 + 1) (by simp <;> omega)).trans Y
  have b1 := (hb.block (w.heap.size + 1 + 1 + 1) (by simp <;> omega)).trans B
  have R1 := (hb.block (w.heap.size + 1 + 1 + 1 + 1) (by simp)).trans R
  have B1 : Below w.heap.size w u1 := by (repeat (first | exact Below.refl _ _ | refine Below.setCell ?_ (by first | omega | (simp <;> omega)) _ | refine Below.alloc ?_ (by first | omega | (simp <;> omega)) _ | refine Below.drew ?_ | refine Below.trans ?_ (Below.mono (by assumption) (by first | omega | (simp <;> omega)))))
  clear X A Y B R hb hc hf
  go_wp2_with fail
  generalize hu : World.alloc _ _ = u
  have K : LB w.heap.size u1.heap.size x a y b V.zero u := by
    rw [← hu]
    exact ⟨(Below.heap_alloc u1 _ _ (by omega)).trans X1, (Below.heap_alloc u1 _ _ (by omega)).trans A1, (Below.heap_alloc u1 _ _ (by omega)).trans Y1, (Below.heap_alloc u1 _ _ (by omega)).trans b1, (Below.heap_alloc u1 _ _ (by omega)).trans R1, heap_alloc_new u1 _, by omega⟩
  have B : Below w.heap.size w u := by rw [← hu]; exact B1.alloc (by omega) _
  clear hu X1 A1 Y1 b1 R1 B1 hz' hz
  generalize u1.heap.size = bo at *
  go_loopg [13] 8 (fun k p wr => ∃ i : Nat, i + k = 8 ∧ p = .int .i64 (i : Int) ∧ LB w.heap.size bo x a y b (Rf.lanedTo Rf.equal x a y b 16 i) wr ∧ Below w.heap.size w wr)
  case atStart => exact ⟨0, by omega, rfl, K, B⟩
  case round =>
    clear K B
    obtain ⟨i, hik, rfl, K0, B0⟩ := hrel
    by_cases hlt : i < 8
    · skip
      obtain ⟨xc, xf, xl⟩ := block_cells K0.X
      obtain ⟨ac, af, al⟩ := block_cells K0.A
      obtain ⟨yc, yf, yl⟩ := block_cells K0.Y
      obtain ⟨bc, bf, bl⟩ := block_cells K0.B
      obtain ⟨oc, of, ol⟩ := block_cells K0.O
      go_wp2_with fail
      clear xc xf ac af yc yf bc bf oc of
      (refine (lane16_c x i hlt _ ).mono ?_; rintro e u1 ⟨rfl, hb⟩; obtain ⟨hc, hf⟩ := Flow.bcell hb; have hz := hb.size; (try simp only [World.size_alloc, World.size_setCell, World.size_drew] at hz))
      have K1 := K0.step hb
      have B1 : Below w.heap.size w u1 := B0.trans (hb.mono (by have := K0.lt; have := K0.h; omega))
      clear hb hc hf
      obtain ⟨xc, xf, xl⟩ := block_cells K1.X
      obtain ⟨ac, af, al⟩ := block_cells K1.A
      obtain ⟨yc, yf, yl⟩ := block_cells K1.Y
      obtain ⟨bc, bf, bl⟩ := block_cells K1.B
      obtain ⟨oc, of, ol⟩ := block_cells K1.O
      go_wp2_with fail
      clear xc xf ac af yc yf bc bf oc of
      (refine (lane16_c a i hlt _ ).mono ?_; rintro e u2 ⟨rfl, hb⟩; obtain ⟨hc, hf⟩ := Flow.bcell hb; have hz := hb.size; (try simp only [World.size_alloc, World.size_setCell, World.size_drew] at hz))
      have K2 := K1.step hb
      have B2 : Below w.heap.size w u2 := B1.trans (hb.mono (by have := K1.lt; have := K1.h; omega))
      clear hb hc hf
      obtain ⟨xc, xf, xl⟩ := block_cells K2.X
      obtain ⟨ac, af, al⟩ := block_cells K2.A
      obtain ⟨yc, yf, yl⟩ := block_cells K2.Y
      obtain ⟨bc, bf, bl⟩ := block_cells K2.B
      obtain ⟨oc, of, ol⟩ := block_cells K2.O
      go_wp2_with fail
      clear xc xf ac af yc yf bc bf oc of
      (refine (lane16_c y i hlt _ ).mono ?_; rintro e u3 ⟨rfl, hb⟩; obtain ⟨hc, hf⟩ := Flow.bcell hb; have hz := hb.size; (try simp only [World.size_alloc, World.size_setCell, World.size_drew] at hz))
      have K3 := K2.step hb
      have B3 : Below w.heap.size w u3 := B2.trans (hb.mono (by have := K2.lt; have := K2.h; omega))
      clear hb hc hf
      obtain ⟨xc, xf, xl⟩ := block_cells K3.X
      obtain ⟨ac, af, al⟩ := block_cells K3.A
      obtain ⟨yc, yf, yl⟩ := block_cells K3.Y
      obtain ⟨bc, bf, bl⟩ := block_cells K3.B
      obtain ⟨oc, of, ol⟩ := block_cells K3.O
      go_wp2_with fail
      clear xc xf ac af yc yf bc bf oc of
      (refine (lane16_c b i hlt _ ).mono ?_; rintro e u4 ⟨rfl, hb⟩; obtain ⟨hc, hf⟩ := Flow.bcell hb; have hz := hb.size; (try simp only [World.size_alloc, World.size_setCell, World.size_drew] at hz))
      have K4 := K3.step hb
      have B4 : Below w.heap.size w u4 := B3.trans (hb.mono (by have := K3.lt; have := K3.h; omega))
      clear hb hc hf
      go_wp2_with fail
      (refine (undecided_c (V.word ((Rf.lane x 16 i) ^^^ (Rf.lane y 16 i))) (V.word ((Rf.lane a 16 i) ||| (Rf.lane b 16 i))) _ ).mono ?_; rintro e u5 ⟨rfl, hb⟩; obtain ⟨hc, hf⟩ := Flow.bcell hb; have hz := hb.size; (try simp only [World.size_alloc, World.size_setCell, World.size_drew] at hz))
      have K5 := K4.step hb
      have B5 : Below w.heap.size w u5 := B4.trans (hb.mono (by have := K4.lt; have := K4.h; omega))
      clear hb hc hf
      cases hd : Rf.undecided (V.word ((Rf.lane x 16 i) ^^^ (Rf.lane y 16 i))) (V.word ((Rf.lane a 16 i) ||| (Rf.lane b 16 i)))
      · obtain ⟨q, hq⟩ : ∃ q, q = 0#32 := ⟨_, rfl⟩
        have hq' : q = Rf.equal (Rf.lane x 16 i) (Rf.lane a 16 i) (Rf.lane y 16 i) (Rf.lane b 16 i) := by rw [hq]; unfold Rf.equal; rw [hd]; rfl
        obtain ⟨oc, of, ol⟩ := block_cells K5.O
        go_wp2_with fail
        clear oc of
        (refine (setLane16_c (Rf.lanedTo Rf.equal x a y b 16 i) i hlt 0#32 _ ).mono ?_; rintro e u6 ⟨rfl, hb⟩; obtain ⟨hc, hf⟩ := Flow.bcell hb; have hz := hb.size; (try simp only [World.size_alloc, World.size_setCell, World.size_drew] at hz))
        have K6 := K5.step hb
        have B6 : Below w.heap.size w u6 := B5.trans (hb.mono (by have := K5.lt; have := K5.h; omega))
        clear hb hc hf
        obtain ⟨oc, of, ol⟩ := block_cells K6.O
        obtain ⟨u7, e7, O7, S7⟩ := store4 K6.O 0 1 2 3 (uv (Rf.setLane (Rf.lanedTo Rf.equal x a y b 16 i) 16 i 0#32).a) (uv (Rf.setLane (Rf.lanedTo Rf.equal x a y b 16 i) 16 i 0#32).b) (uv (Rf.setLane (Rf.lanedTo Rf.equal x a y b 16 i) 16 i 0#32).c) (uv (Rf.setLane (Rf.lanedTo Rf.equal x a y b 16 i) 16 i 0#32).d)
        go_wp2_with fail
        go_roundg (gk - 1)
        case measure => omega
        case rel => exact ⟨i + 1, by omega, by simp, K6.store S7 (by rw [Rf.lanedTo, ← hq', hq]; exact O7), B6.trans (S7.below _ (by have := K6.h; omega))⟩
      · obtain ⟨q, hq⟩ : ∃ q, q = 4294967295#32 := ⟨_, rfl⟩
        have hq' : q = Rf.equal (Rf.lane x 16 i) (Rf.lane a 16 i) (Rf.lane y 16 i) (Rf.lane b 16 i) := by rw [hq]; unfold Rf.equal; rw [hd]; rfl
        obtain ⟨oc, of, ol⟩ := block_cells K5.O
        go_wp2_with fail
        clear oc of
        (refine (setLane16_c (Rf.lanedTo Rf.equal x a y b 16 i) i hlt 4294967295#32 _ ).mono ?_; rintro e u6 ⟨rfl, hb⟩; obtain ⟨hc, hf⟩ := Flow.bcell hb; have hz := hb.size; (try simp only [World.size_alloc, World.size_setCell, World.size_drew] at hz))
        have K6 := K5.step hb
        have B6 : Below w.heap.size w u6 := B5.trans (hb.mono (by have := K5.lt; have := K5.h; omega))
        clear hb hc hf
        obtain ⟨oc, of, ol⟩ := block_cells K6.O
        obtain ⟨u7, e7, O7, S7⟩ := store4 K6.O 0 1 2 3 (uv (Rf.setLane (Rf.lanedTo Rf.equal x a y b 16 i) 16 i 4294967295#32).a) (uv (Rf.setLane (Rf.lanedTo Rf.equal x a y b 16 i) 16 i 4294967295#32).b) (uv (Rf.setLane (Rf.lanedTo Rf.equal x a y b 16 i) 16 i 4294967295#32).c) (uv (Rf.setLane (Rf.lanedTo Rf.equal x a y b 16 i) 16 i 4294967295#32).d)
        go_wp2_with fail
        go_roundg (gk - 1)
        case measure => omega
        case rel => exact ⟨i + 1, by omega, by simp, K6.store S7 (by rw [Rf.lanedTo, ← hq', hq]; exact O7), B6.trans (S7.below _ (by have := K6.h; omega))⟩
    · have hin : i = 8 := by omega
      subst hin
      obtain ⟨oc, of, ol⟩ := block_cells K0.O
      obtain ⟨rc, rf, rl⟩ := block_cells K0.R
      go_wp2_with fail
      refine Flow.bodyPost_k rfl (fun K hK => ?_)
      simp only [results, Tryz.results63]
      go_simp
      refine hK _ ⟨?_, ?_⟩
      · rfl
      · have hle : w.heap.size ≤ w.heap.size + 1 + 1 + 1 + 1 := by omega
        exact (((B0.setCell hle _).setCell hle _).setCell hle _).setCell hle _
set_option maxHeartbeats 400000 in
theorem size28_c (w : World) : Calls Tryz.prog 117 #[iv (28 : Int)] w fun e w' => e = .returned (iv (32 : Int)) ∧ Below w.heap.size w w' := by
  go_enter Tryz.func117, Tryz.ntmps117
  go_wp2
  go_ret
  exact ⟨rfl, by (repeat (first | exact Below.refl _ _ | refine Below.setCell ?_ (by first | omega | (simp <;> omega)) _ | refine Below.alloc ?_ (by first | omega | (simp <;> omega)) _ | refine Below.drew ?_ | refine Below.trans ?_ (Below.mono (by assumption) (by first | omega | (simp <;> omega)))))⟩
set_option maxRecDepth 100000 in
set_option maxHeartbeats 8000000 in
theorem laned28_c (x a y b : V) (w : World) : Calls Tryz.prog 63 #[iv (28 : Int), vv x, vv a, vv y, vv b] w fun e w' => e = .returned (vv (Rf.lanedTo Rf.equal x a y b 32 4)) ∧ Below w.heap.size w w' := by
  obtain ⟨X, A, Y, B, R⟩ := heap_alloc5 w (vcell x) (vcell a) (vcell y) (vcell b) (vcell V.zero)
  go_enter Tryz.func63, Tryz.ntmps63
  go_wp2_with fail
  (refine (size28_c _ ).mono ?_; rintro e u1 ⟨rfl, hb⟩; obtain ⟨hc, hf⟩ := Flow.bcell hb; have hz := hb.size; (try simp only [World.size_alloc, World.size_setCell, World.size_drew] at hz))
  have hz' := hb.size
  simp only [World.size_alloc] at hz'
  have X1 := (hb.block w.heap.size (by simp <;> omega)).trans X
  have A1 := (hb.block (w.heap.size + 1) (by simp <;> omega)).trans A
  have Y1 := (hb.block (w.heap.size + 1 + 1) (by simp <;> omega)).trans Y
  have b1 := (hb.block (w.heap.size + 1 + 1 + 1) (by simp <;> omega)).trans B
  have R1 := (hb.block (w.heap.size + 1 + 1 + 1 + 1) (by simp)).trans R
  have B1 : Below w.heap.size w u1 := by (repeat (first | exact Below.refl _ _ | refine Below.setCell ?_ (by first | omega | (simp <;> omega)) _ | refine Below.alloc ?_ (by first | omega | (simp <;> omega)) _ | refine Below.drew ?_ | refine Below.trans ?_ (Below.mono (by assumption) (by first | omega | (simp <;> omega)))))
  clear X A Y B R hb hc hf
  go_wp2_with fail
  generalize hu : World.alloc _ _ = u
  have K : LB w.heap.size u1.heap.size x a y b V.zero u := by
    rw [← hu]
    exact ⟨(Below.heap_alloc u1 _ _ (by omega)).trans X1, (Below.heap_alloc u1 _ _ (by omega)).trans A1, (Below.heap_alloc u1 _ _ (by omega)).trans Y1, (Below.heap_alloc u1 _ _ (by omega)).trans b1, (Below.heap_alloc u1 _ _ (by omega)).trans R1, heap_alloc_new u1 _, by omega⟩
  have B : Below w.heap.size w u := by rw [← hu]; exact B1.alloc (by omega) _
  clear hu X1 A1 Y1 b1 R1 B1 hz' hz
  generalize u1.heap.size = bo at *
  go_loopg [13] 4 (fun k p wr => ∃ i : Nat, i + k = 4 ∧ p = .int .i64 (i : Int) ∧ LB w.heap.size bo x a y b (Rf.lanedTo Rf.equal x a y b 32 i) wr ∧ Below w.heap.size w wr)
  case atStart => exact ⟨0, by omega, rfl, K, B⟩
  case round =>
    clear K B
    obtain ⟨i, hik, rfl, K0, B0⟩ := hrel
    by_cases hlt : i < 4
    · skip
      obtain ⟨xc, xf, xl⟩ := block_cells K0.X
      obtain ⟨ac, af, al⟩ := block_cells K0.A
      obtain ⟨yc, yf, yl⟩ := block_cells K0.Y
      obtain ⟨bc, bf, bl⟩ := block_cells K0.B
      obtain ⟨oc, of, ol⟩ := block_cells K0.O
      go_wp2_with fail
      clear xc xf ac af yc yf bc bf oc of
      (refine (lane32_c x i hlt _ ).mono ?_; rintro e u1 ⟨rfl, hb⟩; obtain ⟨hc, hf⟩ := Flow.bcell hb; have hz := hb.size; (try simp only [World.size_alloc, World.size_setCell, World.size_drew] at hz))
      have K1 := K0.step hb
      have B1 : Below w.heap.size w u1 := B0.trans (hb.mono (by have := K0.lt; have := K0.h; omega))
      clear hb hc hf
      obtain ⟨xc, xf, xl⟩ := block_cells K1.X
      obtain ⟨ac, af, al⟩ := block_cells K1.A
      obtain ⟨yc, yf, yl⟩ := block_cells K1.Y
      obtain ⟨bc, bf, bl⟩ := block_cells K1.B
      obtain ⟨oc, of, ol⟩ := block_cells K1.O
      go_wp2_with fail
      clear xc xf ac af yc yf bc bf oc of
      (refine (lane32_c a i hlt _ ).mono ?_; rintro e u2 ⟨rfl, hb⟩; obtain ⟨hc, hf⟩ := Flow.bcell hb; have hz := hb.size; (try simp only [World.size_alloc, World.size_setCell, World.size_drew] at hz))
      have K2 := K1.step hb
      have B2 : Below w.heap.size w u2 := B1.trans (hb.mono (by have := K1.lt; have := K1.h; omega))
      clear hb hc hf
      obtain ⟨xc, xf, xl⟩ := block_cells K2.X
      obtain ⟨ac, af, al⟩ := block_cells K2.A
      obtain ⟨yc, yf, yl⟩ := block_cells K2.Y
      obtain ⟨bc, bf, bl⟩ := block_cells K2.B
      obtain ⟨oc, of, ol⟩ := block_cells K2.O
      go_wp2_with fail
      clear xc xf ac af yc yf bc bf oc of
      (refine (lane32_c y i hlt _ ).mono ?_; rintro e u3 ⟨rfl, hb⟩; obtain ⟨hc, hf⟩ := Flow.bcell hb; have hz := hb.size; (try simp only [World.size_alloc, World.size_setCell, World.size_drew] at hz))
      have K3 := K2.step hb
      have B3 : Below w.heap.size w u3 := B2.trans (hb.mono (by have := K2.lt; have := K2.h; omega))
      clear hb hc hf
      obtain ⟨xc, xf, xl⟩ := block_cells K3.X
      obtain ⟨ac, af, al⟩ := block_cells K3.A
      obtain ⟨yc, yf, yl⟩ := block_cells K3.Y
      obtain ⟨bc, bf, bl⟩ := block_cells K3.B
      obtain ⟨oc, of, ol⟩ := block_cells K3.O
      go_wp2_with fail
      clear xc xf ac af yc yf bc bf oc of
      (refine (lane32_c b i hlt _ ).mono ?_; rintro e u4 ⟨rfl, hb⟩; obtain ⟨hc, hf⟩ := Flow.bcell hb; have hz := hb.size; (try simp only [World.size_alloc, World.size_setCell, World.size_drew] at hz))
      have K4 := K3.step hb
      have B4 : Below w.heap.size w u4 := B3.trans (hb.mono (by have := K3.lt; have := K3.h; omega))
      clear hb hc hf
      go_wp2_with fail
      (refine (undecided_c (V.word ((Rf.lane x 32 i) ^^^ (Rf.lane y 32 i))) (V.word ((Rf.lane a 32 i) ||| (Rf.lane b 32 i))) _ ).mono ?_; rintro e u5 ⟨rfl, hb⟩; obtain ⟨hc, hf⟩ := Flow.bcell hb; have hz := hb.size; (try simp only [World.size_alloc, World.size_setCell, World.size_drew] at hz))
      have K5 := K4.step hb
      have B5 : Below w.heap.size w u5 := B4.trans (hb.mono (by have := K4.lt; have := K4.h; omega))
      clear hb hc hf
      cases hd : Rf.undecided (V.word ((Rf.lane x 32 i) ^^^ (Rf.lane y 32 i))) (V.word ((Rf.lane a 32 i) ||| (Rf.lane b 32 i)))
      · obtain ⟨q, hq⟩ : ∃ q, q = 0#32 := ⟨_, rfl⟩
        have hq' : q = Rf.equal (Rf.lane x 32 i) (Rf.lane a 32 i) (Rf.lane y 32 i) (Rf.lane b 32 i) := by rw [hq]; unfold Rf.equal; rw [hd]; rfl
        obtain ⟨oc, of, ol⟩ := block_cells K5.O
        go_wp2_with fail
        clear oc of
        (refine (setLane32_c (Rf.lanedTo Rf.equal x a y b 32 i) i hlt 0#32 _ ).mono ?_; rintro e u6 ⟨rfl, hb⟩; obtain ⟨hc, hf⟩ := Flow.bcell hb; have hz := hb.size; (try simp only [World.size_alloc, World.size_setCell, World.size_drew] at hz))
        have K6 := K5.step hb
        have B6 : Below w.heap.size w u6 := B5.trans (hb.mono (by have := K5.lt; have := K5.h; omega))
        clear hb hc hf
        obtain ⟨oc, of, ol⟩ := block_cells K6.O
        obtain ⟨u7, e7, O7, S7⟩ := store4 K6.O 0 1 2 3 (uv (Rf.setLane (Rf.lanedTo Rf.equal x a y b 32 i) 32 i 0#32).a) (uv (Rf.setLane (Rf.lanedTo Rf.equal x a y b 32 i) 32 i 0#32).b) (uv (Rf.setLane (Rf.lanedTo Rf.equal x a y b 32 i) 32 i 0#32).c) (uv (Rf.setLane (Rf.lanedTo Rf.equal x a y b 32 i) 32 i 0#32).d)
        go_wp2_with fail
        go_roundg (gk - 1)
        case measure => omega
        case rel => exact ⟨i + 1, by omega, by simp, K6.store S7 (by rw [Rf.lanedTo, ← hq', hq]; exact O7), B6.trans (S7.below _ (by have := K6.h; omega))⟩
      · obtain ⟨q, hq⟩ : ∃ q, q = 4294967295#32 := ⟨_, rfl⟩
        have hq' : q = Rf.equal (Rf.lane x 32 i) (Rf.lane a 32 i) (Rf.lane y 32 i) (Rf.lane b 32 i) := by rw [hq]; unfold Rf.equal; rw [hd]; rfl
        obtain ⟨oc, of, ol⟩ := block_cells K5.O
        go_wp2_with fail
        clear oc of
        (refine (setLane32_c (Rf.lanedTo Rf.equal x a y b 32 i) i hlt 4294967295#32 _ ).mono ?_; rintro e u6 ⟨rfl, hb⟩; obtain ⟨hc, hf⟩ := Flow.bcell hb; have hz := hb.size; (try simp only [World.size_alloc, World.size_setCell, World.size_drew] at hz))
        have K6 := K5.step hb
        have B6 : Below w.heap.size w u6 := B5.trans (hb.mono (by have := K5.lt; have := K5.h; omega))
        clear hb hc hf
        obtain ⟨oc, of, ol⟩ := block_cells K6.O
        obtain ⟨u7, e7, O7, S7⟩ := store4 K6.O 0 1 2 3 (uv (Rf.setLane (Rf.lanedTo Rf.equal x a y b 32 i) 32 i 4294967295#32).a) (uv (Rf.setLane (Rf.lanedTo Rf.equal x a y b 32 i) 32 i 4294967295#32).b) (uv (Rf.setLane (Rf.lanedTo Rf.equal x a y b 32 i) 32 i 4294967295#32).c) (uv (Rf.setLane (Rf.lanedTo Rf.equal x a y b 32 i) 32 i 4294967295#32).d)
        go_wp2_with fail
        go_roundg (gk - 1)
        case measure => omega
        case rel => exact ⟨i + 1, by omega, by simp, K6.store S7 (by rw [Rf.lanedTo, ← hq', hq]; exact O7), B6.trans (S7.below _ (by have := K6.h; omega))⟩
    · have hin : i = 4 := by omega
      subst hin
      obtain ⟨oc, of, ol⟩ := block_cells K0.O
      obtain ⟨rc, rf, rl⟩ := block_cells K0.R
      go_wp2_with fail
      refine Flow.bodyPost_k rfl (fun K hK => ?_)
      simp only [results, Tryz.results63]
      go_simp
      refine hK _ ⟨?_, ?_⟩
      · rfl
      · have hle : w.heap.size ≤ w.heap.size + 1 + 1 + 1 + 1 := by omega
        exact (((B0.setCell hle _).setCell hle _).setCell hle _).setCell hle _
end Go.Proofs.YtboknfppecgjmaaGreat
