/- Part 40 of the proof's texts: R12All, Value, Filled, SoundV, Sound, Yield, ExactV. -/
import Derived.Deep.OwnRows
import Derived.OwnWalk
import Derived.Deep.LoopGhost
import Derived.Deep.RegionLaw
import Derived.Test.YtboknfppecgjmaaGreatExa1
import Derived.Test.YtboknfppecgjmaaGreatExa10
import Derived.Test.YtboknfppecgjmaaGreatExa15
import Derived.Test.YtboknfppecgjmaaGreatExa18
import Derived.Test.YtboknfppecgjmaaGreatExa27
import Derived.Test.YtboknfppecgjmaaGreatExa28
import Derived.Test.YtboknfppecgjmaaGreatExa29
import Derived.Test.YtboknfppecgjmaaGreatExa30
import Derived.Test.YtboknfppecgjmaaGreatExa35
import Derived.Test.YtboknfppecgjmaaGreatExa36
import Derived.Test.YtboknfppecgjmaaGreatExa37
import Derived.Test.YtboknfppecgjmaaGreatExa38
import Derived.Test.YtboknfppecgjmaaGreatExa39
set_option maxHeartbeats 16000000
namespace Go.Proofs.YtboknfppecgjmaaGreat
set_option linter.unusedVariables false
set_option linter.unusedSimpArgs false
open Go.RowKit Go.Shelf
theorem isU_hid {op p to off : Int} (h : Vb.isUn op p to off = true) : Hid (IsUnC op p to off true) := fun w => by have := isUn12_c op p to off w; rw [h] at this; exact this
theorem clipU_hid {p : Int} {x : V} (h : Vb.is p x = true) : Hid (ClipC p x x) := fun w => by have := clip_c p x w; rw [is_and_self h] at this; exact this
theorem isB_hid {op ty off : Int} (h : Vb.second op ty off ≠ 0) : Hid (IsBinC op ty off true) := fun w => by have := isBin12_c op ty off w; rw [decide_eq_true h] at this; exact this
theorem clipB_hid {p : Int} {x : V} (h : Vb.is p x = true) : Hid (ClipB p x x) := fun w => by have := clip_c p x w; rw [is_and_self h] at this; exact this
theorem mk_8 : mk 8 = 255#32 := by decide
theorem mk_16 : mk 16 = 65535#32 := by decide
theorem mk_32 : mk 32 = 4294967295#32 := by decide
theorem un12_range {op p to off : Int} (h : Vb.isUn op p to off = true) : 1 ≤ op ∧ op ≤ 13 ∧ (op = 12 → 0 ≤ off ∧ off ≤ 3) := by
  unfold Vb.isUn at h
  simp only at h
  grind (splits := 40)
theorem bin12_range {op ty off : Int} (h : Vb.second op ty off ≠ 0) : 1 ≤ op ∧ op ≤ 30 ∧ (op = 30 → 0 ≤ off ∧ off ≤ 3) := by
  unfold Vb.second at h
  simp only at h
  grind (splits := 40)
theorem small_lt {p : Int} {x : V} {n : Nat} (h : Vb.is p x = true) (k : Nat) (hn : n = 2 ^ k) (hp : (Vb.ones p).a.toNat = 2 ^ k - 1) : x.a.toNat < n := by
  rw [hn]
  exact (bv_low k x.a _ hp).1 (is_parts h).2.1
theorem un12_all {op p to off : Int} {x : V} (hU : Vb.isUn op p to off = true) (hx : Vb.is p x = true) (w : World) :
    Calls Tryz.prog 19 #[iv op, iv p, iv to, iv off, vv x] w fun e w' => e = .returned (.tuple #[vv (Rf.un12 op p to off x), .bool true]) ∧ Below w.heap.size w w' := by
  obtain ⟨h1, h2, h3⟩ := un12_range hU
  have HC := clipU_hid hx
  rcases (show op = 1 ∨ op = 2 ∨ op = 3 ∨ op = 4 ∨ op = 5 ∨ op = 6 ∨ op = 7 ∨ op = 8 ∨ op = 9 ∨ op = 10 ∨ op = 11 ∨ op = 12 ∨ op = 13 by omega) with rfl | rfl | rfl | rfl | rfl | rfl | rfl | rfl | rfl | rfl | rfl | rfl | rfl
  · exact un12_1 p to off x x (isU_hid hU) HC w
  · exact un12_2 p to off x x (isU_hid hU) HC w
  · obtain ⟨hp, _⟩ := isUn_small hU (.inr rfl)
    rcases hp with rfl | rfl | rfl
    · exact un12_3_1 to off x x (isU_hid hU) HC (Lib.hid (small_lt hx 1 rfl rfl)) w
    · exact un12_3_8 to off x x (isU_hid hU) HC (Lib.hid (small_lt hx 8 rfl rfl)) w
    · exact un12_3_16 to off x x (isU_hid hU) HC (Lib.hid (small_lt hx 16 rfl rfl)) w
  · exact un12_4 p to off x x (isU_hid hU) HC w
  · by_cases hz : x = V.zero
    · have e : Rf.un12 5 p to off x = Vb.one false := by
        show Vb.one (!decide (x = V.zero)) = _
        rw [decide_eq_true hz]; rfl
      rw [e]
      exact un12_5f p to off x x (isU_hid hU) HC (decide_eq_true hz) w
    · have e : Rf.un12 5 p to off x = Vb.one true := by
        show Vb.one (!decide (x = V.zero)) = _
        rw [decide_eq_false hz]; rfl
      rw [e]
      exact un12_5t p to off x x (isU_hid hU) HC (decide_eq_false hz) w
  · by_cases hz : x.a = 1#32
    · have e : Rf.un12 6 p to off x = (V.neg V.zero).and (Vb.ones to) := if_pos hz
      rw [e]
      exact un12_6t p to off x x (isU_hid hU) HC (decide_eq_true hz) w
    · have e : Rf.un12 6 p to off x = V.zero := if_neg hz
      rw [e]
      exact un12_6f p to off x x (isU_hid hU) HC (decide_eq_false hz) w
  · exact un12_7 p to off x x (isU_hid hU) HC w
  · have e : Rf.un12 8 p to off x = V.neg (Rf.sev Rf.f53 8 255#32 4 x V.zero) := by rw [← mk_8]; rfl
    rw [e]
    exact un12_8 p to off x x (isU_hid hU) HC _ (Lib.hid (lanes7_53_0 x V.zero)) w
  · have e : Rf.un12 9 p to off x = V.neg (Rf.sev Rf.f53 16 65535#32 2 x V.zero) := by rw [← mk_16]; rfl
    rw [e]
    exact un12_9 p to off x x (isU_hid hU) HC _ (Lib.hid (lanes7_53_1 x V.zero)) w
  · have e : Rf.un12 10 p to off x = V.neg (Rf.sev Rf.f53 32 4294967295#32 1 x V.zero) := by rw [← mk_32]; rfl
    rw [e]
    exact un12_10 p to off x x (isU_hid hU) HC _ (Lib.hid (lanes7_53_2 x V.zero)) w
  · exact un12_11 p to off x x (isU_hid hU) HC w
  · rcases (show off = 0 ∨ off = 1 ∨ off = 2 ∨ off = 3 by omega) with rfl | rfl | rfl | rfl
    · exact un12_12_0 p to x x (isU_hid hU) HC w
    · exact un12_12_1 p to x x (isU_hid hU) HC w
    · exact un12_12_2 p to x x (isU_hid hU) HC w
    · exact un12_12_3 p to x x (isU_hid hU) HC w
  · exact un12_13 p to off x x (isU_hid hU) HC w
theorem bin12_all {op ty off : Int} {x y : V} (h : Vb.second op ty off ≠ 0) (hx : Vb.is ty x = true) (hy : Vb.is (Vb.second op ty off) y = true) (w : World) :
    Calls Tryz.prog 22 #[iv op, iv ty, iv off, vv x, vv y] w fun e w' => e = .returned (.tuple #[vv (Rf.bin12 op off x y), .bool true]) ∧ Below w.heap.size w w' := by
  obtain ⟨h1, h2, h3⟩ := bin12_range h
  have HC := clipB_hid hx
  have HU := isB_hid h
  rw [second_sec h] at hy
  have HD := clipB_hid hy
  rcases (show op = 1 ∨ op = 2 ∨ op = 3 ∨ op = 4 ∨ op = 5 ∨ op = 6 ∨ op = 7 ∨ op = 8 ∨ op = 9 ∨ op = 10 ∨ op = 11 ∨ op = 12 ∨ op = 13 ∨ op = 14 ∨ op = 15 ∨ op = 16 ∨ op = 17 ∨ op = 18 ∨ op = 19 ∨ op = 20 ∨ op = 21 ∨ op = 22 ∨ op = 23 ∨ op = 24 ∨ op = 25 ∨ op = 26 ∨ op = 27 ∨ op = 28 ∨ op = 29 ∨ op = 30 by omega) with rfl | rfl | rfl | rfl | rfl | rfl | rfl | rfl | rfl | rfl | rfl | rfl | rfl | rfl | rfl | rfl | rfl | rfl | rfl | rfl | rfl | rfl | rfl | rfl | rfl | rfl | rfl | rfl | rfl | rfl
  · obtain ⟨C, W, H⟩ := alu7_3 x.a y.a 0
    exact bin12_alu 1 3 ty off x y x y HU HC HD (Lib.hid alu12_1) rfl rfl _ _ _ (Lib.hid H) w
  · obtain ⟨C, W, H⟩ := alu7_4 x.a y.a 0
    exact bin12_alu 2 4 ty off x y x y HU HC HD (Lib.hid alu12_2) rfl rfl _ _ _ (Lib.hid H) w
  · exact bin12_alu 3 11 ty off x y x y HU HC HD (Lib.hid alu12_3) rfl rfl _ _ _ (Lib.hid (alu7_11 x.a y.a 0)) w
  · exact bin12_alu 4 12 ty off x y x y HU HC HD (Lib.hid alu12_4) rfl rfl _ _ _ (Lib.hid (alu7_12 x.a y.a 0)) w
  · by_cases hz : y.a = 0#32
    · have e : Rf.bin12 5 off x y = V.word 0#32 := by
        show V.word (Rf.any7 5 x.a y.a) = _
        unfold Rf.any7
        rw [if_neg (by decide), if_pos hz]
      rw [e]
      exact bin12_alu 5 13 ty off x y x y HU HC HD (Lib.hid alu12_5) rfl rfl _ _ _ (Lib.hid (alu7_13z x.a y.a (decide_eq_true hz) 0)) w
    · have e : Rf.bin12 5 off x y = V.word (BitVec.ofInt 32 (U (x.a / y.a))) := by
        show V.word (Rf.any7 5 x.a y.a) = _
        unfold Rf.any7
        rw [if_neg (by decide), if_neg hz]
        rfl
      rw [e]
      exact bin12_alu 5 13 ty off x y x y HU HC HD (Lib.hid alu12_5) rfl rfl _ _ _ (Lib.hid (alu7_13 x.a y.a (decide_eq_false hz) 0)) w
  · by_cases hz : y.a = 0#32
    · have e : Rf.bin12 6 off x y = V.word 0#32 := by
        show V.word (Rf.any7 6 x.a y.a) = _
        unfold Rf.any7
        rw [if_neg (by decide), if_pos hz]
      rw [e]
      exact bin12_alu 6 14 ty off x y x y HU HC HD (Lib.hid alu12_6) rfl rfl _ _ _ (Lib.hid (alu7_14z x.a y.a (decide_eq_true hz) 0)) w
    · have e : Rf.bin12 6 off x y = V.word (x.a % y.a) := by
        show V.word (Rf.any7 6 x.a y.a) = _
        unfold Rf.any7
        rw [if_neg (by decide), if_neg hz]
        rfl
      rw [e]
      exact bin12_alu 6 14 ty off x y x y HU HC HD (Lib.hid alu12_6) rfl rfl _ _ _ (Lib.hid (alu7_14 x.a y.a (decide_eq_false hz) 0)) w
  · by_cases hz : y.a = 0#32
    · have e : Rf.bin12 7 off x y = V.word 0#32 := by
        show V.word (Rf.any7 7 x.a y.a) = _
        unfold Rf.any7
        rw [if_neg (by decide), if_pos hz]
      rw [e]
      exact bin12_alu 7 15 ty off x y x y HU HC HD (Lib.hid alu12_7) rfl rfl _ _ _ (Lib.hid (alu7_15z x.a y.a (decide_eq_true hz) 0)) w
    · have e : Rf.bin12 7 off x y = V.word (BitVec.ofInt 32 (wrap64 ((S x.a).tdiv (S y.a)))) := by
        show V.word (Rf.any7 7 x.a y.a) = _
        unfold Rf.any7
        rw [if_neg (by decide), if_neg hz]
        rfl
      rw [e]
      exact bin12_alu 7 15 ty off x y x y HU HC HD (Lib.hid alu12_7) rfl rfl _ _ _ (Lib.hid (alu7_15 x.a y.a (decide_eq_false hz) 0)) w
  · exact bin12_8 ty off x y x y HU HC HD _ (Lib.hid (lanes7_54 x y)) w
  · exact bin12_9 ty off x y x y HU HC HD _ (Lib.hid (lanes7_55 x y)) w
  · exact bin12_10 ty off x y x y HU HC HD _ (Lib.hid (lanes7_56 x y)) w
  · obtain ⟨C, W, H⟩ := alu7_8_all x.a y.a 0
    exact bin12_alu 11 8 ty off x y x y HU HC HD (Lib.hid alu12_11) rfl rfl _ _ _ (Lib.hid H) w
  · obtain ⟨C, W, H⟩ := alu7_9_all x.a y.a 0
    exact bin12_alu 12 9 ty off x y x y HU HC HD (Lib.hid alu12_12) rfl rfl _ _ _ (Lib.hid H) w
  · obtain ⟨C, W, H⟩ := alu7_10_all x.a y.a 0
    exact bin12_alu 13 10 ty off x y x y HU HC HD (Lib.hid alu12_13) rfl rfl _ _ _ (Lib.hid H) w
  · exact bin12_14 ty off x y x y HU HC HD w
  · exact bin12_15 ty off x y x y HU HC HD w
  · exact bin12_16 ty off x y x y HU HC HD w
  · exact bin12_17 ty off x y x y HU HC HD w
  · exact bin12_18 ty off x y x y HU HC HD w
  · exact bin12_19 ty off x y x y HU HC HD w
  · have e : Rf.bin12 20 off x y = Rf.sev Rf.f51 8 255#32 4 x y := by rw [← mk_8]; rfl
    rw [e]
    exact bin12_lane 20 ty off x y x y HU HC HD (Lib.hid alu12_20) rfl rfl rfl rfl rfl rfl rfl rfl rfl rfl _ (Lib.hid (lane12_20 x y _ (Lib.hid (lanes7_51_0 x y)))) w
  · have e : Rf.bin12 21 off x y = Rf.sev Rf.f51 16 65535#32 2 x y := by rw [← mk_16]; rfl
    rw [e]
    exact bin12_lane 21 ty off x y x y HU HC HD (Lib.hid alu12_21) rfl rfl rfl rfl rfl rfl rfl rfl rfl rfl _ (Lib.hid (lane12_21 x y _ (Lib.hid (lanes7_51_1 x y)))) w
  · have e : Rf.bin12 22 off x y = Rf.sev Rf.f51 32 4294967295#32 1 x y := by rw [← mk_32]; rfl
    rw [e]
    exact bin12_lane 22 ty off x y x y HU HC HD (Lib.hid alu12_22) rfl rfl rfl rfl rfl rfl rfl rfl rfl rfl _ (Lib.hid (lane12_22 x y _ (Lib.hid (lanes7_51_2 x y)))) w
  · have e : Rf.bin12 23 off x y = Rf.sev Rf.f52 8 255#32 4 x y := by rw [← mk_8]; rfl
    rw [e]
    exact bin12_lane 23 ty off x y x y HU HC HD (Lib.hid alu12_23) rfl rfl rfl rfl rfl rfl rfl rfl rfl rfl _ (Lib.hid (lane12_23 x y _ (Lib.hid (lanes7_52_0 x y)))) w
  · have e : Rf.bin12 24 off x y = Rf.sev Rf.f52 16 65535#32 2 x y := by rw [← mk_16]; rfl
    rw [e]
    exact bin12_lane 24 ty off x y x y HU HC HD (Lib.hid alu12_24) rfl rfl rfl rfl rfl rfl rfl rfl rfl rfl _ (Lib.hid (lane12_24 x y _ (Lib.hid (lanes7_52_1 x y)))) w
  · have e : Rf.bin12 25 off x y = Rf.sev Rf.f52 32 4294967295#32 1 x y := by rw [← mk_32]; rfl
    rw [e]
    exact bin12_lane 25 ty off x y x y HU HC HD (Lib.hid alu12_25) rfl rfl rfl rfl rfl rfl rfl rfl rfl rfl _ (Lib.hid (lane12_25 x y _ (Lib.hid (lanes7_52_2 x y)))) w
  · have e : Rf.bin12 26 off x y = Rf.sev Rf.f53 8 255#32 4 x y := by rw [← mk_8]; rfl
    rw [e]
    exact bin12_lane 26 ty off x y x y HU HC HD (Lib.hid alu12_26) rfl rfl rfl rfl rfl rfl rfl rfl rfl rfl _ (Lib.hid (lane12_26 x y _ (Lib.hid (lanes7_53_0 x y)))) w
  · have e : Rf.bin12 27 off x y = Rf.sev Rf.f53 16 65535#32 2 x y := by rw [← mk_16]; rfl
    rw [e]
    exact bin12_lane 27 ty off x y x y HU HC HD (Lib.hid alu12_27) rfl rfl rfl rfl rfl rfl rfl rfl rfl rfl _ (Lib.hid (lane12_27 x y _ (Lib.hid (lanes7_53_1 x y)))) w
  · have e : Rf.bin12 28 off x y = Rf.sev Rf.f53 32 4294967295#32 1 x y := by rw [← mk_32]; rfl
    rw [e]
    exact bin12_lane 28 ty off x y x y HU HC HD (Lib.hid alu12_28) rfl rfl rfl rfl rfl rfl rfl rfl rfl rfl _ (Lib.hid (lane12_28 x y _ (Lib.hid (lanes7_53_2 x y)))) w
  · exact bin12_lane 29 ty off x y x y HU HC HD (Lib.hid alu12_29) rfl rfl rfl rfl rfl rfl rfl rfl rfl rfl _ (Lib.hid (lane12_29 x y _ (Lib.hid (lanes7_57 x y)))) w
  · rcases (show off = 0 ∨ off = 1 ∨ off = 2 ∨ off = 3 by omega) with rfl | rfl | rfl | rfl
    · exact bin12_30_0 ty x y x y HU HC HD w
    · exact bin12_30_1 ty x y x y HU HC HD w
    · exact bin12_30_2 ty x y x y HU HC HD w
    · exact bin12_30_3 ty x y x y HU HC HD w
end Go.Proofs.YtboknfppecgjmaaGreat
namespace Go.Proofs.YtboknfppecgjmaaGreat
set_option linter.unusedVariables false
set_option linter.unusedSimpArgs false
open Go.RowKit Go.Shelf
theorem heap_five (w : World) (a b c d e : Obj) : (((((w.alloc a).alloc b).alloc c).alloc d).alloc e).heap[w.heap.size]? = some a ∧ (((((w.alloc a).alloc b).alloc c).alloc d).alloc e).heap[w.heap.size + 1]? = some b ∧ (((((w.alloc a).alloc b).alloc c).alloc d).alloc e).heap[w.heap.size + 1 + 1]? = some c ∧
    (((((w.alloc a).alloc b).alloc c).alloc d).alloc e).heap[w.heap.size + 1 + 1 + 1]? = some d ∧ (((((w.alloc a).alloc b).alloc c).alloc d).alloc e).heap[w.heap.size + 1 + 1 + 1 + 1]? = some e := by
  obtain ⟨h1, h2, h3, h4⟩ := heap_alloc4 w a b c d
  have s : ((((w.alloc a).alloc b).alloc c).alloc d).heap.size = w.heap.size + 1 + 1 + 1 + 1 := by simp
  have h5 := heap_alloc_new ((((w.alloc a).alloc b).alloc c).alloc d) e
  rw [s] at h5
  exact ⟨(Below.heap_alloc _ e _ (by omega)).trans h1, (Below.heap_alloc _ e _ (by omega)).trans h2, (Below.heap_alloc _ e _ (by omega)).trans h3, (Below.heap_alloc _ e _ (by omega)).trans h4, h5⟩
abbrev ValC (q : Ask) (c x y : V) (l : Value) (r : V) (w : World) : Prop := Calls Tryz.prog 13 #[akv q, vv c, vv x, vv y, l] w fun e w' => e = .returned (vv r) ∧ Below w.heap.size w w'
abbrev Un12C (op p to off : Int) (x r : V) : Prop := ∀ w, Calls Tryz.prog 19 #[iv op, iv p, iv to, iv off, vv x] w fun e w' => e = .returned (.tuple #[vv r, .bool true]) ∧ Below w.heap.size w w'
abbrev Bin12C (op ty off : Int) (x y r : V) : Prop := ∀ w, Calls Tryz.prog 22 #[iv op, iv ty, iv off, vv x, vv y] w fun e w' => e = .returned (.tuple #[vv r, .bool true]) ∧ Below w.heap.size w w'
set_option maxRecDepth 100000 in
theorem value0_c (q : Ask) (c x y : V) (l : Value) (r : V) (hk : (q.kind == 0) = true) (HV : Hid (Un12C q.op q.from_ q.to q.off x r)) (w : World) : ValC q c x y l (r) w := by
  obtain ⟨Q0, C0, X0, Y0, R0⟩ := heap_five w (.cells (akc q) 28) (vcell c) (vcell x) (vcell y) (vcell V.zero)
  go_enter Tryz.func13, Tryz.ntmps13
  go_wp2_with fail
  (refine (HV.out _ ).mono ?_; rintro e u1 ⟨rfl, hb⟩; obtain ⟨hc, hf⟩ := Flow.bcell hb; have hz := hb.size; (try simp only [World.size_alloc, World.size_setCell, World.size_drew] at hz); obtain ⟨z0, z1, z2, z3, z4⟩ := Flow.zs5 (show w.heap.size + 5 ≤ u1.heap.size by omega))
  have R1 := (hb.block (w.heap.size + 1 + 1 + 1 + 1) (by first | omega | (simp <;> omega))).trans R0
  have B1 : Below w.heap.size w u1 := by (repeat (first | exact Below.refl _ _ | refine Below.setCell ?_ (by first | omega | (simp <;> omega)) _ | refine Below.alloc ?_ (by first | omega | (simp <;> omega)) _ | refine Below.drew ?_ | refine Below.trans ?_ (Below.mono (by assumption) (by first | omega | (simp <;> omega)))))
  have y1 : w.heap.size + 1 + 1 + 1 + 1 < u1.heap.size := by omega
  clear R0 hb hc hf
  obtain ⟨rc, rf, rl⟩ := block_cells R1
  go_wp2_with fail
  refine Flow.bodyPost_k rfl (fun K hK => ?_)
  simp only [results, Tryz.results13]
  go_simp
  refine hK _ ⟨?_, ?_⟩
  · rfl
  · have hle : w.heap.size ≤ w.heap.size + 1 + 1 + 1 + 1 := by omega
    (repeat (first | exact B1 | refine Below.setCell ?_ (by first | exact hle | omega | (simp <;> omega)) _ | refine Below.alloc ?_ (by first | omega | (simp <;> omega)) _))
set_option maxRecDepth 100000 in
theorem value1_c (q : Ask) (c x y : V) (l : Value) (r : V) (hk0 : (q.kind == 0) = false) (hk : (q.kind == 1) = true) (HV : Hid (Bin12C q.op q.from_ q.off x y r)) (w : World) : ValC q c x y l (r) w := by
  obtain ⟨Q0, C0, X0, Y0, R0⟩ := heap_five w (.cells (akc q) 28) (vcell c) (vcell x) (vcell y) (vcell V.zero)
  go_enter Tryz.func13, Tryz.ntmps13
  go_wp2_with fail
  (refine (HV.out _ ).mono ?_; rintro e u1 ⟨rfl, hb⟩; obtain ⟨hc, hf⟩ := Flow.bcell hb; have hz := hb.size; (try simp only [World.size_alloc, World.size_setCell, World.size_drew] at hz); obtain ⟨z0, z1, z2, z3, z4⟩ := Flow.zs5 (show w.heap.size + 5 ≤ u1.heap.size by omega))
  have R1 := (hb.block (w.heap.size + 1 + 1 + 1 + 1) (by first | omega | (simp <;> omega))).trans R0
  have B1 : Below w.heap.size w u1 := by (repeat (first | exact Below.refl _ _ | refine Below.setCell ?_ (by first | omega | (simp <;> omega)) _ | refine Below.alloc ?_ (by first | omega | (simp <;> omega)) _ | refine Below.drew ?_ | refine Below.trans ?_ (Below.mono (by assumption) (by first | omega | (simp <;> omega)))))
  have y1 : w.heap.size + 1 + 1 + 1 + 1 < u1.heap.size := by omega
  clear R0 hb hc hf
  obtain ⟨rc, rf, rl⟩ := block_cells R1
  go_wp2_with fail
  refine Flow.bodyPost_k rfl (fun K hK => ?_)
  simp only [results, Tryz.results13]
  go_simp
  refine hK _ ⟨?_, ?_⟩
  · rfl
  · have hle : w.heap.size ≤ w.heap.size + 1 + 1 + 1 + 1 := by omega
    (repeat (first | exact B1 | refine Below.setCell ?_ (by first | exact hle | omega | (simp <;> omega)) _ | refine Below.alloc ?_ (by first | omega | (simp <;> omega)) _))
set_option maxRecDepth 100000 in
theorem value2t_c (q : Ask) (c x y : V) (l : Value) (hk0 : (q.kind == 0) = false) (hk1 : (q.kind == 1) = false) (hk : (q.kind == 2) = true) (hc : decide (c.a = 1#32) = true) (w : World) : ValC q c x y l (x) w := by
  obtain ⟨Q0, C0, X0, Y0, R0⟩ := heap_five w (.cells (akc q) 28) (vcell c) (vcell x) (vcell y) (vcell V.zero)
  go_enter Tryz.func13, Tryz.ntmps13
  go_wp2_with fail
  refine Flow.bodyPost_k rfl (fun K hK => ?_)
  simp only [results, Tryz.results13]
  go_simp
  refine hK _ ⟨?_, ?_⟩
  · rfl
  · have hle : w.heap.size ≤ w.heap.size + 1 + 1 + 1 + 1 := by omega
    (repeat (first | exact Below.refl _ _ | refine Below.setCell ?_ (by first | exact hle | omega | (simp <;> omega)) _ | refine Below.alloc ?_ (by first | omega | (simp <;> omega)) _))
set_option maxRecDepth 100000 in
theorem value2f_c (q : Ask) (c x y : V) (l : Value) (hk0 : (q.kind == 0) = false) (hk1 : (q.kind == 1) = false) (hk : (q.kind == 2) = true) (hc : decide (c.a = 1#32) = false) (w : World) : ValC q c x y l (y) w := by
  obtain ⟨Q0, C0, X0, Y0, R0⟩ := heap_five w (.cells (akc q) 28) (vcell c) (vcell x) (vcell y) (vcell V.zero)
  go_enter Tryz.func13, Tryz.ntmps13
  go_wp2_with fail
  refine Flow.bodyPost_k rfl (fun K hK => ?_)
  simp only [results, Tryz.results13]
  go_simp
  refine hK _ ⟨?_, ?_⟩
  · rfl
  · have hle : w.heap.size ≤ w.heap.size + 1 + 1 + 1 + 1 := by omega
    (repeat (first | exact Below.refl _ _ | refine Below.setCell ?_ (by first | exact hle | omega | (simp <;> omega)) _ | refine Below.alloc ?_ (by first | omega | (simp <;> omega)) _))
set_option maxRecDepth 100000 in
theorem value3_c (q : Ask) (c x y : V) (l : Value) (n : BitVec 32) (hk0 : (q.kind == 0) = false) (hk1 : (q.kind == 1) = false) (hk2 : (q.kind == 2) = false) (w : World) (HV : Hid (∀ w', Below w.heap.size w w' → Calls Tryz.prog 39 #[iv q.op, l] w' fun e w'' => e = .returned (.tuple #[uv n, .bool true]) ∧ Below w'.heap.size w' w'')) : ValC q c x y l (V.word n) w := by
  obtain ⟨Q0, C0, X0, Y0, R0⟩ := heap_five w (.cells (akc q) 28) (vcell c) (vcell x) (vcell y) (vcell V.zero)
  go_enter Tryz.func13, Tryz.ntmps13
  go_wp2_with fail
  (refine (HV.out _ (by (repeat (first | exact Below.refl _ _ | refine Below.setCell ?_ (by first | omega | (simp <;> omega)) _ | refine Below.alloc ?_ (by first | omega | (simp <;> omega)) _ | refine Below.drew ?_ | refine Below.trans ?_ (Below.mono (by assumption) (by first | omega | (simp <;> omega)))))) ).mono ?_; rintro e u1 ⟨rfl, hb⟩; obtain ⟨hc, hf⟩ := Flow.bcell hb; have hz := hb.size; (try simp only [World.size_alloc, World.size_setCell, World.size_drew] at hz); obtain ⟨z0, z1, z2, z3, z4⟩ := Flow.zs5 (show w.heap.size + 5 ≤ u1.heap.size by omega))
  have R1 := (hb.block (w.heap.size + 1 + 1 + 1 + 1) (by first | omega | (simp <;> omega))).trans R0
  have B1 : Below w.heap.size w u1 := by (repeat (first | exact Below.refl _ _ | refine Below.setCell ?_ (by first | omega | (simp <;> omega)) _ | refine Below.alloc ?_ (by first | omega | (simp <;> omega)) _ | refine Below.drew ?_ | refine Below.trans ?_ (Below.mono (by assumption) (by first | omega | (simp <;> omega)))))
  have y1 : w.heap.size + 1 + 1 + 1 + 1 < u1.heap.size := by omega
  clear R0 hb hc hf
  go_wp2_with fail
  (refine (v_c n _ ).mono ?_; rintro e u2 ⟨rfl, hb⟩; obtain ⟨hc, hf⟩ := Flow.bcell hb; have hz := hb.size; (try simp only [World.size_alloc, World.size_setCell, World.size_drew] at hz); obtain ⟨z0, z1, z2, z3, z4⟩ := Flow.zs5 (show w.heap.size + 5 ≤ u2.heap.size by omega))
  have R2 := (hb.block (w.heap.size + 1 + 1 + 1 + 1) (by first | omega | (simp <;> omega))).trans R1
  have B2 : Below w.heap.size w u2 := B1.trans (hb.mono (by omega))
  have y2 : w.heap.size + 1 + 1 + 1 + 1 < u2.heap.size := by omega
  clear R1 hb hc hf
  obtain ⟨rc, rf, rl⟩ := block_cells R2
  go_wp2_with fail
  refine Flow.bodyPost_k rfl (fun K hK => ?_)
  simp only [results, Tryz.results13]
  go_simp
  refine hK _ ⟨?_, ?_⟩
  · rfl
  · have hle : w.heap.size ≤ w.heap.size + 1 + 1 + 1 + 1 := by omega
    (repeat (first | exact B2 | refine Below.setCell ?_ (by first | exact hle | omega | (simp <;> omega)) _ | refine Below.alloc ?_ (by first | omega | (simp <;> omega)) _))
end Go.Proofs.YtboknfppecgjmaaGreat
namespace Go.Proofs.YtboknfppecgjmaaGreat
set_option linter.unusedVariables false
set_option linter.unusedSimpArgs false
open Go.RowKit Go.Shelf
def fillL (x : V) : Nat → List (BitVec 32) → List (BitVec 32) → List (BitVec 32)
  | _, _, [] => []
  | i, s, w :: l => ((w &&& ~~~(s.headD 0#32)) ||| (x.get (i % 4) &&& s.headD 0#32)) :: fillL x (i + 1) s.tail l
theorem fillL_length (x : V) : ∀ (i : Nat) (s l : List (BitVec 32)), (fillL x i s l).length = l.length
  | _, _, [] => rfl
  | i, s, w :: l => by simp [fillL, fillL_length x (i + 1) s.tail l]
theorem fillL_get (x : V) : ∀ (l s : List (BitVec 32)) (j i : Nat), (fillL x j s l)[i]? = (l[i]?).map fun w => (w &&& ~~~(s[i]?.getD 0#32)) ||| (x.get ((j + i) % 4) &&& (s[i]?.getD 0#32))
  | [], _, _, _ => by simp [fillL]
  | w :: l, s, j, 0 => by cases s <;> simp [fillL]
  | w :: l, s, j, i + 1 => by
    have h : s.tail[i]? = s[i + 1]? := by cases s <;> simp
    simp only [fillL, List.getElem?_cons_succ, fillL_get x l s.tail (j + 1) i, h]
    rw [show j + 1 + i = j + (i + 1) by omega]
theorem fill_take {x : V} {s l : List (BitVec 32)} {i : Nat} {w k : BitVec 32} (hw : l[i]? = some w) (hk : s[i]?.getD 0#32 = k) :
    ((fillL x 0 s l).take (i + 1)).map (fun x => uv x) = ((fillL x 0 s l).take i).map (fun x => uv x) ++ [uv ((w &&& ~~~k) ||| (x.get (i % 4) &&& k))] := by
  rw [List.take_add_one, fillL_get, hw, hk]
  simp
theorem v_cell (x : V) (j : Nat) (h : j < 4) : (#[uv x.a, uv x.b, uv x.c, uv x.d] : Array Value)[j]? = some (uv (x.get j)) := by
  match j, h with
  | 0, _ => rfl
  | 1, _ => rfl
  | 2, _ => rfl
  | 3, _ => rfl
theorem one_of (x : BitVec 32) : ∀ u ∈ [uv x], u.oneCell' = true := by
  intro u hu
  cases List.mem_singleton.1 hu
  rfl
structure LQ (n : Nat) (q : Ask) (c x y r : V) (W : World) : Prop where
  Q : W.heap[n]? = some (.cells (akc q) 28)
  C : W.heap[n + 1]? = some (vcell c)
  X : W.heap[n + 1 + 1]? = some (vcell x)
  Y : W.heap[n + 1 + 1 + 1]? = some (vcell y)
  R : W.heap[n + 1 + 1 + 1 + 1]? = some (vcell r)
theorem LQ.lt {n : Nat} {q : Ask} {c x y r : V} {W : World} (K : LQ n q c x y r W) : n + 1 + 1 + 1 + 1 < W.heap.size := (Array.getElem?_eq_some_iff.1 K.R).1
theorem LQ.step {n B : Nat} {q : Ask} {c x y r : V} {W W' : World} (K : LQ n q c x y r W) (hb : Below B W W') (hB : n + 1 + 1 + 1 + 1 < B) : LQ n q c x y r W' :=
  ⟨(hb.block _ (by omega)).trans K.Q, (hb.block _ (by omega)).trans K.C, (hb.block _ (by omega)).trans K.X, (hb.block _ (by omega)).trans K.Y, (hb.block _ (by omega)).trans K.R⟩
theorem own_gr {wr w' : World} {base : Nat} {e : TypeId} {size : Nat} {v : Value} {n : Nat} {xs : List Value} {o : Obj} (hsz : base ≤ wr.heap.size) (hown : wr.ownsRow base e size v n xs) (hg : (wr.alloc o).grownBy w' v.ownBlock) : Below base wr w' := by
  refine ((Below.refl base wr).alloc hsz o).grown hg (by simp; omega) ?_
  exact fun k hk => (hown.lt k hk).1
theorem own_form' {w : World} {base : Nat} {e : TypeId} {size : Nat} {v : Value} {n : Nat} {xs : List Value} (h : w.ownsRow base e size v (n + 1) xs) : ∃ g cp, v = .slice (some ⟨g, 0, none⟩) (n + 1) cp := by
  obtain ⟨_, h0 | ⟨g, cp, cur, rfl, _⟩⟩ := h
  · omega
  · exact ⟨g, cp, rfl⟩
theorem new_one' {w : World} {a : Addr} {x : Value} (h : w.cell? a = some x) : ∀ j u, [x][j]? = some u → w.cell? (a.add j) = some u := by
  intro j u hj
  match j, hj with
  | 0, hj => simp at hj; subst hj; simpa [Addr.add] using h
theorem own_lists' {w : World} {base : Nat} {v : Value} {n : Nat} {L : List (BitVec 32)} (h : w.ownsRow base 22 1 v n ((L.take n).map fun x => uv x)) (hL : L.length = n) : Lists w v L := by
  obtain ⟨h1, h0 | ⟨g, cap, cur, h2, hg, hh, _, _, _, h4⟩⟩ := h
  · obtain ⟨rfl, rfl⟩ := h0
    exact .inl ⟨_, _, rfl, List.eq_nil_of_length_eq_zero hL⟩
  · refine .inr ⟨g, 0, cap, by rw [h2, hL], fun i x hi => ?_⟩
    have hil : i < L.length := (List.getElem?_eq_some_iff.1 hi).1
    rw [(block_cells hh).1, Nat.zero_add]
    have h5 : (cur.toList.take (n * 1))[i]? = some (uv x) := by rw [h4, List.getElem?_map, List.getElem?_take, if_pos (by omega), hi]; rfl
    rw [List.getElem?_take, if_pos (by omega)] at h5
    simpa using h5
theorem lists_cell' {w wr : World} {v : Value} {l : List (BitVec 32)} {as_ : Option Addr} {ns cs : Nat} (h : Lists w v l) (hv : v = .slice as_ ns cs) (hl : l.length = ns) (B : Below w.heap.size w wr) (i : Nat) (hi : i < ns) :
    ∃ b off x, as_ = some ⟨b, off, none⟩ ∧ wr.cell? ⟨b, off + i, none⟩ = some (uv x) ∧ l[i]? = some x := by
  subst hv
  rcases h with ⟨a, cap, h1, h2⟩ | ⟨b, off, cap, h1, h2⟩
  · subst h2; simp at hl; omega
  · simp only [Value.slice.injEq] at h1
    have hx : l[i]? = some (l[i]'(by omega)) := List.getElem?_eq_getElem (by omega)
    refine ⟨b, off, _, h1.1, ?_, hx⟩
    have h3 := h2 i _ hx
    have hb : b < w.heap.size := by
      have := block_lt_of_cell h3
      simpa using this
    rw [B.cell (p := ⟨b, off + i, none⟩) hb]
    exact h3
theorem Lists.cells {w w' : World} {v : Value} {l : List (BitVec 32)} (h : Lists w v l) (hc : ∀ b o, b < w.heap.size → w'.cell? ⟨b, o, none⟩ = w.cell? ⟨b, o, none⟩) : Lists w' v l := by
  rcases h with h | ⟨b, off, cap, hv, h1⟩
  · exact .inl h
  · refine .inr ⟨b, off, cap, hv, fun i x hi => ?_⟩
    have h2 := h1 i x hi
    have hlt := block_lt_of_cell h2
    simp only at hlt
    rw [hc _ _ hlt]
    exact h2
set_option maxRecDepth 100000 in
theorem filled_c (q : Ask) (al as_ : Option Addr) (nl cl ns cs : Nat) (hl : Hid (q.l = .slice al nl cl)) (hs : Hid (q.s = .slice as_ ns cs)) (hm : ns ≤ maxLen) (hn : 4 * nl ≤ 140737488351232) (c x y r : V) (w : World)
    (l s : List (BitVec 32)) (hll : Hid (l.length = nl)) (hsl : Hid (s.length = ns)) (HL : Hid (Lists w q.l l)) (HS : Hid (Lists w q.s s))
    (HV : Hid (∀ v w', Lists w' v (fillL x 0 s l) → ValC q (Vb.fill 1 q.c q.d c) (Vb.fill q.from_ q.x q.a x) (Vb.fill q.sec q.y q.b y) v r w')) :
    Calls Tryz.prog 12 #[akv q, vv c, vv x, vv y] w fun e w' => e = .returned (vv r) ∧ Below w.heap.size w w' := by
  obtain ⟨Q0, C0, X0, Y0, R0⟩ := heap_five w (.cells (akc q) 28) (vcell c) (vcell x) (vcell y) (vcell V.zero)
  unfold maxLen at hm
  obtain ⟨i0, hi, hz0, hz1, hz2⟩ := info_parts info_u32
  have hl' := hl.out
  go_enter Tryz.func12, Tryz.ntmps12
  go_wp2_with fail
  clear hl'
  generalize hu : World.alloc _ _ = u0
  have K0 : LQ w.heap.size q c x y V.zero u0 := by rw [← hu]; exact ⟨Q0, C0, X0, Y0, R0⟩
  have B0 : Below w.heap.size w u0 := by rw [← hu]; (repeat (first | exact Below.refl _ _ | refine Below.setCell ?_ (by first | omega | (simp <;> omega)) _ | refine Below.alloc ?_ (by first | omega | (simp <;> omega)) _ | refine Below.drew ?_ | refine Below.trans ?_ (Below.mono (by assumption) (by first | omega | (simp <;> omega)))))
  have k0 : w.heap.size + 1 + 1 + 1 + 1 < u0.heap.size := K0.lt
  clear hu Q0 C0 X0 Y0 R0
  go_loopg [9, 16] nl (fun k p9 p16 wr => ∃ (i : Nat) (v : Value), i + k = nl ∧ p16 = .int .i64 (i : Int) ∧ v = p9 ∧ LQ w.heap.size q c x y V.zero wr ∧
    wr.ownsRow u0.heap.size 22 1 v i (((fillL x 0 s l).take i).map fun x => uv x) ∧ Below w.heap.size w wr ∧ u0.heap.size ≤ wr.heap.size)
  case atStart => exact ⟨0, .slice none 0 0, by omega, rfl, rfl, K0, World.ownsRow_nil _ _ _ _, B0, Nat.le_refl _⟩
  case round =>
    obtain ⟨i, v, hik, rfl, rfl, K, hown, B, hsz⟩ := hrel
    clear K0 B0
    obtain ⟨qc, qf, ql⟩ := block_cells K.Q
    obtain ⟨xc, xf, xl⟩ := block_cells K.X
    by_cases hlt : i < nl
    · obtain ⟨b, off, p, rfl, hcell, hx⟩ := lists_cell' HL.out hl.out hll.out B i hlt
      have hbd : i < 9223372036854775807 := by omega
      have hlt4 : i % 4 < 4 := Nat.mod_lt _ (by omega)
      have hrem : (i : Int).tmod 4 = (i : Int) % 4 := Int.tmod_eq_emod_of_nonneg (by omega)
      have g0 : (0 : Int) ≤ (i : Int) % 4 := by omega
      have g1 : (i : Int) % 4 < 4 := by omega
      have hr4 : wr.cell? ⟨w.heap.size + 1 + 1, i % 4, none⟩ = some (uv (x.get (i % 4))) := by rw [xc]; exact v_cell x _ hlt4
      clear xc
      have hs' := hs.out
      by_cases his : i < ns
      · obtain ⟨b2, off2, t, rfl, hcell2, hx2⟩ := lists_cell' HS.out hs.out hsl.out B i his
        go_wp2_with (at_builtin; refine wpList_append_own _ rfl (.tmp 31) (.tmp 42) 25 rfl u0.heap.size 22 i0 (.int .u32 0) 1 4 Tryz.underlying25 hi hz0 hz1 hz2 rfl (by decide) v i (((fillL x 0 s l).take i).map fun x => uv x) rfl (hown.alloc _) ⟨wr.heap.size, 0, none⟩ 1 1 [uv ((p &&& ~~~t) ||| (x.get (i % 4) &&& t))] rfl rfl (new_one' (by simp)) (one_of _) (by unfold maxLen; omega) (by omega) (by simp; omega) ?_; intro v' w' hown' hgrow _; obtain ⟨g, cp, rfl⟩ := own_form' hown'; have BG := own_gr hsz hown hgrow)
        go_roundg (gk - 1)
        case measure => omega
        case rel => exact ⟨i + 1, .slice (some ⟨g, 0, none⟩) (i + 1) cp, by omega, by simp, rfl, K.step BG k0, by rw [fill_take hx (by rw [hx2])]; exact hown', B.trans (BG.mono (by omega)), Nat.le_trans hsz BG.size⟩
      · have hge : s.length ≤ i := by rw [hsl.out]; omega
        have hx2 : s[i]?.getD 0#32 = 0#32 := by rw [List.getElem?_eq_none hge]; rfl
        clear hge
        go_wp2_with (at_builtin; refine wpList_append_own _ rfl (.tmp 31) (.tmp 42) 25 rfl u0.heap.size 22 i0 (.int .u32 0) 1 4 Tryz.underlying25 hi hz0 hz1 hz2 rfl (by decide) v i (((fillL x 0 s l).take i).map fun x => uv x) rfl (hown.alloc _) ⟨wr.heap.size, 0, none⟩ 1 1 [uv ((p &&& ~~~0#32) ||| (x.get (i % 4) &&& 0#32))] rfl rfl (new_one' (by simp)) (one_of _) (by unfold maxLen; omega) (by omega) (by simp; omega) ?_; intro v' w' hown' hgrow _; obtain ⟨g, cp, rfl⟩ := own_form' hown'; have BG := own_gr hsz hown hgrow)
        go_roundg (gk - 1)
        case measure => omega
        case rel => exact ⟨i + 1, .slice (some ⟨g, 0, none⟩) (i + 1) cp, by omega, by simp, rfl, K.step BG k0, by rw [fill_take hx hx2]; exact hown', B.trans (BG.mono (by omega)), Nat.le_trans hsz BG.size⟩
    · have hin : i = nl := by omega
      subst hin
      have hL := Lib.hid (own_lists' hown (by rw [fillL_length]; exact hll.out))
      have hk : ¬ i < i := by omega
      have kl := K.lt
      clear hown xc xf xl
      obtain ⟨cc, cf, ccl⟩ := block_cells K.C
      obtain ⟨xc, xf, xl⟩ := block_cells K.X
      obtain ⟨yc, yf, yl⟩ := block_cells K.Y
      go_wp2_with fail
      refine Flow.wp_region_blk 25 (by kernel_rfl) (by kernel_rfl) (fun R hRc hRt hRb => ?_)
      simp only [List.take_succ_cons, List.take_zero, List.drop_succ_cons, List.drop_zero]
      iterate 25
        first
          | refine Flow.flow_skip rfl ?_
          | (apply Flow.flow_step; rfl; (intro w1 hb; exact FlowY.runsTo_load_row 28 (.tmp 4) rfl w.heap.size rfl 28 (akc q) (0, 0) _ ((hRb.out w1 hb _ (by omega)).trans K.Q) Tryz.underlying28 rfl (by kernel_rfl) ⟨rfl, hb⟩))
          | (apply Flow.flow_step; rfl; (intro w1 hb; have hc := hRc.out w1 hb; go_simp; (first | with_reducible exact ⟨rfl, hb⟩ | with_reducible exact rfl | (go_at_call 38; refine (rfill_c _ _ _ _ _ ).mono ?_; rintro e w2 ⟨rfl, hb2⟩; exact ⟨_, rfl, rfl, hRt.out _ _ hb hb2⟩) | (go_at_call 34; refine (second'_c _ _).mono ?_; rintro e w2 ⟨rfl, hb2⟩; exact ⟨_, rfl, rfl, hRt.out _ _ hb hb2⟩) | (go_at_call 13; refine (HV.out _ _ (hL.out.cells hc) ).mono ?_; rintro e w2 ⟨rfl, hb2⟩; exact ⟨_, rfl, rfl, hRt.out _ _ hb hb2⟩))))
        (try simp only [Act.put, List.setIfInBounds_toArray, List.set_cons_zero, List.set_cons_succ])
      apply Flow.flow_nil
      clear hRc hRt hRb
      intro u9 hb
      have hz := hb.size
      have B9 : Below w.heap.size w u9 := B.trans (hb.mono (by omega))
      have R9 := (hb.block _ kl).trans K.R
      clear hb
      obtain ⟨rc, rf, rl⟩ := block_cells R9
      go_wp2_with fail
      refine Flow.bodyPost_k rfl (fun K hK => ?_)
      simp only [results, Tryz.results12]
      go_simp
      refine hK _ ⟨?_, ?_⟩
      · rfl
      · have hle : w.heap.size ≤ w.heap.size + 1 + 1 + 1 + 1 := by omega
        exact (((B9.setCell hle _).setCell hle _).setCell hle _).setCell hle _
end Go.Proofs.YtboknfppecgjmaaGreat
namespace Go.Proofs.YtboknfppecgjmaaGreat
set_option linter.unusedVariables false
set_option linter.unusedSimpArgs false
open Go.RowKit Go.Shelf
def Ask.val (q : Ask) (c x y : V) (n : BitVec 32) : V :=
  if q.kind = 0 then Rf.un12 q.op q.from_ q.to q.off x else if q.kind = 1 then Rf.bin12 q.op q.off x y else if q.kind = 2 then muxV c x y else V.word n
theorem ne_b {x y : Int} (h : ¬ x = y) : (x == y) = false := by simpa using h
theorem val_c {q : Ask} {n m : Nat} (h : q.Fits n m) (c x y : V) (v : Value) (k : BitVec 32) (hx : q.kind ≠ 3 → Vb.is q.from_ x = true) (hy : q.kind = 1 → Vb.is q.sec y = true) (w : World)
    (hk : q.kind = 3 → ∀ w', Below w.heap.size w w' → Calls Tryz.prog 39 #[iv q.op, v] w' fun e w'' => e = .returned (.tuple #[uv k, .bool true]) ∧ Below w'.heap.size w' w'') : ValC q c x y v (q.val c x y k) w := by
  unfold Ask.val
  cases h with
  | un h0 h _ _ =>
    rw [if_pos h0]
    exact value0_c q c x y v _ (beq_iff_eq.2 h0) (Lib.hid (fun w => un12_all h (hx (by omega)) w)) w
  | bin h1 h hsec _ _ _ _ =>
    have k0 : ¬ q.kind = 0 := by omega
    rw [if_neg k0, if_pos h1]
    exact value1_c q c x y v _ (ne_b k0) (beq_iff_eq.2 h1) (Lib.hid (fun w => bin12_all h (hx (by omega)) (by rw [hsec]; exact hy h1) w)) w
  | mux h2 _ _ _ _ _ _ _ _ =>
    have k0 : ¬ q.kind = 0 := by omega
    have k1 : ¬ q.kind = 1 := by omega
    rw [if_neg k0, if_neg k1, if_pos h2]
    unfold muxV
    by_cases hc : c.a = 1#32
    · rw [if_pos hc]; exact value2t_c q c x y v (ne_b k0) (ne_b k1) (beq_iff_eq.2 h2) (decide_eq_true hc) w
    · rw [if_neg hc]; exact value2f_c q c x y v (ne_b k0) (ne_b k1) (beq_iff_eq.2 h2) (decide_eq_false hc) w
  | call h3 _ _ =>
    have k0 : ¬ q.kind = 0 := by omega
    have k1 : ¬ q.kind = 1 := by omega
    have k2 : ¬ q.kind = 2 := by omega
    rw [if_neg k0, if_neg k1, if_neg k2]
    exact value3_c q c x y v k (ne_b k0) (ne_b k1) (ne_b k2) w (Lib.hid (hk h3))
end Go.Proofs.YtboknfppecgjmaaGreat
namespace Go.Proofs.YtboknfppecgjmaaGreat
set_option linter.unusedVariables false
set_option linter.unusedSimpArgs false
open Go.RowKit Go.Shelf
abbrev FilC (q : Ask) (c x y r : V) (w : World) : Prop := Calls Tryz.prog 12 #[akv q, vv c, vv x, vv y] w fun e w' => e = .returned (vv r) ∧ Below w.heap.size w w'
abbrev IsC (ty : Int) (x : V) : Prop := ∀ w, Calls Tryz.prog 10 #[iv ty, vv x] w fun e w' => e = .returned (.bool true) ∧ Below w.heap.size w w'
abbrev AndC (x y r : V) : Prop := ∀ w, Calls Tryz.prog 15 #[vv x, vv y] w fun e w' => e = .returned (vv r) ∧ Below w.heap.size w w'
end Go.Proofs.YtboknfppecgjmaaGreat
namespace Go.Proofs.YtboknfppecgjmaaGreat
set_option linter.unusedVariables false
set_option linter.unusedSimpArgs false
open Go.RowKit Go.Shelf
structure EX (nQ nS nF : Nat) (q : Ask) (s f d : V) (sb : Bool) (W : World) : Prop where
  Q : W.heap[nQ]? = some (.cells (akc q) 28)
  S : W.heap[nS]? = some (vcell s)
  F : W.heap[nF]? = some (vcell f)
  N : W.heap[nF + 1]? = some (.cells #[.bool sb] 4)
  D : W.heap[nF + 1 + 1]? = some (vcell d)
structure Kept (nF : Nat) (W W' : World) : Prop where
  below : Below nF W W'
  size : W.heap.size ≤ W'.heap.size
  other : ∀ b, b < W.heap.size → b ≠ nF → b ≠ nF + 1 → b ≠ nF + 1 + 1 → W'.heap[b]? = W.heap[b]?
theorem Kept.refl (nF : Nat) (W : World) : Kept nF W W := ⟨Below.refl _ _, Nat.le_refl _, fun _ _ _ _ _ => rfl⟩
theorem Kept.trans {nF : Nat} {W W' W'' : World} (h : Kept nF W W') (g : Kept nF W' W'') : Kept nF W W'' :=
  ⟨h.below.trans g.below, Nat.le_trans h.size g.size, fun b hb h1 h2 h3 => (g.other b (Nat.lt_of_lt_of_le hb h.size) h1 h2 h3).trans (h.other b hb h1 h2 h3)⟩
theorem Kept.of_below {nF : Nat} {W W' : World} (h : Below W.heap.size W W') (hn : nF ≤ W.heap.size) : Kept nF W W' := ⟨h.mono hn, h.size, fun b hb _ _ _ => h.block b hb⟩
theorem Kept.of_stored {nF b : Nat} {W W' : World} (h : Stored b W W') (hb : b = nF ∨ b = nF + 1 ∨ b = nF + 1 + 1) : Kept nF W W' :=
  ⟨h.below _ (by omega), Nat.le_of_eq h.size.symm, fun c _ h1 h2 h3 => h.other c (by omega)⟩
def Rf.gone (d f z : V) : V := d.or (f.xor z)
def Rf.left24 (s d : V) : Bool := !decide (s.and (d.xor V.all) = V.zero)
set_option maxRecDepth 100000 in
theorem yield_f (q : Ask) (nQ nS nF : Nat) (g1 : nQ < nF) (g2 : nS < nF) (s f d z : V) (c x y : V) (W : World) (St : EX nQ nS nF q s f d false W) (HV : Hid (∀ W', Below W.heap.size W W' → FilC q c x y z W')) :
    Calls Tryz.prog 28 #[vv c, vv x, vv y, .pointer (some ⟨nQ, 0, none⟩), .pointer (some ⟨nF + 1, 0, none⟩), .pointer (some ⟨nF, 0, none⟩), .pointer (some ⟨nF + 1 + 1, 0, none⟩), .pointer (some ⟨nS, 0, none⟩)] W
      fun e W' => e = .returned (.bool (Rf.left24 s (Rf.gone d z z))) ∧ EX nQ nS nF q s z (Rf.gone d z z) true W' ∧ Kept nF W W' := by
  have hsz : nF + 1 + 1 < W.heap.size := (Array.getElem?_eq_some_iff.1 St.D).1
  have QA : ∀ o1 o2 o3, (((W.alloc o1).alloc o2).alloc o3).heap[nQ]? = some (.cells (akc q) 28) := fun o1 o2 o3 =>
    (Below.heap_alloc _ o3 nQ (by simp; omega)).trans ((Below.heap_alloc _ o2 nQ (by simp; omega)).trans ((Below.heap_alloc W o1 nQ (by omega)).trans St.Q))
  go_enter Tryz.func28, Tryz.ntmps28
  go_wp2_with (refine wpList_load_row rfl 28 (.tmp 3) rfl nQ rfl 28 (akc q) (0, 0) _ (QA _ _ _) Tryz.underlying28 rfl (by kernel_rfl) ?_)
  refine (HV.out _ (by (repeat (first | exact Below.refl _ _ | refine Below.setCell ?_ (by first | omega | (simp <;> omega)) _ | refine Below.alloc ?_ (by first | omega | (simp <;> omega)) _ | refine Below.drew ?_ | refine Below.trans ?_ (Below.mono (by assumption) (by first | omega | (simp <;> omega))))))).mono ?_
  rintro e u1 ⟨rfl, hb⟩
  have hz1 := hb.size
  simp only [World.size_alloc] at hz1
  have B1 : Below W.heap.size W u1 := by (repeat (first | exact Below.refl _ _ | refine Below.setCell ?_ (by first | omega | (simp <;> omega)) _ | refine Below.alloc ?_ (by first | omega | (simp <;> omega)) _ | refine Below.drew ?_ | refine Below.trans ?_ (Below.mono (by assumption) (by first | omega | (simp <;> omega)))))
  have Q1 := (B1.block nQ (by omega)).trans St.Q
  have S1 := (B1.block nS (by omega)).trans St.S
  have F1 := (B1.block nF (by omega)).trans St.F
  have N1 := (B1.block (nF + 1) (by omega)).trans St.N
  have D1 := (B1.block (nF + 1 + 1) (by omega)).trans St.D
  have K1 : Kept nF W u1 := Kept.of_below B1 (by omega)
  clear hb QA
  obtain ⟨u2, e2⟩ : ∃ u2, u1.alloc (vcell z) = u2 := ⟨_, rfl⟩
  have Q2 := (Below.heap_alloc u1 (vcell z) nQ (by omega)).trans Q1
  have S2 := (Below.heap_alloc u1 (vcell z) nS (by omega)).trans S1
  have F2 := (Below.heap_alloc u1 (vcell z) nF (by omega)).trans F1
  have N2 := (Below.heap_alloc u1 (vcell z) (nF + 1) (by omega)).trans N1
  have D2 := (Below.heap_alloc u1 (vcell z) (nF + 1 + 1) (by omega)).trans D1
  have Z2 := heap_alloc_new u1 (vcell z)
  have K2 : Kept nF W (u1.alloc (vcell z)) := K1.trans (Kept.of_below ((Below.refl _ _).alloc (Nat.le_refl _) _) (by omega))
  have l2 : u1.heap.size < (u1.alloc (vcell z)).heap.size := by simp
  rw [e2] at Q2 S2 F2 N2 D2 Z2 K2 l2
  obtain ⟨zc, zf, zl⟩ := block_cells Z2
  obtain ⟨fc, ff, fl⟩ := block_cells F2
  obtain ⟨nc, nf, nl⟩ := block_cells N2
  obtain ⟨u3, e3, F3, T3⟩ := store4 F2 0 1 2 3 (uv z.a) (uv z.b) (uv z.c) (uv z.d)
  have N3 := (T3.other (nF + 1) (by omega)).trans N2
  obtain ⟨nc', nf', nl'⟩ := block_cells N3
  obtain ⟨u4, e4, N4, T4⟩ := store1 N3 0 (.bool true)
  clear Q1 S1 F1 N1 D1 K1
  go_wp2_with fail
  replace F3 : u3.heap[nF]? = some (vcell z) := F3
  have Z4 := (T4.other u1.heap.size (by omega)).trans ((T3.other u1.heap.size (by omega)).trans Z2)
  have Q4 := (T4.other nQ (by omega)).trans ((T3.other nQ (by omega)).trans Q2)
  have S4 := (T4.other nS (by omega)).trans ((T3.other nS (by omega)).trans S2)
  have F4 := (T4.other nF (by omega)).trans F3
  have D4 := (T4.other (nF + 1 + 1) (by omega)).trans ((T3.other (nF + 1 + 1) (by omega)).trans D2)
  have K4 : Kept nF W u4 := (K2.trans (Kept.of_stored T3 (.inl rfl))).trans (Kept.of_stored T4 (.inr (.inl rfl)))
  replace N4 : u4.heap[nF + 1]? = some (.cells #[.bool true] 4) := N4
  clear e2 e3 e4 T3 T4 zc zf fc ff nc nf nc' nf' Q2 S2 F2 N2 D2 Z2 F3 N3 K2 B1
  obtain ⟨zc, zf, zl⟩ := block_cells Z4
  obtain ⟨fc, ff, fl⟩ := block_cells F4
  obtain ⟨dc, df, dl⟩ := block_cells D4
  refine Flow.wp_region_below 5 (by kernel_rfl) (by kernel_rfl) (fun R hRc hRt => ?_)
  simp only [List.take_succ_cons, List.take_zero, List.drop_succ_cons, List.drop_zero]
  iterate 5
    first
      | refine Flow.flow_skip rfl ?_
      | (apply Flow.flow_step; rfl; (intro w1 hb; have hc := hRc.out w1 hb; go_simp; (first | with_reducible exact ⟨rfl, hb⟩ | (go_at_call 16; refine (rxor_c _ _ _).mono ?_; rintro e w2 ⟨rfl, hb2⟩; exact ⟨_, rfl, rfl, hRt.out _ _ hb hb2⟩) | (go_at_call 29; refine (ror_c _ _ _).mono ?_; rintro e w2 ⟨rfl, hb2⟩; exact ⟨_, rfl, rfl, hRt.out _ _ hb hb2⟩))))
    simp only [Act.put, List.setIfInBounds_toArray, List.set_cons_zero, List.set_cons_succ]
  apply Flow.flow_nil
  clear hRc hRt
  intro w1 hb
  obtain ⟨hc, hf⟩ := Flow.bcell hb
  have hz := hb.size
  (try simp only [World.size_alloc, World.size_setCell, World.size_drew] at hz)
  have Q5 := (hb.block nQ (by omega)).trans Q4
  have S5 := (hb.block nS (by omega)).trans S4
  have F5 := (hb.block nF (by omega)).trans F4
  have N5 := (hb.block (nF + 1) (by omega)).trans N4
  have D5 := (hb.block (nF + 1 + 1) (by omega)).trans D4
  have K5 : Kept nF W w1 := K4.trans (Kept.of_below hb (by omega))
  clear hb hc hf zc zf fc ff dc df K4 Q4 S4 F4 N4 D4 Z4
  obtain ⟨dc, df, dl⟩ := block_cells D5
  obtain ⟨u6, e6, D6, T6⟩ := store4 D5 0 1 2 3 (uv (d.or (z.xor z)).a) (uv (d.or (z.xor z)).b) (uv (d.or (z.xor z)).c) (uv (d.or (z.xor z)).d)
  go_wp2_with fail
  replace D6 : u6.heap[nF + 1 + 1]? = some (vcell (d.or (z.xor z))) := D6
  have Q6 := (T6.other nQ (by omega)).trans Q5
  have S6 := (T6.other nS (by omega)).trans S5
  have F6 := (T6.other nF (by omega)).trans F5
  have N6 := (T6.other (nF + 1) (by omega)).trans N5
  have K6 : Kept nF W u6 := K5.trans (Kept.of_stored T6 (.inr (.inr rfl)))
  clear e6 T6 dc df K5 Q5 S5 F5 N5 D5
  obtain ⟨dc, df, dl⟩ := block_cells D6
  obtain ⟨sc, sf, sl⟩ := block_cells S6
  have hk6 : nF + 1 + 1 < u6.heap.size := dl
  refine Flow.wp_region_below 7 (by kernel_rfl) (by kernel_rfl) (fun R hRc hRt => ?_)
  simp only [List.take_succ_cons, List.take_zero, List.drop_succ_cons, List.drop_zero]
  iterate 7
    first
      | refine Flow.flow_skip rfl ?_
      | (apply Flow.flow_step; rfl; (intro w1 hb; have hc := hRc.out w1 hb; go_simp; (first | with_reducible exact ⟨rfl, hb⟩ | (go_at_call 17; refine (rones_c _ _).mono ?_; rintro e w2 ⟨rfl, hb2⟩; exact ⟨_, rfl, rfl, hRt.out _ _ hb hb2⟩) | (go_at_call 16; refine (rxor_c _ _ _).mono ?_; rintro e w2 ⟨rfl, hb2⟩; exact ⟨_, rfl, rfl, hRt.out _ _ hb hb2⟩) | (go_at_call 15; refine (rand_c _ _ _).mono ?_; rintro e w2 ⟨rfl, hb2⟩; exact ⟨_, rfl, rfl, hRt.out _ _ hb hb2⟩))))
    simp only [Act.put, List.setIfInBounds_toArray, List.set_cons_zero, List.set_cons_succ]
  apply Flow.flow_nil
  clear hRc hRt
  intro w1 hb
  obtain ⟨hc, hf⟩ := Flow.bcell hb
  have hz := hb.size
  (try simp only [World.size_alloc, World.size_setCell, World.size_drew] at hz)
  go_wp2_with fail
  go_ret
  refine ⟨rfl, ⟨(hb.block nQ (by omega)).trans Q6, (hb.block nS (by omega)).trans S6, (hb.block nF (by omega)).trans F6, (hb.block (nF + 1) (by omega)).trans N6, (hb.block (nF + 1 + 1) (by omega)).trans D6⟩, K6.trans (Kept.of_below hb (by omega))⟩
set_option maxRecDepth 100000 in
theorem yield_t (q : Ask) (nQ nS nF : Nat) (g1 : nQ < nF) (g2 : nS < nF) (s f d z : V) (c x y : V) (W : World) (St : EX nQ nS nF q s f d true W) (HV : Hid (∀ W', Below W.heap.size W W' → FilC q c x y z W')) :
    Calls Tryz.prog 28 #[vv c, vv x, vv y, .pointer (some ⟨nQ, 0, none⟩), .pointer (some ⟨nF + 1, 0, none⟩), .pointer (some ⟨nF, 0, none⟩), .pointer (some ⟨nF + 1 + 1, 0, none⟩), .pointer (some ⟨nS, 0, none⟩)] W
      fun e W' => e = .returned (.bool (Rf.left24 s (Rf.gone d f z))) ∧ EX nQ nS nF q s f (Rf.gone d f z) true W' ∧ Kept nF W W' := by
  have hsz : nF + 1 + 1 < W.heap.size := (Array.getElem?_eq_some_iff.1 St.D).1
  have QA : ∀ o1 o2 o3, (((W.alloc o1).alloc o2).alloc o3).heap[nQ]? = some (.cells (akc q) 28) := fun o1 o2 o3 =>
    (Below.heap_alloc _ o3 nQ (by simp; omega)).trans ((Below.heap_alloc _ o2 nQ (by simp; omega)).trans ((Below.heap_alloc W o1 nQ (by omega)).trans St.Q))
  go_enter Tryz.func28, Tryz.ntmps28
  go_wp2_with (refine wpList_load_row rfl 28 (.tmp 3) rfl nQ rfl 28 (akc q) (0, 0) _ (QA _ _ _) Tryz.underlying28 rfl (by kernel_rfl) ?_)
  refine (HV.out _ (by (repeat (first | exact Below.refl _ _ | refine Below.setCell ?_ (by first | omega | (simp <;> omega)) _ | refine Below.alloc ?_ (by first | omega | (simp <;> omega)) _ | refine Below.drew ?_ | refine Below.trans ?_ (Below.mono (by assumption) (by first | omega | (simp <;> omega))))))).mono ?_
  rintro e u1 ⟨rfl, hb⟩
  have hz1 := hb.size
  simp only [World.size_alloc] at hz1
  have B1 : Below W.heap.size W u1 := by (repeat (first | exact Below.refl _ _ | refine Below.setCell ?_ (by first | omega | (simp <;> omega)) _ | refine Below.alloc ?_ (by first | omega | (simp <;> omega)) _ | refine Below.drew ?_ | refine Below.trans ?_ (Below.mono (by assumption) (by first | omega | (simp <;> omega)))))
  have Q1 := (B1.block nQ (by omega)).trans St.Q
  have S1 := (B1.block nS (by omega)).trans St.S
  have F1 := (B1.block nF (by omega)).trans St.F
  have N1 := (B1.block (nF + 1) (by omega)).trans St.N
  have D1 := (B1.block (nF + 1 + 1) (by omega)).trans St.D
  have K1 : Kept nF W u1 := Kept.of_below B1 (by omega)
  clear hb QA
  obtain ⟨u2, e2⟩ : ∃ u2, u1.alloc (vcell z) = u2 := ⟨_, rfl⟩
  have Q2 := (Below.heap_alloc u1 (vcell z) nQ (by omega)).trans Q1
  have S2 := (Below.heap_alloc u1 (vcell z) nS (by omega)).trans S1
  have F2 := (Below.heap_alloc u1 (vcell z) nF (by omega)).trans F1
  have N2 := (Below.heap_alloc u1 (vcell z) (nF + 1) (by omega)).trans N1
  have D2 := (Below.heap_alloc u1 (vcell z) (nF + 1 + 1) (by omega)).trans D1
  have Z2 := heap_alloc_new u1 (vcell z)
  have K2 : Kept nF W (u1.alloc (vcell z)) := K1.trans (Kept.of_below ((Below.refl _ _).alloc (Nat.le_refl _) _) (by omega))
  have l2 : u1.heap.size < (u1.alloc (vcell z)).heap.size := by simp
  rw [e2] at Q2 S2 F2 N2 D2 Z2 K2 l2
  obtain ⟨zc, zf, zl⟩ := block_cells Z2
  obtain ⟨fc, ff, fl⟩ := block_cells F2
  obtain ⟨nc, nf, nl⟩ := block_cells N2
  clear Q1 S1 F1 N1 D1 K1
  go_wp2_with fail
  clear e2 zc zf fc ff nc nf B1
  have Z4 := Z2
  have Q4 := Q2
  have S4 := S2
  have F4 := F2
  have D4 := D2
  have N4 := N2
  have K4 := K2
  clear Q2 S2 F2 N2 D2 Z2 K2
  obtain ⟨zc, zf, zl⟩ := block_cells Z4
  obtain ⟨fc, ff, fl⟩ := block_cells F4
  obtain ⟨dc, df, dl⟩ := block_cells D4
  refine Flow.wp_region_below 5 (by kernel_rfl) (by kernel_rfl) (fun R hRc hRt => ?_)
  simp only [List.take_succ_cons, List.take_zero, List.drop_succ_cons, List.drop_zero]
  iterate 5
    first
      | refine Flow.flow_skip rfl ?_
      | (apply Flow.flow_step; rfl; (intro w1 hb; have hc := hRc.out w1 hb; go_simp; (first | with_reducible exact ⟨rfl, hb⟩ | (go_at_call 16; refine (rxor_c _ _ _).mono ?_; rintro e w2 ⟨rfl, hb2⟩; exact ⟨_, rfl, rfl, hRt.out _ _ hb hb2⟩) | (go_at_call 29; refine (ror_c _ _ _).mono ?_; rintro e w2 ⟨rfl, hb2⟩; exact ⟨_, rfl, rfl, hRt.out _ _ hb hb2⟩))))
    simp only [Act.put, List.setIfInBounds_toArray, List.set_cons_zero, List.set_cons_succ]
  apply Flow.flow_nil
  clear hRc hRt
  intro w1 hb
  obtain ⟨hc, hf⟩ := Flow.bcell hb
  have hz := hb.size
  (try simp only [World.size_alloc, World.size_setCell, World.size_drew] at hz)
  have Q5 := (hb.block nQ (by omega)).trans Q4
  have S5 := (hb.block nS (by omega)).trans S4
  have F5 := (hb.block nF (by omega)).trans F4
  have N5 := (hb.block (nF + 1) (by omega)).trans N4
  have D5 := (hb.block (nF + 1 + 1) (by omega)).trans D4
  have K5 : Kept nF W w1 := K4.trans (Kept.of_below hb (by omega))
  clear hb hc hf zc zf fc ff dc df K4 Q4 S4 F4 N4 D4 Z4
  obtain ⟨dc, df, dl⟩ := block_cells D5
  obtain ⟨u6, e6, D6, T6⟩ := store4 D5 0 1 2 3 (uv (d.or (f.xor z)).a) (uv (d.or (f.xor z)).b) (uv (d.or (f.xor z)).c) (uv (d.or (f.xor z)).d)
  go_wp2_with fail
  replace D6 : u6.heap[nF + 1 + 1]? = some (vcell (d.or (f.xor z))) := D6
  have Q6 := (T6.other nQ (by omega)).trans Q5
  have S6 := (T6.other nS (by omega)).trans S5
  have F6 := (T6.other nF (by omega)).trans F5
  have N6 := (T6.other (nF + 1) (by omega)).trans N5
  have K6 : Kept nF W u6 := K5.trans (Kept.of_stored T6 (.inr (.inr rfl)))
  clear e6 T6 dc df K5 Q5 S5 F5 N5 D5
  obtain ⟨dc, df, dl⟩ := block_cells D6
  obtain ⟨sc, sf, sl⟩ := block_cells S6
  have hk6 : nF + 1 + 1 < u6.heap.size := dl
  refine Flow.wp_region_below 7 (by kernel_rfl) (by kernel_rfl) (fun R hRc hRt => ?_)
  simp only [List.take_succ_cons, List.take_zero, List.drop_succ_cons, List.drop_zero]
  iterate 7
    first
      | refine Flow.flow_skip rfl ?_
      | (apply Flow.flow_step; rfl; (intro w1 hb; have hc := hRc.out w1 hb; go_simp; (first | with_reducible exact ⟨rfl, hb⟩ | (go_at_call 17; refine (rones_c _ _).mono ?_; rintro e w2 ⟨rfl, hb2⟩; exact ⟨_, rfl, rfl, hRt.out _ _ hb hb2⟩) | (go_at_call 16; refine (rxor_c _ _ _).mono ?_; rintro e w2 ⟨rfl, hb2⟩; exact ⟨_, rfl, rfl, hRt.out _ _ hb hb2⟩) | (go_at_call 15; refine (rand_c _ _ _).mono ?_; rintro e w2 ⟨rfl, hb2⟩; exact ⟨_, rfl, rfl, hRt.out _ _ hb hb2⟩))))
    simp only [Act.put, List.setIfInBounds_toArray, List.set_cons_zero, List.set_cons_succ]
  apply Flow.flow_nil
  clear hRc hRt
  intro w1 hb
  obtain ⟨hc, hf⟩ := Flow.bcell hb
  have hz := hb.size
  (try simp only [World.size_alloc, World.size_setCell, World.size_drew] at hz)
  go_wp2_with fail
  go_ret
  refine ⟨rfl, ⟨(hb.block nQ (by omega)).trans Q6, (hb.block nS (by omega)).trans S6, (hb.block nF (by omega)).trans F6, (hb.block (nF + 1) (by omega)).trans N6, (hb.block (nF + 1 + 1) (by omega)).trans D6⟩, K6.trans (Kept.of_below hb (by omega))⟩
end Go.Proofs.YtboknfppecgjmaaGreat
namespace Go.Proofs.YtboknfppecgjmaaGreat
set_option linter.unusedVariables false
set_option linter.unusedSimpArgs false
open Go.RowKit Go.Shelf
def Ask.fil (q : Ask) (k : Bool) (p r : V) : V := q.val (Vb.fill 1 q.c q.d (Vb.one k)) (Vb.fill q.from_ q.x q.a p) (Vb.fill q.sec q.y q.b r) 0#32
def DiffersQ (q : Ask) (j t : Nat) : Prop := ∃ k1 p1 r1 k2 p2 r2, Raw q.x q.a q.y q.b p1 r1 ∧ Raw q.x q.a q.y q.b p2 r2 ∧ ((q.fil k1 p1 r1).get j).getLsbD t ≠ ((q.fil k2 p2 r2).get j).getLsbD t
theorem differs_q {q : Ask} {f : V → V → V} {j t : Nat} (k : Bool) (hf : ∀ p r, q.fil k p r = f (V.fw q.x q.a p) (V.fw q.y q.b r)) (d : Differs f q.x q.a q.y q.b j t) : DiffersQ q j t := by
  obtain ⟨p1, r1, p2, r2, h1, h2, h3⟩ := d
  refine ⟨k, p1, r1, k, p2, r2, h1, h2, ?_⟩
  rw [hf, hf]
  exact h3
theorem fill_one {c : V} (hc : Vb.is 1 c = true) (k : Bool) : Vb.fill 1 c (V.word 1#32) (Vb.one k) = Vb.one k := by
  rcases is_one hc with rfl | rfl <;> cases k <;> decide
theorem muxV_t (k : Bool) (x y : V) : muxV (Vb.one k) x y = if k = true then x else y := by
  cases k
  · exact if_neg (by decide)
  · exact if_pos rfl
theorem exact_law {q : Ask} {n m : Nat} {s : List (BitVec 32)} (h : q.Fits n m) (hE : q.kind = 0 ∨ (q.kind = 1 ∧ Rf.exactB q.op q.b) ∨ q.kind = 2) {j t : Nat} (hj : j < 4) (ht : t < 32) (hb : ((q.sh s).1.get j).getLsbD t = true) : DiffersQ q j t := by
  unfold Ask.sh at hb
  cases h with
  | un h0 h hx ha =>
    rw [if_pos h0, un_fine h hx ha] at hb
    refine differs_q false (fun p r => ?_) (exact_un q.y q.b h hx ha hj ht hb)
    unfold Ask.fil Ask.val
    rw [if_pos h0, fill_fw hx ha]
  | bin h1 h hsec hx ha hy hb' =>
    have k0 : ¬ q.kind = 0 := by omega
    have hEx : Rf.exactB q.op q.b := by
      rcases hE with h | h | h
      · omega
      · exact h.2
      · omega
    rw [if_neg k0, if_pos h1, bin_fine h hx ha (by rw [hsec]; exact hy) (by rw [hsec]; exact hb')] at hb
    have hb30 : q.op ≠ 30 → Vb.is q.from_ q.b = true := by
      intro h30
      have : q.sec = q.from_ := by rw [sec_eq h1]; unfold Rf.secTy; rw [if_neg h30]
      rw [← this]; exact hb'
    refine differs_q false (fun p r => ?_) (exact_bin h ha hb30 hEx (fun h30 => (bin12_range h).2.2 h30) hj ht hb)
    unfold Ask.fil Ask.val
    rw [if_neg k0, if_pos h1, fill_fw hx ha, fill_fw hy hb']
  | mux h2 hty hsec hx ha hy hb' hc hd =>
    have k0 : ¬ q.kind = 0 := by omega
    have k1 : ¬ q.kind = 1 := by omega
    rw [if_neg k0, if_neg k1, if_pos h2, mux_fine hx ha hy hb' hc hd] at hb
    have hfil : ∀ k p r, q.fil k p r = muxV (Vb.fill 1 q.c q.d (Vb.one k)) (V.fw q.x q.a p) (V.fw q.y q.b r) := by
      intro k p r
      unfold Ask.fil Ask.val
      rw [if_neg k0, if_neg k1, if_pos h2, hsec, fill_fw hx ha, fill_fw hy hb']
    have flx : ∀ k, (∀ z v, muxV (Vb.fill 1 q.c q.d (Vb.one k)) z v = z) → (q.a.get j).getLsbD t = true → DiffersQ q j t := by
      intro k hk ha'
      refine differs_q (f := fun z _ => z) k (fun p r => by rw [hfil, hk]) ?_
      exact flip_x j t id hj ht ha' (fun _ _ => rfl) (by decide)
    have fly : ∀ k, (∀ z v, muxV (Vb.fill 1 q.c q.d (Vb.one k)) z v = v) → (q.b.get j).getLsbD t = true → DiffersQ q j t := by
      intro k hk hb''
      refine differs_q (f := fun _ v => v) k (fun p r => by rw [hfil, hk]) ?_
      exact flip_y j t id hj ht hb'' (fun _ => rfl) (by decide)
    rcases is_one hd with hd0 | hd1
    · have hcc : ∀ k, Vb.fill 1 q.c q.d (Vb.one k) = q.c := by
        intro k
        rw [hd0]
        exact fill_zero hc
      rw [hd0, if_neg (show ¬ V.zero.a = 1#32 by decide)] at hb
      by_cases hca : q.c.a = 1#32
      · rw [if_pos hca] at hb
        exact flx false (fun z v => by rw [hcc]; exact if_pos hca) hb
      · rw [if_neg hca] at hb
        exact fly false (fun z v => by rw [hcc]; exact if_neg hca) hb
    · have hcc : ∀ k, Vb.fill 1 q.c q.d (Vb.one k) = Vb.one k := by
        intro k
        rw [hd1]
        exact fill_one hc k
      rw [hd1, if_pos (show (V.word 1#32).a = 1#32 from rfl)] at hb
      by_cases ha' : (q.a.get j).getLsbD t = true
      · exact flx true (fun z v => by rw [hcc, muxV_t, if_pos rfl]) ha'
      · by_cases hb'' : (q.b.get j).getLsbD t = true
        · exact fly false (fun z v => by rw [hcc, muxV_t, if_neg (by decide)]) hb''
        · refine ⟨true, _, _, false, _, _, .base _ _ (raw_zz _ _ _ _), .base _ _ (raw_zz _ _ _ _), ?_⟩
          rw [hfil, hfil, hcc, hcc, muxV_t, muxV_t, if_pos rfl, if_neg (by decide), fwz_bit _ _ _ _ ht, fwz_bit _ _ _ _ ht, if_neg ha', if_neg hb'']
          rw [or_get, or_get, xor_get, BitVec.getLsbD_or, BitVec.getLsbD_or, BitVec.getLsbD_xor] at hb
          simp only [Bool.not_eq_true] at ha' hb''
          rw [ha', hb''] at hb
          revert hb
          cases (q.x.get j).getLsbD t <;> cases (q.y.get j).getLsbD t <;> decide
  | call h3 _ _ => rcases hE with h | h | h <;> omega
end Go.Proofs.YtboknfppecgjmaaGreat
