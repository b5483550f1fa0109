/- The reference's functions on lanes, walked: lane, setLane, undecided. -/
import Derived.Test.YtboknfppecgjmaaGreatRef
import Derived.Test.YtboknfppecgjmaaGreatStoreV
import Derived.Test.YtboknfppecgjmaaGreatPlainC
namespace Go.Proofs.YtboknfppecgjmaaGreat
set_option linter.unusedVariables false
set_option linter.unusedSimpArgs false
open Go.RowKit Go.Shelf
namespace Rf
/-- The lane i of s bits. -/
def lane (x : V) (s i : Nat) : BitVec 32 := (x.get (i / (32 / s)) >>> (s * (i % (32 / s)))) &&& (4294967295#32 >>> (32 - s))
/-- The vector with another lane. -/
def setLane (x : V) (s i : Nat) (v : BitVec 32) : V :=
  x.set (i / (32 / s)) ((x.get (i / (32 / s)) &&& ~~~((4294967295#32 >>> (32 - s)) <<< (s * (i % (32 / s))))) ||| ((v &&& (4294967295#32 >>> (32 - s))) <<< (s * (i % (32 / s)))))
def undecided (x a : V) : Bool := !a.isZero && (x.without a).isZero
end Rf
section
variable {P : Program} (w : World)
theorem run_shr_n (k : IntKind) (x : BitVec 32) (n : Nat) : (Op.shift .shr .u32 (U x) k (n : Int)).run P w = .ok (.int .u32 (U (x >>> n))) w := by
  unfold Op.shift
  rw [if_neg (by omega)]
  show Result.ok (Value.int .u32 ((U x).fdiv (2 ^ (min (n : Int).toNat 32)))) w = _
  rw [Int.toNat_natCast]
  congr 2
  have h2 : (0 : Int) ≤ 2 ^ (min n 32) := Int.pow_nonneg (by omega)
  rw [Int.fdiv_eq_ediv_of_nonneg _ h2]
  unfold U
  rw [BitVec.toNat_ushiftRight, Nat.shiftRight_eq_div_pow]
  rcases Nat.le_total n 32 with h | h
  · rw [Nat.min_eq_left h]; simp
  · rw [Nat.min_eq_right h]
    have hx := x.isLt
    have : x.toNat / 2 ^ n = 0 := Nat.div_eq_of_lt (Nat.lt_of_lt_of_le hx (Nat.pow_le_pow_right (by omega) h))
    rw [this]
    omega
theorem run_shl_n (k : IntKind) (x : BitVec 32) (n : Nat) : (Op.shift .shl .u32 (U x) k (n : Int)).run P w = .ok (.int .u32 (U (x <<< n))) w := by
  unfold Op.shift
  rw [if_neg (by omega)]
  show Result.ok (Value.int .u32 (IntKind.u32.wrap ((U x) * (2 ^ (min (n : Int).toNat 32))))) w = _
  rw [Int.toNat_natCast, IntKind.wrap_u32']
  congr 2
  rcases Nat.le_total n 32 with h | h
  · rw [Nat.min_eq_left h]; exact shl_u32 x n
  · rw [Nat.min_eq_right h, shl_u32]
    rw [BitVec.shiftLeft_eq_zero (by omega), BitVec.shiftLeft_eq_zero (by omega)]
end
attribute [go_sem] run_shr_n run_shl_n
theorem wrap_24 : IntKind.i64.wrap 24 = 24 := by rfl
theorem wrap_16 : IntKind.i64.wrap 16 = 16 := by rfl
theorem wrap_0 : IntKind.i64.wrap 0 = 0 := by rfl
theorem wrap_1 : IntKind.i64.wrap 1 = 1 := by rfl
theorem wrap_2 : IntKind.i64.wrap 2 = 2 := by rfl
theorem wrap_3 : IntKind.i64.wrap 3 = 3 := by rfl
theorem wrap_4 : IntKind.i64.wrap 4 = 4 := by rfl
theorem lit_65535' : Value.int .u32 65535 = uv 65535#32 := rfl
attribute [go_sem] wrap_24 wrap_16 wrap_0 wrap_1 wrap_2 wrap_3 wrap_4
set_option maxRecDepth 100000 in
set_option maxHeartbeats 4000000 in
theorem lane8_0 (x : V) (i r k : Nat) (hq : (i : Int).tdiv 4 = 0) (hr : (i : Int).tmod 4 = (r : Int)) (hk : 8 * (r : Int) = (k : Int)) (hw : IntKind.i64.wrap (k : Int) = (k : Int)) (hm : min k 32 = k) (w : World) : Calls Tryz.prog 115 #[vv x, iv (8 : Int), iv (i : Int)] w fun e w' => e = .returned (uv ((x.a >>> k) &&& 255#32)) ∧ Below w.heap.size w w' := by
  go_enter Tryz.func115, Tryz.ntmps115
  go_wp2_with fail
  refine Flow.wp_region_below 15 (by kernel_rfl) (by kernel_rfl) (fun R hRc hRt => ?_)
  simp only [List.take_succ_cons, List.take_zero, List.drop_succ_cons, List.drop_zero]
  iterate 15
    first
      | refine Flow.flow_skip rfl ?_
      | (apply Flow.flow_step; rfl; (intro w1 hb; have hc := hRc.out w1 hb; go_simp; (first | with_reducible exact ⟨rfl, hb⟩)))
    simp only [Act.put, List.setIfInBounds_toArray, List.set_cons_zero, List.set_cons_succ]
  apply Flow.flow_nil
  clear hRc hRt
  intro w1 hb
  obtain ⟨hc, hf⟩ := Flow.bcell hb
  have hz := hb.size
  (try simp only [World.size_alloc, World.size_setCell, World.size_drew] at hz)
  go_wp2_with fail
  go_ret
  exact ⟨rfl, by (repeat (first | exact Below.refl _ _ | refine Below.setCell ?_ (by first | omega | (simp <;> omega)) _ | refine Below.alloc ?_ (by first | omega | (simp <;> omega)) _ | refine Below.drew ?_ | refine Below.trans ?_ (Below.mono (by assumption) (by first | omega | (simp <;> omega)))))⟩
set_option maxRecDepth 100000 in
set_option maxHeartbeats 4000000 in
theorem lane8_1 (x : V) (i r k : Nat) (hq : (i : Int).tdiv 4 = 1) (hr : (i : Int).tmod 4 = (r : Int)) (hk : 8 * (r : Int) = (k : Int)) (hw : IntKind.i64.wrap (k : Int) = (k : Int)) (hm : min k 32 = k) (w : World) : Calls Tryz.prog 115 #[vv x, iv (8 : Int), iv (i : Int)] w fun e w' => e = .returned (uv ((x.b >>> k) &&& 255#32)) ∧ Below w.heap.size w w' := by
  go_enter Tryz.func115, Tryz.ntmps115
  go_wp2_with fail
  refine Flow.wp_region_below 15 (by kernel_rfl) (by kernel_rfl) (fun R hRc hRt => ?_)
  simp only [List.take_succ_cons, List.take_zero, List.drop_succ_cons, List.drop_zero]
  iterate 15
    first
      | refine Flow.flow_skip rfl ?_
      | (apply Flow.flow_step; rfl; (intro w1 hb; have hc := hRc.out w1 hb; go_simp; (first | with_reducible exact ⟨rfl, hb⟩)))
    simp only [Act.put, List.setIfInBounds_toArray, List.set_cons_zero, List.set_cons_succ]
  apply Flow.flow_nil
  clear hRc hRt
  intro w1 hb
  obtain ⟨hc, hf⟩ := Flow.bcell hb
  have hz := hb.size
  (try simp only [World.size_alloc, World.size_setCell, World.size_drew] at hz)
  go_wp2_with fail
  go_ret
  exact ⟨rfl, by (repeat (first | exact Below.refl _ _ | refine Below.setCell ?_ (by first | omega | (simp <;> omega)) _ | refine Below.alloc ?_ (by first | omega | (simp <;> omega)) _ | refine Below.drew ?_ | refine Below.trans ?_ (Below.mono (by assumption) (by first | omega | (simp <;> omega)))))⟩
set_option maxRecDepth 100000 in
set_option maxHeartbeats 4000000 in
theorem lane8_2 (x : V) (i r k : Nat) (hq : (i : Int).tdiv 4 = 2) (hr : (i : Int).tmod 4 = (r : Int)) (hk : 8 * (r : Int) = (k : Int)) (hw : IntKind.i64.wrap (k : Int) = (k : Int)) (hm : min k 32 = k) (w : World) : Calls Tryz.prog 115 #[vv x, iv (8 : Int), iv (i : Int)] w fun e w' => e = .returned (uv ((x.c >>> k) &&& 255#32)) ∧ Below w.heap.size w w' := by
  go_enter Tryz.func115, Tryz.ntmps115
  go_wp2_with fail
  refine Flow.wp_region_below 15 (by kernel_rfl) (by kernel_rfl) (fun R hRc hRt => ?_)
  simp only [List.take_succ_cons, List.take_zero, List.drop_succ_cons, List.drop_zero]
  iterate 15
    first
      | refine Flow.flow_skip rfl ?_
      | (apply Flow.flow_step; rfl; (intro w1 hb; have hc := hRc.out w1 hb; go_simp; (first | with_reducible exact ⟨rfl, hb⟩)))
    simp only [Act.put, List.setIfInBounds_toArray, List.set_cons_zero, List.set_cons_succ]
  apply Flow.flow_nil
  clear hRc hRt
  intro w1 hb
  obtain ⟨hc, hf⟩ := Flow.bcell hb
  have hz := hb.size
  (try simp only [World.size_alloc, World.size_setCell, World.size_drew] at hz)
  go_wp2_with fail
  go_ret
  exact ⟨rfl, by (repeat (first | exact Below.refl _ _ | refine Below.setCell ?_ (by first | omega | (simp <;> omega)) _ | refine Below.alloc ?_ (by first | omega | (simp <;> omega)) _ | refine Below.drew ?_ | refine Below.trans ?_ (Below.mono (by assumption) (by first | omega | (simp <;> omega)))))⟩
set_option maxRecDepth 100000 in
set_option maxHeartbeats 4000000 in
theorem lane8_3 (x : V) (i r k : Nat) (hq : (i : Int).tdiv 4 = 3) (hr : (i : Int).tmod 4 = (r : Int)) (hk : 8 * (r : Int) = (k : Int)) (hw : IntKind.i64.wrap (k : Int) = (k : Int)) (hm : min k 32 = k) (w : World) : Calls Tryz.prog 115 #[vv x, iv (8 : Int), iv (i : Int)] w fun e w' => e = .returned (uv ((x.d >>> k) &&& 255#32)) ∧ Below w.heap.size w w' := by
  go_enter Tryz.func115, Tryz.ntmps115
  go_wp2_with fail
  refine Flow.wp_region_below 15 (by kernel_rfl) (by kernel_rfl) (fun R hRc hRt => ?_)
  simp only [List.take_succ_cons, List.take_zero, List.drop_succ_cons, List.drop_zero]
  iterate 15
    first
      | refine Flow.flow_skip rfl ?_
      | (apply Flow.flow_step; rfl; (intro w1 hb; have hc := hRc.out w1 hb; go_simp; (first | with_reducible exact ⟨rfl, hb⟩)))
    simp only [Act.put, List.setIfInBounds_toArray, List.set_cons_zero, List.set_cons_succ]
  apply Flow.flow_nil
  clear hRc hRt
  intro w1 hb
  obtain ⟨hc, hf⟩ := Flow.bcell hb
  have hz := hb.size
  (try simp only [World.size_alloc, World.size_setCell, World.size_drew] at hz)
  go_wp2_with fail
  go_ret
  exact ⟨rfl, by (repeat (first | exact Below.refl _ _ | refine Below.setCell ?_ (by first | omega | (simp <;> omega)) _ | refine Below.alloc ?_ (by first | omega | (simp <;> omega)) _ | refine Below.drew ?_ | refine Below.trans ?_ (Below.mono (by assumption) (by first | omega | (simp <;> omega)))))⟩
set_option maxRecDepth 100000 in
set_option maxHeartbeats 4000000 in
theorem lane16_0 (x : V) (i r k : Nat) (hq : (i : Int).tdiv 2 = 0) (hr : (i : Int).tmod 2 = (r : Int)) (hk : 16 * (r : Int) = (k : Int)) (hw : IntKind.i64.wrap (k : Int) = (k : Int)) (hm : min k 32 = k) (w : World) : Calls Tryz.prog 115 #[vv x, iv (16 : Int), iv (i : Int)] w fun e w' => e = .returned (uv ((x.a >>> k) &&& 65535#32)) ∧ Below w.heap.size w w' := by
  go_enter Tryz.func115, Tryz.ntmps115
  go_wp2_with fail
  refine Flow.wp_region_below 15 (by kernel_rfl) (by kernel_rfl) (fun R hRc hRt => ?_)
  simp only [List.take_succ_cons, List.take_zero, List.drop_succ_cons, List.drop_zero]
  iterate 15
    first
      | refine Flow.flow_skip rfl ?_
      | (apply Flow.flow_step; rfl; (intro w1 hb; have hc := hRc.out w1 hb; go_simp; (first | with_reducible exact ⟨rfl, hb⟩)))
    simp only [Act.put, List.setIfInBounds_toArray, List.set_cons_zero, List.set_cons_succ]
  apply Flow.flow_nil
  clear hRc hRt
  intro w1 hb
  obtain ⟨hc, hf⟩ := Flow.bcell hb
  have hz := hb.size
  (try simp only [World.size_alloc, World.size_setCell, World.size_drew] at hz)
  go_wp2_with fail
  go_ret
  exact ⟨rfl, by (repeat (first | exact Below.refl _ _ | refine Below.setCell ?_ (by first | omega | (simp <;> omega)) _ | refine Below.alloc ?_ (by first | omega | (simp <;> omega)) _ | refine Below.drew ?_ | refine Below.trans ?_ (Below.mono (by assumption) (by first | omega | (simp <;> omega)))))⟩
set_option maxRecDepth 100000 in
set_option maxHeartbeats 4000000 in
theorem lane16_1 (x : V) (i r k : Nat) (hq : (i : Int).tdiv 2 = 1) (hr : (i : Int).tmod 2 = (r : Int)) (hk : 16 * (r : Int) = (k : Int)) (hw : IntKind.i64.wrap (k : Int) = (k : Int)) (hm : min k 32 = k) (w : World) : Calls Tryz.prog 115 #[vv x, iv (16 : Int), iv (i : Int)] w fun e w' => e = .returned (uv ((x.b >>> k) &&& 65535#32)) ∧ Below w.heap.size w w' := by
  go_enter Tryz.func115, Tryz.ntmps115
  go_wp2_with fail
  refine Flow.wp_region_below 15 (by kernel_rfl) (by kernel_rfl) (fun R hRc hRt => ?_)
  simp only [List.take_succ_cons, List.take_zero, List.drop_succ_cons, List.drop_zero]
  iterate 15
    first
      | refine Flow.flow_skip rfl ?_
      | (apply Flow.flow_step; rfl; (intro w1 hb; have hc := hRc.out w1 hb; go_simp; (first | with_reducible exact ⟨rfl, hb⟩)))
    simp only [Act.put, List.setIfInBounds_toArray, List.set_cons_zero, List.set_cons_succ]
  apply Flow.flow_nil
  clear hRc hRt
  intro w1 hb
  obtain ⟨hc, hf⟩ := Flow.bcell hb
  have hz := hb.size
  (try simp only [World.size_alloc, World.size_setCell, World.size_drew] at hz)
  go_wp2_with fail
  go_ret
  exact ⟨rfl, by (repeat (first | exact Below.refl _ _ | refine Below.setCell ?_ (by first | omega | (simp <;> omega)) _ | refine Below.alloc ?_ (by first | omega | (simp <;> omega)) _ | refine Below.drew ?_ | refine Below.trans ?_ (Below.mono (by assumption) (by first | omega | (simp <;> omega)))))⟩
set_option maxRecDepth 100000 in
set_option maxHeartbeats 4000000 in
theorem lane16_2 (x : V) (i r k : Nat) (hq : (i : Int).tdiv 2 = 2) (hr : (i : Int).tmod 2 = (r : Int)) (hk : 16 * (r : Int) = (k : Int)) (hw : IntKind.i64.wrap (k : Int) = (k : Int)) (hm : min k 32 = k) (w : World) : Calls Tryz.prog 115 #[vv x, iv (16 : Int), iv (i : Int)] w fun e w' => e = .returned (uv ((x.c >>> k) &&& 65535#32)) ∧ Below w.heap.size w w' := by
  go_enter Tryz.func115, Tryz.ntmps115
  go_wp2_with fail
  refine Flow.wp_region_below 15 (by kernel_rfl) (by kernel_rfl) (fun R hRc hRt => ?_)
  simp only [List.take_succ_cons, List.take_zero, List.drop_succ_cons, List.drop_zero]
  iterate 15
    first
      | refine Flow.flow_skip rfl ?_
      | (apply Flow.flow_step; rfl; (intro w1 hb; have hc := hRc.out w1 hb; go_simp; (first | with_reducible exact ⟨rfl, hb⟩)))
    simp only [Act.put, List.setIfInBounds_toArray, List.set_cons_zero, List.set_cons_succ]
  apply Flow.flow_nil
  clear hRc hRt
  intro w1 hb
  obtain ⟨hc, hf⟩ := Flow.bcell hb
  have hz := hb.size
  (try simp only [World.size_alloc, World.size_setCell, World.size_drew] at hz)
  go_wp2_with fail
  go_ret
  exact ⟨rfl, by (repeat (first | exact Below.refl _ _ | refine Below.setCell ?_ (by first | omega | (simp <;> omega)) _ | refine Below.alloc ?_ (by first | omega | (simp <;> omega)) _ | refine Below.drew ?_ | refine Below.trans ?_ (Below.mono (by assumption) (by first | omega | (simp <;> omega)))))⟩
set_option maxRecDepth 100000 in
set_option maxHeartbeats 4000000 in
theorem lane16_3 (x : V) (i r k : Nat) (hq : (i : Int).tdiv 2 = 3) (hr : (i : Int).tmod 2 = (r : Int)) (hk : 16 * (r : Int) = (k : Int)) (hw : IntKind.i64.wrap (k : Int) = (k : Int)) (hm : min k 32 = k) (w : World) : Calls Tryz.prog 115 #[vv x, iv (16 : Int), iv (i : Int)] w fun e w' => e = .returned (uv ((x.d >>> k) &&& 65535#32)) ∧ Below w.heap.size w w' := by
  go_enter Tryz.func115, Tryz.ntmps115
  go_wp2_with fail
  refine Flow.wp_region_below 15 (by kernel_rfl) (by kernel_rfl) (fun R hRc hRt => ?_)
  simp only [List.take_succ_cons, List.take_zero, List.drop_succ_cons, List.drop_zero]
  iterate 15
    first
      | refine Flow.flow_skip rfl ?_
      | (apply Flow.flow_step; rfl; (intro w1 hb; have hc := hRc.out w1 hb; go_simp; (first | with_reducible exact ⟨rfl, hb⟩)))
    simp only [Act.put, List.setIfInBounds_toArray, List.set_cons_zero, List.set_cons_succ]
  apply Flow.flow_nil
  clear hRc hRt
  intro w1 hb
  obtain ⟨hc, hf⟩ := Flow.bcell hb
  have hz := hb.size
  (try simp only [World.size_alloc, World.size_setCell, World.size_drew] at hz)
  go_wp2_with fail
  go_ret
  exact ⟨rfl, by (repeat (first | exact Below.refl _ _ | refine Below.setCell ?_ (by first | omega | (simp <;> omega)) _ | refine Below.alloc ?_ (by first | omega | (simp <;> omega)) _ | refine Below.drew ?_ | refine Below.trans ?_ (Below.mono (by assumption) (by first | omega | (simp <;> omega)))))⟩
set_option maxRecDepth 100000 in
set_option maxHeartbeats 4000000 in
theorem lane32_0 (x : V) (w : World) : Calls Tryz.prog 115 #[vv x, iv (32 : Int), iv (0 : Int)] w fun e w' => e = .returned (uv (x.a &&& 4294967295#32)) ∧ Below w.heap.size w w' := by
  go_enter Tryz.func115, Tryz.ntmps115
  go_wp2_with fail
  refine Flow.wp_region_below 15 (by kernel_rfl) (by kernel_rfl) (fun R hRc hRt => ?_)
  simp only [List.take_succ_cons, List.take_zero, List.drop_succ_cons, List.drop_zero]
  iterate 15
    first
      | refine Flow.flow_skip rfl ?_
      | (apply Flow.flow_step; rfl; (intro w1 hb; have hc := hRc.out w1 hb; go_simp; (first | with_reducible exact ⟨rfl, hb⟩)))
    simp only [Act.put, List.setIfInBounds_toArray, List.set_cons_zero, List.set_cons_succ]
  apply Flow.flow_nil
  clear hRc hRt
  intro w1 hb
  obtain ⟨hc, hf⟩ := Flow.bcell hb
  have hz := hb.size
  (try simp only [World.size_alloc, World.size_setCell, World.size_drew] at hz)
  go_wp2_with fail
  go_ret
  exact ⟨rfl, by (repeat (first | exact Below.refl _ _ | refine Below.setCell ?_ (by first | omega | (simp <;> omega)) _ | refine Below.alloc ?_ (by first | omega | (simp <;> omega)) _ | refine Below.drew ?_ | refine Below.trans ?_ (Below.mono (by assumption) (by first | omega | (simp <;> omega)))))⟩
set_option maxRecDepth 100000 in
set_option maxHeartbeats 4000000 in
theorem lane32_1 (x : V) (w : World) : Calls Tryz.prog 115 #[vv x, iv (32 : Int), iv (1 : Int)] w fun e w' => e = .returned (uv (x.b &&& 4294967295#32)) ∧ Below w.heap.size w w' := by
  go_enter Tryz.func115, Tryz.ntmps115
  go_wp2_with fail
  refine Flow.wp_region_below 15 (by kernel_rfl) (by kernel_rfl) (fun R hRc hRt => ?_)
  simp only [List.take_succ_cons, List.take_zero, List.drop_succ_cons, List.drop_zero]
  iterate 15
    first
      | refine Flow.flow_skip rfl ?_
      | (apply Flow.flow_step; rfl; (intro w1 hb; have hc := hRc.out w1 hb; go_simp; (first | with_reducible exact ⟨rfl, hb⟩)))
    simp only [Act.put, List.setIfInBounds_toArray, List.set_cons_zero, List.set_cons_succ]
  apply Flow.flow_nil
  clear hRc hRt
  intro w1 hb
  obtain ⟨hc, hf⟩ := Flow.bcell hb
  have hz := hb.size
  (try simp only [World.size_alloc, World.size_setCell, World.size_drew] at hz)
  go_wp2_with fail
  go_ret
  exact ⟨rfl, by (repeat (first | exact Below.refl _ _ | refine Below.setCell ?_ (by first | omega | (simp <;> omega)) _ | refine Below.alloc ?_ (by first | omega | (simp <;> omega)) _ | refine Below.drew ?_ | refine Below.trans ?_ (Below.mono (by assumption) (by first | omega | (simp <;> omega)))))⟩
set_option maxRecDepth 100000 in
set_option maxHeartbeats 4000000 in
theorem lane32_2 (x : V) (w : World) : Calls Tryz.prog 115 #[vv x, iv (32 : Int), iv (2 : Int)] w fun e w' => e = .returned (uv (x.c &&& 4294967295#32)) ∧ Below w.heap.size w w' := by
  go_enter Tryz.func115, Tryz.ntmps115
  go_wp2_with fail
  refine Flow.wp_region_below 15 (by kernel_rfl) (by kernel_rfl) (fun R hRc hRt => ?_)
  simp only [List.take_succ_cons, List.take_zero, List.drop_succ_cons, List.drop_zero]
  iterate 15
    first
      | refine Flow.flow_skip rfl ?_
      | (apply Flow.flow_step; rfl; (intro w1 hb; have hc := hRc.out w1 hb; go_simp; (first | with_reducible exact ⟨rfl, hb⟩)))
    simp only [Act.put, List.setIfInBounds_toArray, List.set_cons_zero, List.set_cons_succ]
  apply Flow.flow_nil
  clear hRc hRt
  intro w1 hb
  obtain ⟨hc, hf⟩ := Flow.bcell hb
  have hz := hb.size
  (try simp only [World.size_alloc, World.size_setCell, World.size_drew] at hz)
  go_wp2_with fail
  go_ret
  exact ⟨rfl, by (repeat (first | exact Below.refl _ _ | refine Below.setCell ?_ (by first | omega | (simp <;> omega)) _ | refine Below.alloc ?_ (by first | omega | (simp <;> omega)) _ | refine Below.drew ?_ | refine Below.trans ?_ (Below.mono (by assumption) (by first | omega | (simp <;> omega)))))⟩
set_option maxRecDepth 100000 in
set_option maxHeartbeats 4000000 in
theorem lane32_3 (x : V) (w : World) : Calls Tryz.prog 115 #[vv x, iv (32 : Int), iv (3 : Int)] w fun e w' => e = .returned (uv (x.d &&& 4294967295#32)) ∧ Below w.heap.size w w' := by
  go_enter Tryz.func115, Tryz.ntmps115
  go_wp2_with fail
  refine Flow.wp_region_below 15 (by kernel_rfl) (by kernel_rfl) (fun R hRc hRt => ?_)
  simp only [List.take_succ_cons, List.take_zero, List.drop_succ_cons, List.drop_zero]
  iterate 15
    first
      | refine Flow.flow_skip rfl ?_
      | (apply Flow.flow_step; rfl; (intro w1 hb; have hc := hRc.out w1 hb; go_simp; (first | with_reducible exact ⟨rfl, hb⟩)))
    simp only [Act.put, List.setIfInBounds_toArray, List.set_cons_zero, List.set_cons_succ]
  apply Flow.flow_nil
  clear hRc hRt
  intro w1 hb
  obtain ⟨hc, hf⟩ := Flow.bcell hb
  have hz := hb.size
  (try simp only [World.size_alloc, World.size_setCell, World.size_drew] at hz)
  go_wp2_with fail
  go_ret
  exact ⟨rfl, by (repeat (first | exact Below.refl _ _ | refine Below.setCell ?_ (by first | omega | (simp <;> omega)) _ | refine Below.alloc ?_ (by first | omega | (simp <;> omega)) _ | refine Below.drew ?_ | refine Below.trans ?_ (Below.mono (by assumption) (by first | omega | (simp <;> omega)))))⟩
set_option maxRecDepth 100000 in
set_option maxHeartbeats 4000000 in
theorem setLane8_0 (x : V) (i r k : Nat) (hq : (i : Int).tdiv 4 = 0) (hr : (i : Int).tmod 4 = (r : Int)) (hk : 8 * (r : Int) = (k : Int)) (hw : IntKind.i64.wrap (k : Int) = (k : Int)) (hm : min k 32 = k) (v : BitVec 32) (w : World) : Calls Tryz.prog 116 #[vv x, iv (8 : Int), iv (i : Int), uv v] w fun e w' => e = .returned (vv { x with a := (x.a &&& ~~~(255#32 <<< k)) ||| ((v &&& 255#32) <<< k) }) ∧ Below w.heap.size w w' := by
  have X0 := heap_alloc2_old w (.cells #[uv x.a, uv x.b, uv x.c, uv x.d] 24) (.cells #[uv 0#32, uv 0#32, uv 0#32, uv 0#32] 24)
  have Z0 := heap_alloc_new (w.alloc (.cells #[uv x.a, uv x.b, uv x.c, uv x.d] 24)) (.cells #[uv 0#32, uv 0#32, uv 0#32, uv 0#32] 24)
  rw [World.size_alloc] at Z0
  go_enter Tryz.func116, Tryz.ntmps116
  go_wp2_with fail
  refine Flow.wp_region_below 19 (by kernel_rfl) (by kernel_rfl) (fun R hRc hRt => ?_)
  simp only [List.take_succ_cons, List.take_zero, List.drop_succ_cons, List.drop_zero]
  iterate 19
    first
      | refine Flow.flow_skip rfl ?_
      | (apply Flow.flow_step; rfl; (intro w1 hb; have hc := hRc.out w1 hb; go_simp; (first | with_reducible exact ⟨rfl, hb⟩)))
    simp only [Act.put, List.setIfInBounds_toArray, List.set_cons_zero, List.set_cons_succ]
  apply Flow.flow_nil
  clear hRc hRt
  intro w1 hb
  obtain ⟨hc, hf⟩ := Flow.bcell hb
  have hz := hb.size
  (try simp only [World.size_alloc, World.size_setCell, World.size_drew] at hz)
  obtain ⟨z0, z1⟩ := Flow.zs2 (show w.heap.size + 2 ≤ w1.heap.size by omega)
  have X1 := (hb.block w.heap.size (by simp; omega)).trans X0
  have Z1 := (hb.block (w.heap.size + 1) (by simp)).trans Z0
  have B1 : Below w.heap.size w w1 := by (repeat (first | exact Below.refl _ _ | refine Below.setCell ?_ (by first | omega | (simp <;> omega)) _ | refine Below.alloc ?_ (by first | omega | (simp <;> omega)) _ | refine Below.drew ?_ | refine Below.trans ?_ (Below.mono (by assumption) (by first | omega | (simp <;> omega)))))
  obtain ⟨w2, e2⟩ : ∃ w2, w1.setCell ⟨w.heap.size, 0, none⟩ (uv ((x.a &&& ~~~(255#32 <<< k)) ||| ((v &&& 255#32) <<< k))) = w2 := ⟨_, rfl⟩
  have X2 := Go.heap_setCell_same w1 w.heap.size 0 _ _ (uv ((x.a &&& ~~~(255#32 <<< k)) ||| ((v &&& 255#32) <<< k))) X1
  have Z2 := (heap_setCell_other w1 ⟨w.heap.size, 0, none⟩ (w.heap.size + 1) (uv ((x.a &&& ~~~(255#32 <<< k)) ||| ((v &&& 255#32) <<< k))) (by simp)).trans Z1
  have B2 : Below w.heap.size w w2 := by rw [← e2]; exact B1.setCell (Nat.le_refl _) _
  rw [e2] at X2 Z2
  obtain ⟨xc, xf, xl⟩ := block_cells X2
  obtain ⟨zc, zf, zl⟩ := block_cells Z2
  clear X0 Z0 X1 Z1 X2 Z2 B1 hb
  go_wp2_with fail
  clear hc hf xc e2
  refine Flow.bodyPost_k rfl (fun K hK => ?_)
  simp only [results, Tryz.results116]
  go_simp
  refine hK _ ⟨?_, ?_⟩
  · rfl
  · have hle : w.heap.size ≤ w.heap.size + 1 := by omega
    exact (((B2.setCell hle _).setCell hle _).setCell hle _).setCell hle _
set_option maxRecDepth 100000 in
set_option maxHeartbeats 4000000 in
theorem setLane8_1 (x : V) (i r k : Nat) (hq : (i : Int).tdiv 4 = 1) (hr : (i : Int).tmod 4 = (r : Int)) (hk : 8 * (r : Int) = (k : Int)) (hw : IntKind.i64.wrap (k : Int) = (k : Int)) (hm : min k 32 = k) (v : BitVec 32) (w : World) : Calls Tryz.prog 116 #[vv x, iv (8 : Int), iv (i : Int), uv v] w fun e w' => e = .returned (vv { x with b := (x.b &&& ~~~(255#32 <<< k)) ||| ((v &&& 255#32) <<< k) }) ∧ Below w.heap.size w w' := by
  have X0 := heap_alloc2_old w (.cells #[uv x.a, uv x.b, uv x.c, uv x.d] 24) (.cells #[uv 0#32, uv 0#32, uv 0#32, uv 0#32] 24)
  have Z0 := heap_alloc_new (w.alloc (.cells #[uv x.a, uv x.b, uv x.c, uv x.d] 24)) (.cells #[uv 0#32, uv 0#32, uv 0#32, uv 0#32] 24)
  rw [World.size_alloc] at Z0
  go_enter Tryz.func116, Tryz.ntmps116
  go_wp2_with fail
  refine Flow.wp_region_below 19 (by kernel_rfl) (by kernel_rfl) (fun R hRc hRt => ?_)
  simp only [List.take_succ_cons, List.take_zero, List.drop_succ_cons, List.drop_zero]
  iterate 19
    first
      | refine Flow.flow_skip rfl ?_
      | (apply Flow.flow_step; rfl; (intro w1 hb; have hc := hRc.out w1 hb; go_simp; (first | with_reducible exact ⟨rfl, hb⟩)))
    simp only [Act.put, List.setIfInBounds_toArray, List.set_cons_zero, List.set_cons_succ]
  apply Flow.flow_nil
  clear hRc hRt
  intro w1 hb
  obtain ⟨hc, hf⟩ := Flow.bcell hb
  have hz := hb.size
  (try simp only [World.size_alloc, World.size_setCell, World.size_drew] at hz)
  obtain ⟨z0, z1⟩ := Flow.zs2 (show w.heap.size + 2 ≤ w1.heap.size by omega)
  have X1 := (hb.block w.heap.size (by simp; omega)).trans X0
  have Z1 := (hb.block (w.heap.size + 1) (by simp)).trans Z0
  have B1 : Below w.heap.size w w1 := by (repeat (first | exact Below.refl _ _ | refine Below.setCell ?_ (by first | omega | (simp <;> omega)) _ | refine Below.alloc ?_ (by first | omega | (simp <;> omega)) _ | refine Below.drew ?_ | refine Below.trans ?_ (Below.mono (by assumption) (by first | omega | (simp <;> omega)))))
  obtain ⟨w2, e2⟩ : ∃ w2, w1.setCell ⟨w.heap.size, 1, none⟩ (uv ((x.b &&& ~~~(255#32 <<< k)) ||| ((v &&& 255#32) <<< k))) = w2 := ⟨_, rfl⟩
  have X2 := Go.heap_setCell_same w1 w.heap.size 1 _ _ (uv ((x.b &&& ~~~(255#32 <<< k)) ||| ((v &&& 255#32) <<< k))) X1
  have Z2 := (heap_setCell_other w1 ⟨w.heap.size, 1, none⟩ (w.heap.size + 1) (uv ((x.b &&& ~~~(255#32 <<< k)) ||| ((v &&& 255#32) <<< k))) (by simp)).trans Z1
  have B2 : Below w.heap.size w w2 := by rw [← e2]; exact B1.setCell (Nat.le_refl _) _
  rw [e2] at X2 Z2
  obtain ⟨xc, xf, xl⟩ := block_cells X2
  obtain ⟨zc, zf, zl⟩ := block_cells Z2
  clear X0 Z0 X1 Z1 X2 Z2 B1 hb
  go_wp2_with fail
  clear hc hf xc e2
  refine Flow.bodyPost_k rfl (fun K hK => ?_)
  simp only [results, Tryz.results116]
  go_simp
  refine hK _ ⟨?_, ?_⟩
  · rfl
  · have hle : w.heap.size ≤ w.heap.size + 1 := by omega
    exact (((B2.setCell hle _).setCell hle _).setCell hle _).setCell hle _
set_option maxRecDepth 100000 in
set_option maxHeartbeats 4000000 in
theorem setLane8_2 (x : V) (i r k : Nat) (hq : (i : Int).tdiv 4 = 2) (hr : (i : Int).tmod 4 = (r : Int)) (hk : 8 * (r : Int) = (k : Int)) (hw : IntKind.i64.wrap (k : Int) = (k : Int)) (hm : min k 32 = k) (v : BitVec 32) (w : World) : Calls Tryz.prog 116 #[vv x, iv (8 : Int), iv (i : Int), uv v] w fun e w' => e = .returned (vv { x with c := (x.c &&& ~~~(255#32 <<< k)) ||| ((v &&& 255#32) <<< k) }) ∧ Below w.heap.size w w' := by
  have X0 := heap_alloc2_old w (.cells #[uv x.a, uv x.b, uv x.c, uv x.d] 24) (.cells #[uv 0#32, uv 0#32, uv 0#32, uv 0#32] 24)
  have Z0 := heap_alloc_new (w.alloc (.cells #[uv x.a, uv x.b, uv x.c, uv x.d] 24)) (.cells #[uv 0#32, uv 0#32, uv 0#32, uv 0#32] 24)
  rw [World.size_alloc] at Z0
  go_enter Tryz.func116, Tryz.ntmps116
  go_wp2_with fail
  refine Flow.wp_region_below 19 (by kernel_rfl) (by kernel_rfl) (fun R hRc hRt => ?_)
  simp only [List.take_succ_cons, List.take_zero, List.drop_succ_cons, List.drop_zero]
  iterate 19
    first
      | refine Flow.flow_skip rfl ?_
      | (apply Flow.flow_step; rfl; (intro w1 hb; have hc := hRc.out w1 hb; go_simp; (first | with_reducible exact ⟨rfl, hb⟩)))
    simp only [Act.put, List.setIfInBounds_toArray, List.set_cons_zero, List.set_cons_succ]
  apply Flow.flow_nil
  clear hRc hRt
  intro w1 hb
  obtain ⟨hc, hf⟩ := Flow.bcell hb
  have hz := hb.size
  (try simp only [World.size_alloc, World.size_setCell, World.size_drew] at hz)
  obtain ⟨z0, z1⟩ := Flow.zs2 (show w.heap.size + 2 ≤ w1.heap.size by omega)
  have X1 := (hb.block w.heap.size (by simp; omega)).trans X0
  have Z1 := (hb.block (w.heap.size + 1) (by simp)).trans Z0
  have B1 : Below w.heap.size w w1 := by (repeat (first | exact Below.refl _ _ | refine Below.setCell ?_ (by first | omega | (simp <;> omega)) _ | refine Below.alloc ?_ (by first | omega | (simp <;> omega)) _ | refine Below.drew ?_ | refine Below.trans ?_ (Below.mono (by assumption) (by first | omega | (simp <;> omega)))))
  obtain ⟨w2, e2⟩ : ∃ w2, w1.setCell ⟨w.heap.size, 2, none⟩ (uv ((x.c &&& ~~~(255#32 <<< k)) ||| ((v &&& 255#32) <<< k))) = w2 := ⟨_, rfl⟩
  have X2 := Go.heap_setCell_same w1 w.heap.size 2 _ _ (uv ((x.c &&& ~~~(255#32 <<< k)) ||| ((v &&& 255#32) <<< k))) X1
  have Z2 := (heap_setCell_other w1 ⟨w.heap.size, 2, none⟩ (w.heap.size + 1) (uv ((x.c &&& ~~~(255#32 <<< k)) ||| ((v &&& 255#32) <<< k))) (by simp)).trans Z1
  have B2 : Below w.heap.size w w2 := by rw [← e2]; exact B1.setCell (Nat.le_refl _) _
  rw [e2] at X2 Z2
  obtain ⟨xc, xf, xl⟩ := block_cells X2
  obtain ⟨zc, zf, zl⟩ := block_cells Z2
  clear X0 Z0 X1 Z1 X2 Z2 B1 hb
  go_wp2_with fail
  clear hc hf xc e2
  refine Flow.bodyPost_k rfl (fun K hK => ?_)
  simp only [results, Tryz.results116]
  go_simp
  refine hK _ ⟨?_, ?_⟩
  · rfl
  · have hle : w.heap.size ≤ w.heap.size + 1 := by omega
    exact (((B2.setCell hle _).setCell hle _).setCell hle _).setCell hle _
set_option maxRecDepth 100000 in
set_option maxHeartbeats 4000000 in
theorem setLane8_3 (x : V) (i r k : Nat) (hq : (i : Int).tdiv 4 = 3) (hr : (i : Int).tmod 4 = (r : Int)) (hk : 8 * (r : Int) = (k : Int)) (hw : IntKind.i64.wrap (k : Int) = (k : Int)) (hm : min k 32 = k) (v : BitVec 32) (w : World) : Calls Tryz.prog 116 #[vv x, iv (8 : Int), iv (i : Int), uv v] w fun e w' => e = .returned (vv { x with d := (x.d &&& ~~~(255#32 <<< k)) ||| ((v &&& 255#32) <<< k) }) ∧ Below w.heap.size w w' := by
  have X0 := heap_alloc2_old w (.cells #[uv x.a, uv x.b, uv x.c, uv x.d] 24) (.cells #[uv 0#32, uv 0#32, uv 0#32, uv 0#32] 24)
  have Z0 := heap_alloc_new (w.alloc (.cells #[uv x.a, uv x.b, uv x.c, uv x.d] 24)) (.cells #[uv 0#32, uv 0#32, uv 0#32, uv 0#32] 24)
  rw [World.size_alloc] at Z0
  go_enter Tryz.func116, Tryz.ntmps116
  go_wp2_with fail
  refine Flow.wp_region_below 19 (by kernel_rfl) (by kernel_rfl) (fun R hRc hRt => ?_)
  simp only [List.take_succ_cons, List.take_zero, List.drop_succ_cons, List.drop_zero]
  iterate 19
    first
      | refine Flow.flow_skip rfl ?_
      | (apply Flow.flow_step; rfl; (intro w1 hb; have hc := hRc.out w1 hb; go_simp; (first | with_reducible exact ⟨rfl, hb⟩)))
    simp only [Act.put, List.setIfInBounds_toArray, List.set_cons_zero, List.set_cons_succ]
  apply Flow.flow_nil
  clear hRc hRt
  intro w1 hb
  obtain ⟨hc, hf⟩ := Flow.bcell hb
  have hz := hb.size
  (try simp only [World.size_alloc, World.size_setCell, World.size_drew] at hz)
  obtain ⟨z0, z1⟩ := Flow.zs2 (show w.heap.size + 2 ≤ w1.heap.size by omega)
  have X1 := (hb.block w.heap.size (by simp; omega)).trans X0
  have Z1 := (hb.block (w.heap.size + 1) (by simp)).trans Z0
  have B1 : Below w.heap.size w w1 := by (repeat (first | exact Below.refl _ _ | refine Below.setCell ?_ (by first | omega | (simp <;> omega)) _ | refine Below.alloc ?_ (by first | omega | (simp <;> omega)) _ | refine Below.drew ?_ | refine Below.trans ?_ (Below.mono (by assumption) (by first | omega | (simp <;> omega)))))
  obtain ⟨w2, e2⟩ : ∃ w2, w1.setCell ⟨w.heap.size, 3, none⟩ (uv ((x.d &&& ~~~(255#32 <<< k)) ||| ((v &&& 255#32) <<< k))) = w2 := ⟨_, rfl⟩
  have X2 := Go.heap_setCell_same w1 w.heap.size 3 _ _ (uv ((x.d &&& ~~~(255#32 <<< k)) ||| ((v &&& 255#32) <<< k))) X1
  have Z2 := (heap_setCell_other w1 ⟨w.heap.size, 3, none⟩ (w.heap.size + 1) (uv ((x.d &&& ~~~(255#32 <<< k)) ||| ((v &&& 255#32) <<< k))) (by simp)).trans Z1
  have B2 : Below w.heap.size w w2 := by rw [← e2]; exact B1.setCell (Nat.le_refl _) _
  rw [e2] at X2 Z2
  obtain ⟨xc, xf, xl⟩ := block_cells X2
  obtain ⟨zc, zf, zl⟩ := block_cells Z2
  clear X0 Z0 X1 Z1 X2 Z2 B1 hb
  go_wp2_with fail
  clear hc hf xc e2
  refine Flow.bodyPost_k rfl (fun K hK => ?_)
  simp only [results, Tryz.results116]
  go_simp
  refine hK _ ⟨?_, ?_⟩
  · rfl
  · have hle : w.heap.size ≤ w.heap.size + 1 := by omega
    exact (((B2.setCell hle _).setCell hle _).setCell hle _).setCell hle _
set_option maxRecDepth 100000 in
set_option maxHeartbeats 4000000 in
theorem setLane16_0 (x : V) (i r k : Nat) (hq : (i : Int).tdiv 2 = 0) (hr : (i : Int).tmod 2 = (r : Int)) (hk : 16 * (r : Int) = (k : Int)) (hw : IntKind.i64.wrap (k : Int) = (k : Int)) (hm : min k 32 = k) (v : BitVec 32) (w : World) : Calls Tryz.prog 116 #[vv x, iv (16 : Int), iv (i : Int), uv v] w fun e w' => e = .returned (vv { x with a := (x.a &&& ~~~(65535#32 <<< k)) ||| ((v &&& 65535#32) <<< k) }) ∧ Below w.heap.size w w' := by
  have X0 := heap_alloc2_old w (.cells #[uv x.a, uv x.b, uv x.c, uv x.d] 24) (.cells #[uv 0#32, uv 0#32, uv 0#32, uv 0#32] 24)
  have Z0 := heap_alloc_new (w.alloc (.cells #[uv x.a, uv x.b, uv x.c, uv x.d] 24)) (.cells #[uv 0#32, uv 0#32, uv 0#32, uv 0#32] 24)
  rw [World.size_alloc] at Z0
  go_enter Tryz.func116, Tryz.ntmps116
  go_wp2_with fail
  refine Flow.wp_region_below 19 (by kernel_rfl) (by kernel_rfl) (fun R hRc hRt => ?_)
  simp only [List.take_succ_cons, List.take_zero, List.drop_succ_cons, List.drop_zero]
  iterate 19
    first
      | refine Flow.flow_skip rfl ?_
      | (apply Flow.flow_step; rfl; (intro w1 hb; have hc := hRc.out w1 hb; go_simp; (first | with_reducible exact ⟨rfl, hb⟩)))
    simp only [Act.put, List.setIfInBounds_toArray, List.set_cons_zero, List.set_cons_succ]
  apply Flow.flow_nil
  clear hRc hRt
  intro w1 hb
  obtain ⟨hc, hf⟩ := Flow.bcell hb
  have hz := hb.size
  (try simp only [World.size_alloc, World.size_setCell, World.size_drew] at hz)
  obtain ⟨z0, z1⟩ := Flow.zs2 (show w.heap.size + 2 ≤ w1.heap.size by omega)
  have X1 := (hb.block w.heap.size (by simp; omega)).trans X0
  have Z1 := (hb.block (w.heap.size + 1) (by simp)).trans Z0
  have B1 : Below w.heap.size w w1 := by (repeat (first | exact Below.refl _ _ | refine Below.setCell ?_ (by first | omega | (simp <;> omega)) _ | refine Below.alloc ?_ (by first | omega | (simp <;> omega)) _ | refine Below.drew ?_ | refine Below.trans ?_ (Below.mono (by assumption) (by first | omega | (simp <;> omega)))))
  obtain ⟨w2, e2⟩ : ∃ w2, w1.setCell ⟨w.heap.size, 0, none⟩ (uv ((x.a &&& ~~~(65535#32 <<< k)) ||| ((v &&& 65535#32) <<< k))) = w2 := ⟨_, rfl⟩
  have X2 := Go.heap_setCell_same w1 w.heap.size 0 _ _ (uv ((x.a &&& ~~~(65535#32 <<< k)) ||| ((v &&& 65535#32) <<< k))) X1
  have Z2 := (heap_setCell_other w1 ⟨w.heap.size, 0, none⟩ (w.heap.size + 1) (uv ((x.a &&& ~~~(65535#32 <<< k)) ||| ((v &&& 65535#32) <<< k))) (by simp)).trans Z1
  have B2 : Below w.heap.size w w2 := by rw [← e2]; exact B1.setCell (Nat.le_refl _) _
  rw [e2] at X2 Z2
  obtain ⟨xc, xf, xl⟩ := block_cells X2
  obtain ⟨zc, zf, zl⟩ := block_cells Z2
  clear X0 Z0 X1 Z1 X2 Z2 B1 hb
  go_wp2_with fail
  clear hc hf xc e2
  refine Flow.bodyPost_k rfl (fun K hK => ?_)
  simp only [results, Tryz.results116]
  go_simp
  refine hK _ ⟨?_, ?_⟩
  · rfl
  · have hle : w.heap.size ≤ w.heap.size + 1 := by omega
    exact (((B2.setCell hle _).setCell hle _).setCell hle _).setCell hle _
set_option maxRecDepth 100000 in
set_option maxHeartbeats 4000000 in
theorem setLane16_1 (x : V) (i r k : Nat) (hq : (i : Int).tdiv 2 = 1) (hr : (i : Int).tmod 2 = (r : Int)) (hk : 16 * (r : Int) = (k : Int)) (hw : IntKind.i64.wrap (k : Int) = (k : Int)) (hm : min k 32 = k) (v : BitVec 32) (w : World) : Calls Tryz.prog 116 #[vv x, iv (16 : Int), iv (i : Int), uv v] w fun e w' => e = .returned (vv { x with b := (x.b &&& ~~~(65535#32 <<< k)) ||| ((v &&& 65535#32) <<< k) }) ∧ Below w.heap.size w w' := by
  have X0 := heap_alloc2_old w (.cells #[uv x.a, uv x.b, uv x.c, uv x.d] 24) (.cells #[uv 0#32, uv 0#32, uv 0#32, uv 0#32] 24)
  have Z0 := heap_alloc_new (w.alloc (.cells #[uv x.a, uv x.b, uv x.c, uv x.d] 24)) (.cells #[uv 0#32, uv 0#32, uv 0#32, uv 0#32] 24)
  rw [World.size_alloc] at Z0
  go_enter Tryz.func116, Tryz.ntmps116
  go_wp2_with fail
  refine Flow.wp_region_below 19 (by kernel_rfl) (by kernel_rfl) (fun R hRc hRt => ?_)
  simp only [List.take_succ_cons, List.take_zero, List.drop_succ_cons, List.drop_zero]
  iterate 19
    first
      | refine Flow.flow_skip rfl ?_
      | (apply Flow.flow_step; rfl; (intro w1 hb; have hc := hRc.out w1 hb; go_simp; (first | with_reducible exact ⟨rfl, hb⟩)))
    simp only [Act.put, List.setIfInBounds_toArray, List.set_cons_zero, List.set_cons_succ]
  apply Flow.flow_nil
  clear hRc hRt
  intro w1 hb
  obtain ⟨hc, hf⟩ := Flow.bcell hb
  have hz := hb.size
  (try simp only [World.size_alloc, World.size_setCell, World.size_drew] at hz)
  obtain ⟨z0, z1⟩ := Flow.zs2 (show w.heap.size + 2 ≤ w1.heap.size by omega)
  have X1 := (hb.block w.heap.size (by simp; omega)).trans X0
  have Z1 := (hb.block (w.heap.size + 1) (by simp)).trans Z0
  have B1 : Below w.heap.size w w1 := by (repeat (first | exact Below.refl _ _ | refine Below.setCell ?_ (by first | omega | (simp <;> omega)) _ | refine Below.alloc ?_ (by first | omega | (simp <;> omega)) _ | refine Below.drew ?_ | refine Below.trans ?_ (Below.mono (by assumption) (by first | omega | (simp <;> omega)))))
  obtain ⟨w2, e2⟩ : ∃ w2, w1.setCell ⟨w.heap.size, 1, none⟩ (uv ((x.b &&& ~~~(65535#32 <<< k)) ||| ((v &&& 65535#32) <<< k))) = w2 := ⟨_, rfl⟩
  have X2 := Go.heap_setCell_same w1 w.heap.size 1 _ _ (uv ((x.b &&& ~~~(65535#32 <<< k)) ||| ((v &&& 65535#32) <<< k))) X1
  have Z2 := (heap_setCell_other w1 ⟨w.heap.size, 1, none⟩ (w.heap.size + 1) (uv ((x.b &&& ~~~(65535#32 <<< k)) ||| ((v &&& 65535#32) <<< k))) (by simp)).trans Z1
  have B2 : Below w.heap.size w w2 := by rw [← e2]; exact B1.setCell (Nat.le_refl _) _
  rw [e2] at X2 Z2
  obtain ⟨xc, xf, xl⟩ := block_cells X2
  obtain ⟨zc, zf, zl⟩ := block_cells Z2
  clear X0 Z0 X1 Z1 X2 Z2 B1 hb
  go_wp2_with fail
  clear hc hf xc e2
  refine Flow.bodyPost_k rfl (fun K hK => ?_)
  simp only [results, Tryz.results116]
  go_simp
  refine hK _ ⟨?_, ?_⟩
  · rfl
  · have hle : w.heap.size ≤ w.heap.size + 1 := by omega
    exact (((B2.setCell hle _).setCell hle _).setCell hle _).setCell hle _
set_option maxRecDepth 100000 in
set_option maxHeartbeats 4000000 in
theorem setLane16_2 (x : V) (i r k : Nat) (hq : (i : Int).tdiv 2 = 2) (hr : (i : Int).tmod 2 = (r : Int)) (hk : 16 * (r : Int) = (k : Int)) (hw : IntKind.i64.wrap (k : Int) = (k : Int)) (hm : min k 32 = k) (v : BitVec 32) (w : World) : Calls Tryz.prog 116 #[vv x, iv (16 : Int), iv (i : Int), uv v] w fun e w' => e = .returned (vv { x with c := (x.c &&& ~~~(65535#32 <<< k)) ||| ((v &&& 65535#32) <<< k) }) ∧ Below w.heap.size w w' := by
  have X0 := heap_alloc2_old w (.cells #[uv x.a, uv x.b, uv x.c, uv x.d] 24) (.cells #[uv 0#32, uv 0#32, uv 0#32, uv 0#32] 24)
  have Z0 := heap_alloc_new (w.alloc (.cells #[uv x.a, uv x.b, uv x.c, uv x.d] 24)) (.cells #[uv 0#32, uv 0#32, uv 0#32, uv 0#32] 24)
  rw [World.size_alloc] at Z0
  go_enter Tryz.func116, Tryz.ntmps116
  go_wp2_with fail
  refine Flow.wp_region_below 19 (by kernel_rfl) (by kernel_rfl) (fun R hRc hRt => ?_)
  simp only [List.take_succ_cons, List.take_zero, List.drop_succ_cons, List.drop_zero]
  iterate 19
    first
      | refine Flow.flow_skip rfl ?_
      | (apply Flow.flow_step; rfl; (intro w1 hb; have hc := hRc.out w1 hb; go_simp; (first | with_reducible exact ⟨rfl, hb⟩)))
    simp only [Act.put, List.setIfInBounds_toArray, List.set_cons_zero, List.set_cons_succ]
  apply Flow.flow_nil
  clear hRc hRt
  intro w1 hb
  obtain ⟨hc, hf⟩ := Flow.bcell hb
  have hz := hb.size
  (try simp only [World.size_alloc, World.size_setCell, World.size_drew] at hz)
  obtain ⟨z0, z1⟩ := Flow.zs2 (show w.heap.size + 2 ≤ w1.heap.size by omega)
  have X1 := (hb.block w.heap.size (by simp; omega)).trans X0
  have Z1 := (hb.block (w.heap.size + 1) (by simp)).trans Z0
  have B1 : Below w.heap.size w w1 := by (repeat (first | exact Below.refl _ _ | refine Below.setCell ?_ (by first | omega | (simp <;> omega)) _ | refine Below.alloc ?_ (by first | omega | (simp <;> omega)) _ | refine Below.drew ?_ | refine Below.trans ?_ (Below.mono (by assumption) (by first | omega | (simp <;> omega)))))
  obtain ⟨w2, e2⟩ : ∃ w2, w1.setCell ⟨w.heap.size, 2, none⟩ (uv ((x.c &&& ~~~(65535#32 <<< k)) ||| ((v &&& 65535#32) <<< k))) = w2 := ⟨_, rfl⟩
  have X2 := Go.heap_setCell_same w1 w.heap.size 2 _ _ (uv ((x.c &&& ~~~(65535#32 <<< k)) ||| ((v &&& 65535#32) <<< k))) X1
  have Z2 := (heap_setCell_other w1 ⟨w.heap.size, 2, none⟩ (w.heap.size + 1) (uv ((x.c &&& ~~~(65535#32 <<< k)) ||| ((v &&& 65535#32) <<< k))) (by simp)).trans Z1
  have B2 : Below w.heap.size w w2 := by rw [← e2]; exact B1.setCell (Nat.le_refl _) _
  rw [e2] at X2 Z2
  obtain ⟨xc, xf, xl⟩ := block_cells X2
  obtain ⟨zc, zf, zl⟩ := block_cells Z2
  clear X0 Z0 X1 Z1 X2 Z2 B1 hb
  go_wp2_with fail
  clear hc hf xc e2
  refine Flow.bodyPost_k rfl (fun K hK => ?_)
  simp only [results, Tryz.results116]
  go_simp
  refine hK _ ⟨?_, ?_⟩
  · rfl
  · have hle : w.heap.size ≤ w.heap.size + 1 := by omega
    exact (((B2.setCell hle _).setCell hle _).setCell hle _).setCell hle _
set_option maxRecDepth 100000 in
set_option maxHeartbeats 4000000 in
theorem setLane16_3 (x : V) (i r k : Nat) (hq : (i : Int).tdiv 2 = 3) (hr : (i : Int).tmod 2 = (r : Int)) (hk : 16 * (r : Int) = (k : Int)) (hw : IntKind.i64.wrap (k : Int) = (k : Int)) (hm : min k 32 = k) (v : BitVec 32) (w : World) : Calls Tryz.prog 116 #[vv x, iv (16 : Int), iv (i : Int), uv v] w fun e w' => e = .returned (vv { x with d := (x.d &&& ~~~(65535#32 <<< k)) ||| ((v &&& 65535#32) <<< k) }) ∧ Below w.heap.size w w' := by
  have X0 := heap_alloc2_old w (.cells #[uv x.a, uv x.b, uv x.c, uv x.d] 24) (.cells #[uv 0#32, uv 0#32, uv 0#32, uv 0#32] 24)
  have Z0 := heap_alloc_new (w.alloc (.cells #[uv x.a, uv x.b, uv x.c, uv x.d] 24)) (.cells #[uv 0#32, uv 0#32, uv 0#32, uv 0#32] 24)
  rw [World.size_alloc] at Z0
  go_enter Tryz.func116, Tryz.ntmps116
  go_wp2_with fail
  refine Flow.wp_region_below 19 (by kernel_rfl) (by kernel_rfl) (fun R hRc hRt => ?_)
  simp only [List.take_succ_cons, List.take_zero, List.drop_succ_cons, List.drop_zero]
  iterate 19
    first
      | refine Flow.flow_skip rfl ?_
      | (apply Flow.flow_step; rfl; (intro w1 hb; have hc := hRc.out w1 hb; go_simp; (first | with_reducible exact ⟨rfl, hb⟩)))
    simp only [Act.put, List.setIfInBounds_toArray, List.set_cons_zero, List.set_cons_succ]
  apply Flow.flow_nil
  clear hRc hRt
  intro w1 hb
  obtain ⟨hc, hf⟩ := Flow.bcell hb
  have hz := hb.size
  (try simp only [World.size_alloc, World.size_setCell, World.size_drew] at hz)
  obtain ⟨z0, z1⟩ := Flow.zs2 (show w.heap.size + 2 ≤ w1.heap.size by omega)
  have X1 := (hb.block w.heap.size (by simp; omega)).trans X0
  have Z1 := (hb.block (w.heap.size + 1) (by simp)).trans Z0
  have B1 : Below w.heap.size w w1 := by (repeat (first | exact Below.refl _ _ | refine Below.setCell ?_ (by first | omega | (simp <;> omega)) _ | refine Below.alloc ?_ (by first | omega | (simp <;> omega)) _ | refine Below.drew ?_ | refine Below.trans ?_ (Below.mono (by assumption) (by first | omega | (simp <;> omega)))))
  obtain ⟨w2, e2⟩ : ∃ w2, w1.setCell ⟨w.heap.size, 3, none⟩ (uv ((x.d &&& ~~~(65535#32 <<< k)) ||| ((v &&& 65535#32) <<< k))) = w2 := ⟨_, rfl⟩
  have X2 := Go.heap_setCell_same w1 w.heap.size 3 _ _ (uv ((x.d &&& ~~~(65535#32 <<< k)) ||| ((v &&& 65535#32) <<< k))) X1
  have Z2 := (heap_setCell_other w1 ⟨w.heap.size, 3, none⟩ (w.heap.size + 1) (uv ((x.d &&& ~~~(65535#32 <<< k)) ||| ((v &&& 65535#32) <<< k))) (by simp)).trans Z1
  have B2 : Below w.heap.size w w2 := by rw [← e2]; exact B1.setCell (Nat.le_refl _) _
  rw [e2] at X2 Z2
  obtain ⟨xc, xf, xl⟩ := block_cells X2
  obtain ⟨zc, zf, zl⟩ := block_cells Z2
  clear X0 Z0 X1 Z1 X2 Z2 B1 hb
  go_wp2_with fail
  clear hc hf xc e2
  refine Flow.bodyPost_k rfl (fun K hK => ?_)
  simp only [results, Tryz.results116]
  go_simp
  refine hK _ ⟨?_, ?_⟩
  · rfl
  · have hle : w.heap.size ≤ w.heap.size + 1 := by omega
    exact (((B2.setCell hle _).setCell hle _).setCell hle _).setCell hle _
set_option maxRecDepth 100000 in
set_option maxHeartbeats 4000000 in
theorem setLane32_0 (x : V) (v : BitVec 32) (w : World) : Calls Tryz.prog 116 #[vv x, iv (32 : Int), iv (0 : Int), uv v] w fun e w' => e = .returned (vv { x with a := v &&& 4294967295#32 }) ∧ Below w.heap.size w w' := by
  have X0 := heap_alloc2_old w (.cells #[uv x.a, uv x.b, uv x.c, uv x.d] 24) (.cells #[uv 0#32, uv 0#32, uv 0#32, uv 0#32] 24)
  have Z0 := heap_alloc_new (w.alloc (.cells #[uv x.a, uv x.b, uv x.c, uv x.d] 24)) (.cells #[uv 0#32, uv 0#32, uv 0#32, uv 0#32] 24)
  rw [World.size_alloc] at Z0
  go_enter Tryz.func116, Tryz.ntmps116
  go_wp2_with fail
  refine Flow.wp_region_below 19 (by kernel_rfl) (by kernel_rfl) (fun R hRc hRt => ?_)
  simp only [List.take_succ_cons, List.take_zero, List.drop_succ_cons, List.drop_zero]
  iterate 19
    first
      | refine Flow.flow_skip rfl ?_
      | (apply Flow.flow_step; rfl; (intro w1 hb; have hc := hRc.out w1 hb; go_simp; (first | with_reducible exact ⟨rfl, hb⟩)))
    simp only [Act.put, List.setIfInBounds_toArray, List.set_cons_zero, List.set_cons_succ]
  apply Flow.flow_nil
  clear hRc hRt
  intro w1 hb
  obtain ⟨hc, hf⟩ := Flow.bcell hb
  have hz := hb.size
  (try simp only [World.size_alloc, World.size_setCell, World.size_drew] at hz)
  obtain ⟨z0, z1⟩ := Flow.zs2 (show w.heap.size + 2 ≤ w1.heap.size by omega)
  have X1 := (hb.block w.heap.size (by simp; omega)).trans X0
  have Z1 := (hb.block (w.heap.size + 1) (by simp)).trans Z0
  have B1 : Below w.heap.size w w1 := by (repeat (first | exact Below.refl _ _ | refine Below.setCell ?_ (by first | omega | (simp <;> omega)) _ | refine Below.alloc ?_ (by first | omega | (simp <;> omega)) _ | refine Below.drew ?_ | refine Below.trans ?_ (Below.mono (by assumption) (by first | omega | (simp <;> omega)))))
  obtain ⟨w2, e2⟩ : ∃ w2, w1.setCell ⟨w.heap.size, 0, none⟩ (uv (v &&& 4294967295#32)) = w2 := ⟨_, rfl⟩
  have X2 := Go.heap_setCell_same w1 w.heap.size 0 _ _ (uv (v &&& 4294967295#32)) X1
  have Z2 := (heap_setCell_other w1 ⟨w.heap.size, 0, none⟩ (w.heap.size + 1) (uv (v &&& 4294967295#32)) (by simp)).trans Z1
  have B2 : Below w.heap.size w w2 := by rw [← e2]; exact B1.setCell (Nat.le_refl _) _
  rw [e2] at X2 Z2
  obtain ⟨xc, xf, xl⟩ := block_cells X2
  obtain ⟨zc, zf, zl⟩ := block_cells Z2
  clear X0 Z0 X1 Z1 X2 Z2 B1 hb
  go_wp2_with fail
  clear hc hf xc e2
  refine Flow.bodyPost_k rfl (fun K hK => ?_)
  simp only [results, Tryz.results116]
  go_simp
  refine hK _ ⟨?_, ?_⟩
  · rfl
  · have hle : w.heap.size ≤ w.heap.size + 1 := by omega
    exact (((B2.setCell hle _).setCell hle _).setCell hle _).setCell hle _
set_option maxRecDepth 100000 in
set_option maxHeartbeats 4000000 in
theorem setLane32_1 (x : V) (v : BitVec 32) (w : World) : Calls Tryz.prog 116 #[vv x, iv (32 : Int), iv (1 : Int), uv v] w fun e w' => e = .returned (vv { x with b := v &&& 4294967295#32 }) ∧ Below w.heap.size w w' := by
  have X0 := heap_alloc2_old w (.cells #[uv x.a, uv x.b, uv x.c, uv x.d] 24) (.cells #[uv 0#32, uv 0#32, uv 0#32, uv 0#32] 24)
  have Z0 := heap_alloc_new (w.alloc (.cells #[uv x.a, uv x.b, uv x.c, uv x.d] 24)) (.cells #[uv 0#32, uv 0#32, uv 0#32, uv 0#32] 24)
  rw [World.size_alloc] at Z0
  go_enter Tryz.func116, Tryz.ntmps116
  go_wp2_with fail
  refine Flow.wp_region_below 19 (by kernel_rfl) (by kernel_rfl) (fun R hRc hRt => ?_)
  simp only [List.take_succ_cons, List.take_zero, List.drop_succ_cons, List.drop_zero]
  iterate 19
    first
      | refine Flow.flow_skip rfl ?_
      | (apply Flow.flow_step; rfl; (intro w1 hb; have hc := hRc.out w1 hb; go_simp; (first | with_reducible exact ⟨rfl, hb⟩)))
    simp only [Act.put, List.setIfInBounds_toArray, List.set_cons_zero, List.set_cons_succ]
  apply Flow.flow_nil
  clear hRc hRt
  intro w1 hb
  obtain ⟨hc, hf⟩ := Flow.bcell hb
  have hz := hb.size
  (try simp only [World.size_alloc, World.size_setCell, World.size_drew] at hz)
  obtain ⟨z0, z1⟩ := Flow.zs2 (show w.heap.size + 2 ≤ w1.heap.size by omega)
  have X1 := (hb.block w.heap.size (by simp; omega)).trans X0
  have Z1 := (hb.block (w.heap.size + 1) (by simp)).trans Z0
  have B1 : Below w.heap.size w w1 := by (repeat (first | exact Below.refl _ _ | refine Below.setCell ?_ (by first | omega | (simp <;> omega)) _ | refine Below.alloc ?_ (by first | omega | (simp <;> omega)) _ | refine Below.drew ?_ | refine Below.trans ?_ (Below.mono (by assumption) (by first | omega | (simp <;> omega)))))
  obtain ⟨w2, e2⟩ : ∃ w2, w1.setCell ⟨w.heap.size, 1, none⟩ (uv (v &&& 4294967295#32)) = w2 := ⟨_, rfl⟩
  have X2 := Go.heap_setCell_same w1 w.heap.size 1 _ _ (uv (v &&& 4294967295#32)) X1
  have Z2 := (heap_setCell_other w1 ⟨w.heap.size, 1, none⟩ (w.heap.size + 1) (uv (v &&& 4294967295#32)) (by simp)).trans Z1
  have B2 : Below w.heap.size w w2 := by rw [← e2]; exact B1.setCell (Nat.le_refl _) _
  rw [e2] at X2 Z2
  obtain ⟨xc, xf, xl⟩ := block_cells X2
  obtain ⟨zc, zf, zl⟩ := block_cells Z2
  clear X0 Z0 X1 Z1 X2 Z2 B1 hb
  go_wp2_with fail
  clear hc hf xc e2
  refine Flow.bodyPost_k rfl (fun K hK => ?_)
  simp only [results, Tryz.results116]
  go_simp
  refine hK _ ⟨?_, ?_⟩
  · rfl
  · have hle : w.heap.size ≤ w.heap.size + 1 := by omega
    exact (((B2.setCell hle _).setCell hle _).setCell hle _).setCell hle _
set_option maxRecDepth 100000 in
set_option maxHeartbeats 4000000 in
theorem setLane32_2 (x : V) (v : BitVec 32) (w : World) : Calls Tryz.prog 116 #[vv x, iv (32 : Int), iv (2 : Int), uv v] w fun e w' => e = .returned (vv { x with c := v &&& 4294967295#32 }) ∧ Below w.heap.size w w' := by
  have X0 := heap_alloc2_old w (.cells #[uv x.a, uv x.b, uv x.c, uv x.d] 24) (.cells #[uv 0#32, uv 0#32, uv 0#32, uv 0#32] 24)
  have Z0 := heap_alloc_new (w.alloc (.cells #[uv x.a, uv x.b, uv x.c, uv x.d] 24)) (.cells #[uv 0#32, uv 0#32, uv 0#32, uv 0#32] 24)
  rw [World.size_alloc] at Z0
  go_enter Tryz.func116, Tryz.ntmps116
  go_wp2_with fail
  refine Flow.wp_region_below 19 (by kernel_rfl) (by kernel_rfl) (fun R hRc hRt => ?_)
  simp only [List.take_succ_cons, List.take_zero, List.drop_succ_cons, List.drop_zero]
  iterate 19
    first
      | refine Flow.flow_skip rfl ?_
      | (apply Flow.flow_step; rfl; (intro w1 hb; have hc := hRc.out w1 hb; go_simp; (first | with_reducible exact ⟨rfl, hb⟩)))
    simp only [Act.put, List.setIfInBounds_toArray, List.set_cons_zero, List.set_cons_succ]
  apply Flow.flow_nil
  clear hRc hRt
  intro w1 hb
  obtain ⟨hc, hf⟩ := Flow.bcell hb
  have hz := hb.size
  (try simp only [World.size_alloc, World.size_setCell, World.size_drew] at hz)
  obtain ⟨z0, z1⟩ := Flow.zs2 (show w.heap.size + 2 ≤ w1.heap.size by omega)
  have X1 := (hb.block w.heap.size (by simp; omega)).trans X0
  have Z1 := (hb.block (w.heap.size + 1) (by simp)).trans Z0
  have B1 : Below w.heap.size w w1 := by (repeat (first | exact Below.refl _ _ | refine Below.setCell ?_ (by first | omega | (simp <;> omega)) _ | refine Below.alloc ?_ (by first | omega | (simp <;> omega)) _ | refine Below.drew ?_ | refine Below.trans ?_ (Below.mono (by assumption) (by first | omega | (simp <;> omega)))))
  obtain ⟨w2, e2⟩ : ∃ w2, w1.setCell ⟨w.heap.size, 2, none⟩ (uv (v &&& 4294967295#32)) = w2 := ⟨_, rfl⟩
  have X2 := Go.heap_setCell_same w1 w.heap.size 2 _ _ (uv (v &&& 4294967295#32)) X1
  have Z2 := (heap_setCell_other w1 ⟨w.heap.size, 2, none⟩ (w.heap.size + 1) (uv (v &&& 4294967295#32)) (by simp)).trans Z1
  have B2 : Below w.heap.size w w2 := by rw [← e2]; exact B1.setCell (Nat.le_refl _) _
  rw [e2] at X2 Z2
  obtain ⟨xc, xf, xl⟩ := block_cells X2
  obtain ⟨zc, zf, zl⟩ := block_cells Z2
  clear X0 Z0 X1 Z1 X2 Z2 B1 hb
  go_wp2_with fail
  clear hc hf xc e2
  refine Flow.bodyPost_k rfl (fun K hK => ?_)
  simp only [results, Tryz.results116]
  go_simp
  refine hK _ ⟨?_, ?_⟩
  · rfl
  · have hle : w.heap.size ≤ w.heap.size + 1 := by omega
    exact (((B2.setCell hle _).setCell hle _).setCell hle _).setCell hle _
set_option maxRecDepth 100000 in
set_option maxHeartbeats 4000000 in
theorem setLane32_3 (x : V) (v : BitVec 32) (w : World) : Calls Tryz.prog 116 #[vv x, iv (32 : Int), iv (3 : Int), uv v] w fun e w' => e = .returned (vv { x with d := v &&& 4294967295#32 }) ∧ Below w.heap.size w w' := by
  have X0 := heap_alloc2_old w (.cells #[uv x.a, uv x.b, uv x.c, uv x.d] 24) (.cells #[uv 0#32, uv 0#32, uv 0#32, uv 0#32] 24)
  have Z0 := heap_alloc_new (w.alloc (.cells #[uv x.a, uv x.b, uv x.c, uv x.d] 24)) (.cells #[uv 0#32, uv 0#32, uv 0#32, uv 0#32] 24)
  rw [World.size_alloc] at Z0
  go_enter Tryz.func116, Tryz.ntmps116
  go_wp2_with fail
  refine Flow.wp_region_below 19 (by kernel_rfl) (by kernel_rfl) (fun R hRc hRt => ?_)
  simp only [List.take_succ_cons, List.take_zero, List.drop_succ_cons, List.drop_zero]
  iterate 19
    first
      | refine Flow.flow_skip rfl ?_
      | (apply Flow.flow_step; rfl; (intro w1 hb; have hc := hRc.out w1 hb; go_simp; (first | with_reducible exact ⟨rfl, hb⟩)))
    simp only [Act.put, List.setIfInBounds_toArray, List.set_cons_zero, List.set_cons_succ]
  apply Flow.flow_nil
  clear hRc hRt
  intro w1 hb
  obtain ⟨hc, hf⟩ := Flow.bcell hb
  have hz := hb.size
  (try simp only [World.size_alloc, World.size_setCell, World.size_drew] at hz)
  obtain ⟨z0, z1⟩ := Flow.zs2 (show w.heap.size + 2 ≤ w1.heap.size by omega)
  have X1 := (hb.block w.heap.size (by simp; omega)).trans X0
  have Z1 := (hb.block (w.heap.size + 1) (by simp)).trans Z0
  have B1 : Below w.heap.size w w1 := by (repeat (first | exact Below.refl _ _ | refine Below.setCell ?_ (by first | omega | (simp <;> omega)) _ | refine Below.alloc ?_ (by first | omega | (simp <;> omega)) _ | refine Below.drew ?_ | refine Below.trans ?_ (Below.mono (by assumption) (by first | omega | (simp <;> omega)))))
  obtain ⟨w2, e2⟩ : ∃ w2, w1.setCell ⟨w.heap.size, 3, none⟩ (uv (v &&& 4294967295#32)) = w2 := ⟨_, rfl⟩
  have X2 := Go.heap_setCell_same w1 w.heap.size 3 _ _ (uv (v &&& 4294967295#32)) X1
  have Z2 := (heap_setCell_other w1 ⟨w.heap.size, 3, none⟩ (w.heap.size + 1) (uv (v &&& 4294967295#32)) (by simp)).trans Z1
  have B2 : Below w.heap.size w w2 := by rw [← e2]; exact B1.setCell (Nat.le_refl _) _
  rw [e2] at X2 Z2
  obtain ⟨xc, xf, xl⟩ := block_cells X2
  obtain ⟨zc, zf, zl⟩ := block_cells Z2
  clear X0 Z0 X1 Z1 X2 Z2 B1 hb
  go_wp2_with fail
  clear hc hf xc e2
  refine Flow.bodyPost_k rfl (fun K hK => ?_)
  simp only [results, Tryz.results116]
  go_simp
  refine hK _ ⟨?_, ?_⟩
  · rfl
  · have hle : w.heap.size ≤ w.heap.size + 1 := by omega
    exact (((B2.setCell hle _).setCell hle _).setCell hle _).setCell hle _
end Go.Proofs.YtboknfppecgjmaaGreat
