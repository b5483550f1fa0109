/- The reference's functions on lanes, for any lane; undecided, lanesOf, mask. -/
import Derived.Test.YtboknfppecgjmaaGreatRefLane
import Derived.Test.YtboknfppecgjmaaGreatFlowA
import Derived.Test.YtboknfppecgjmaaGreatFlowG
import Derived.Laws.BitsLemmas
import Derived.Deep.LoopGhost
namespace Go.Proofs.YtboknfppecgjmaaGreat
set_option linter.unusedVariables false
set_option linter.unusedSimpArgs false
open Go.RowKit Go.Shelf
theorem wrapk (k : Nat) (h : k < 32) : IntKind.i64.wrap (k : Int) = (k : Int) := by
  rw [IntKind.wrap_i64]; omega
theorem tdivk (i n j : Nat) (h : i / n = j) : (i : Int).tdiv (n : Int) = (j : Int) := by
  rw [Int.tdiv_eq_ediv_of_nonneg (by omega), ← h]; rfl
theorem tmodk (i n : Nat) : (i : Int).tmod (n : Int) = ((i % n : Nat) : Int) := by
  rw [Int.tmod_eq_emod_of_nonneg (by omega)]; rfl
theorem lane_of (x : V) (s i j : Nat) (m : BitVec 32) (hm : 4294967295#32 >>> (32 - s) = m) (hj : i / (32 / s) = j) : Rf.lane x s i = (x.get j >>> (s * (i % (32 / s)))) &&& m := by
  unfold Rf.lane; rw [hj, hm]
theorem setLane_of (x : V) (s i j : Nat) (v m : BitVec 32) (hm : 4294967295#32 >>> (32 - s) = m) (hj : i / (32 / s) = j) :
    Rf.setLane x s i v = x.set j ((x.get j &&& ~~~(m <<< (s * (i % (32 / s))))) ||| ((v &&& m) <<< (s * (i % (32 / s))))) := by
  unfold Rf.setLane; rw [hj, hm]
theorem bw_32 (z v : BitVec 32) : (z &&& ~~~(4294967295#32 <<< 0)) ||| ((v &&& 4294967295#32) <<< 0) = v &&& 4294967295#32 := by
  simp
theorem lane8_c (x : V) (i : Nat) (hi : i < 16) (w : World) : Calls Tryz.prog 115 #[vv x, iv (8 : Int), iv (i : Int)] w fun e w' => e = .returned (uv (Rf.lane x 8 i)) ∧ Below w.heap.size w w' := by
  rcases (show i / 4 = 0 ∨ i / 4 = 1 ∨ i / 4 = 2 ∨ i / 4 = 3 by omega) with h | h | h | h
  · rw [lane_of x 8 i 0 255#32 (by decide) h]
    exact lane8_0 x i (i % 4) (8 * (i % 4)) (tdivk i 4 0 h) (tmodk i 4) (by omega) (wrapk _ (by omega)) (by omega) w
  · rw [lane_of x 8 i 1 255#32 (by decide) h]
    exact lane8_1 x i (i % 4) (8 * (i % 4)) (tdivk i 4 1 h) (tmodk i 4) (by omega) (wrapk _ (by omega)) (by omega) w
  · rw [lane_of x 8 i 2 255#32 (by decide) h]
    exact lane8_2 x i (i % 4) (8 * (i % 4)) (tdivk i 4 2 h) (tmodk i 4) (by omega) (wrapk _ (by omega)) (by omega) w
  · rw [lane_of x 8 i 3 255#32 (by decide) h]
    exact lane8_3 x i (i % 4) (8 * (i % 4)) (tdivk i 4 3 h) (tmodk i 4) (by omega) (wrapk _ (by omega)) (by omega) w
theorem setLane8_c (x : V) (i : Nat) (hi : i < 16) (v : BitVec 32) (w : World) : Calls Tryz.prog 116 #[vv x, iv (8 : Int), iv (i : Int), uv v] w fun e w' => e = .returned (vv (Rf.setLane x 8 i v)) ∧ Below w.heap.size w w' := by
  rcases (show i / 4 = 0 ∨ i / 4 = 1 ∨ i / 4 = 2 ∨ i / 4 = 3 by omega) with h | h | h | h
  · rw [setLane_of x 8 i 0 v 255#32 (by decide) h]
    exact setLane8_0 x i (i % 4) (8 * (i % 4)) (tdivk i 4 0 h) (tmodk i 4) (by omega) (wrapk _ (by omega)) (by omega) v w
  · rw [setLane_of x 8 i 1 v 255#32 (by decide) h]
    exact setLane8_1 x i (i % 4) (8 * (i % 4)) (tdivk i 4 1 h) (tmodk i 4) (by omega) (wrapk _ (by omega)) (by omega) v w
  · rw [setLane_of x 8 i 2 v 255#32 (by decide) h]
    exact setLane8_2 x i (i % 4) (8 * (i % 4)) (tdivk i 4 2 h) (tmodk i 4) (by omega) (wrapk _ (by omega)) (by omega) v w
  · rw [setLane_of x 8 i 3 v 255#32 (by decide) h]
    exact setLane8_3 x i (i % 4) (8 * (i % 4)) (tdivk i 4 3 h) (tmodk i 4) (by omega) (wrapk _ (by omega)) (by omega) v w
theorem lane16_c (x : V) (i : Nat) (hi : i < 8) (w : World) : Calls Tryz.prog 115 #[vv x, iv (16 : Int), iv (i : Int)] w fun e w' => e = .returned (uv (Rf.lane x 16 i)) ∧ Below w.heap.size w w' := by
  rcases (show i / 2 = 0 ∨ i / 2 = 1 ∨ i / 2 = 2 ∨ i / 2 = 3 by omega) with h | h | h | h
  · rw [lane_of x 16 i 0 65535#32 (by decide) h]
    exact lane16_0 x i (i % 2) (16 * (i % 2)) (tdivk i 2 0 h) (tmodk i 2) (by omega) (wrapk _ (by omega)) (by omega) w
  · rw [lane_of x 16 i 1 65535#32 (by decide) h]
    exact lane16_1 x i (i % 2) (16 * (i % 2)) (tdivk i 2 1 h) (tmodk i 2) (by omega) (wrapk _ (by omega)) (by omega) w
  · rw [lane_of x 16 i 2 65535#32 (by decide) h]
    exact lane16_2 x i (i % 2) (16 * (i % 2)) (tdivk i 2 2 h) (tmodk i 2) (by omega) (wrapk _ (by omega)) (by omega) w
  · rw [lane_of x 16 i 3 65535#32 (by decide) h]
    exact lane16_3 x i (i % 2) (16 * (i % 2)) (tdivk i 2 3 h) (tmodk i 2) (by omega) (wrapk _ (by omega)) (by omega) w
theorem setLane16_c (x : V) (i : Nat) (hi : i < 8) (v : BitVec 32) (w : World) : Calls Tryz.prog 116 #[vv x, iv (16 : Int), iv (i : Int), uv v] w fun e w' => e = .returned (vv (Rf.setLane x 16 i v)) ∧ Below w.heap.size w w' := by
  rcases (show i / 2 = 0 ∨ i / 2 = 1 ∨ i / 2 = 2 ∨ i / 2 = 3 by omega) with h | h | h | h
  · rw [setLane_of x 16 i 0 v 65535#32 (by decide) h]
    exact setLane16_0 x i (i % 2) (16 * (i % 2)) (tdivk i 2 0 h) (tmodk i 2) (by omega) (wrapk _ (by omega)) (by omega) v w
  · rw [setLane_of x 16 i 1 v 65535#32 (by decide) h]
    exact setLane16_1 x i (i % 2) (16 * (i % 2)) (tdivk i 2 1 h) (tmodk i 2) (by omega) (wrapk _ (by omega)) (by omega) v w
  · rw [setLane_of x 16 i 2 v 65535#32 (by decide) h]
    exact setLane16_2 x i (i % 2) (16 * (i % 2)) (tdivk i 2 2 h) (tmodk i 2) (by omega) (wrapk _ (by omega)) (by omega) v w
  · rw [setLane_of x 16 i 3 v 65535#32 (by decide) h]
    exact setLane16_3 x i (i % 2) (16 * (i % 2)) (tdivk i 2 3 h) (tmodk i 2) (by omega) (wrapk _ (by omega)) (by omega) v w
theorem lane32_c (x : V) (i : Nat) (hi : i < 4) (w : World) : Calls Tryz.prog 115 #[vv x, iv (32 : Int), iv (i : Int)] w fun e w' => e = .returned (uv (Rf.lane x 32 i)) ∧ Below w.heap.size w w' := by
  rcases (show i / 1 = 0 ∨ i / 1 = 1 ∨ i / 1 = 2 ∨ i / 1 = 3 by omega) with h | h | h | h
  · have hi' : i = 0 := by omega
    subst hi'
    rw [lane_of x 32 0 0 4294967295#32 (by decide) rfl]
    exact lane32_0 x w
  · have hi' : i = 1 := by omega
    subst hi'
    rw [lane_of x 32 1 1 4294967295#32 (by decide) rfl]
    exact lane32_1 x w
  · have hi' : i = 2 := by omega
    subst hi'
    rw [lane_of x 32 2 2 4294967295#32 (by decide) rfl]
    exact lane32_2 x w
  · have hi' : i = 3 := by omega
    subst hi'
    rw [lane_of x 32 3 3 4294967295#32 (by decide) rfl]
    exact lane32_3 x w
theorem setLane32_c (x : V) (i : Nat) (hi : i < 4) (v : BitVec 32) (w : World) : Calls Tryz.prog 116 #[vv x, iv (32 : Int), iv (i : Int), uv v] w fun e w' => e = .returned (vv (Rf.setLane x 32 i v)) ∧ Below w.heap.size w w' := by
  rcases (show i / 1 = 0 ∨ i / 1 = 1 ∨ i / 1 = 2 ∨ i / 1 = 3 by omega) with h | h | h | h
  · have hi' : i = 0 := by omega
    subst hi'
    rw [setLane_of x 32 0 0 v 4294967295#32 (by decide) rfl, show 32 * (0 % (32 / 32)) = 0 from rfl, bw_32]
    exact setLane32_0 x v w
  · have hi' : i = 1 := by omega
    subst hi'
    rw [setLane_of x 32 1 1 v 4294967295#32 (by decide) rfl, show 32 * (1 % (32 / 32)) = 0 from rfl, bw_32]
    exact setLane32_1 x v w
  · have hi' : i = 2 := by omega
    subst hi'
    rw [setLane_of x 32 2 2 v 4294967295#32 (by decide) rfl, show 32 * (2 % (32 / 32)) = 0 from rfl, bw_32]
    exact setLane32_2 x v w
  · have hi' : i = 3 := by omega
    subst hi'
    rw [setLane_of x 32 3 3 v 4294967295#32 (by decide) rfl, show 32 * (3 % (32 / 32)) = 0 from rfl, bw_32]
    exact setLane32_3 x v w
theorem and_not_v (x a : V) : x.and (a.xor V.all) = x.without a := by
  have e : ∀ z : BitVec 32, z ^^^ 4294967295#32 = ~~~z := fun z => BitVec.xor_allOnes
  refine ext4 ?_ ?_ ?_ ?_
  · show x.a &&& (a.a ^^^ 4294967295#32) = _; rw [e]; rfl
  · show x.b &&& (a.b ^^^ 4294967295#32) = _; rw [e]; rfl
  · show x.c &&& (a.c ^^^ 4294967295#32) = _; rw [e]; rfl
  · show x.d &&& (a.d ^^^ 4294967295#32) = _; rw [e]; rfl
set_option maxRecDepth 100000 in
set_option maxHeartbeats 4000000 in
theorem undecided_c (x a : V) (w : World) : Calls Tryz.prog 61 #[vv x, vv a] w fun e w' => e = .returned (.bool (Rf.undecided x a)) ∧ Below w.heap.size w w' := by
  have HV := Lib.hid (and_not_v x a)
  go_enter Tryz.func61, Tryz.ntmps61
  go_wp2_with fail
  refine FlowA.wp_region_alloc 5 6 5 _ #[uv 0#32, uv 0#32, uv 0#32, uv 0#32] 24 rfl rfl rfl (fun a w => by kernel_rfl) (by kernel_rfl) (by omega) (by kernel_rfl) (by kernel_rfl) (fun R hRc hRt => ?_)
  simp only [List.take_succ_cons, List.take_zero, List.drop_succ_cons, List.drop_zero]
  iterate 6
    first
      | (refine FlowA.flow_make rfl ?_)
      | refine FlowA.flow_skip rfl rfl ?_
      | (apply FlowA.flow_step; rfl; rfl; (intro s1 w1 hb; have hc := hRc.out s1 w1 hb; go_simp; (first | with_reducible exact ⟨rfl, hb⟩ | (go_at_call 16; refine (rxor_c _ V.all _ ).mono ?_; rintro e w2 ⟨rfl, hb2⟩; exact ⟨_, rfl, rfl, hRt.out _ _ _ hb hb2⟩) | (go_at_call 15; refine (rand_c _ _ _).mono ?_; rintro e w2 ⟨rfl, hb2⟩; exact ⟨_, rfl, rfl, hRt.out _ _ _ hb hb2⟩))))
    simp only [Act.put, List.setIfInBounds_toArray, List.set_cons_zero, List.set_cons_succ]
  apply FlowA.flow_nil
  clear hRc hRt
  intro b1 u1 hb hbb hob
  simp only [Act.put, List.setIfInBounds_toArray, List.set_cons_zero, List.set_cons_succ]
  obtain ⟨hc, hf⟩ := Flow.bcell hb
  have hz := hb.size
  (try simp only [World.size_alloc, World.size_setCell, World.size_drew] at hz)
  (try simp only [World.size_alloc, World.size_setCell, World.size_drew] at hbb)
  obtain ⟨hoc, hof, hos⟩ := FlowA.made_cells hob
  clear hob
  obtain ⟨z0, z1⟩ := Flow.zs2 (show w.heap.size + 2 ≤ u1.heap.size by omega)
  go_wp2_with fail
  all_goals go_ret
  all_goals (refine ⟨?_, by (repeat (first | exact Below.refl _ _ | refine Below.setCell ?_ (by first | omega | (simp <;> omega)) _ | refine Below.alloc ?_ (by first | omega | (simp <;> omega)) _ | refine Below.drew ?_ | refine Below.trans ?_ (Below.mono (by assumption) (by first | omega | (simp <;> omega)))))⟩)
  all_goals (have hv := HV.out; apply ret_bool'; simp only [V.all] at hv; (try rw [hv]); unfold Rf.undecided V.isZero; (first | (simp_all [V.zero]; done) | (simp_all [V.zero]; exact decide_eq_decide.2 Iff.rfl)))
theorem heap_alloc4 (w : World) (a b c d : Obj) : ((((w.alloc a).alloc b).alloc c).alloc d).heap[w.heap.size]? = some a ∧ ((((w.alloc a).alloc b).alloc c).alloc d).heap[w.heap.size + 1]? = some b ∧
    ((((w.alloc a).alloc b).alloc c).alloc d).heap[w.heap.size + 1 + 1]? = some c ∧ ((((w.alloc a).alloc b).alloc c).alloc d).heap[w.heap.size + 1 + 1 + 1]? = some d := by
  have s1 : (w.alloc a).heap.size = w.heap.size + 1 := by simp
  have s2 : ((w.alloc a).alloc b).heap.size = w.heap.size + 2 := by simp
  have s3 : (((w.alloc a).alloc b).alloc c).heap.size = w.heap.size + 3 := by simp
  have h0 := heap_alloc_new w a
  have h1 := heap_alloc_new (w.alloc a) b
  have h2 := heap_alloc_new ((w.alloc a).alloc b) c
  have h3 := heap_alloc_new (((w.alloc a).alloc b).alloc c) d
  rw [s1] at h1; rw [s2] at h2; rw [s3] at h3
  refine ⟨?_, ?_, ?_, h3⟩
  · exact (Below.heap_alloc _ d _ (by omega)).trans ((Below.heap_alloc _ c _ (by omega)).trans ((Below.heap_alloc _ b _ (by omega)).trans h0))
  · exact (Below.heap_alloc _ d _ (by omega)).trans ((Below.heap_alloc _ c _ (by omega)).trans h1)
  · exact (Below.heap_alloc _ d _ (by omega)).trans h2
/-- The lanes that are not decided, as all ones, of the first so many lanes. -/
def Rf.lanesTo (x a : V) (s : Nat) : Nat → V
  | 0 => V.zero
  | n + 1 => if Rf.undecided (V.word (Rf.lane x s n)) (V.word (Rf.lane a s n)) = true then Rf.setLane (Rf.lanesTo x a s n) s n 4294967295#32 else Rf.lanesTo x a s n
abbrev vcell (x : V) : Obj := .cells #[uv x.a, uv x.b, uv x.c, uv x.d] 24
end Go.Proofs.YtboknfppecgjmaaGreat
