/- The reference's functions on lanes, for any lane; undecided, lanesOf, mask. -/
import Derived.Test.YtboknfppecgjmaaRefLane
import Derived.Test.YtboknfppecgjmaaFlowA
import Derived.Test.YtboknfppecgjmaaFlowG
import Derived.Laws.BitsLemmas
import Derived.Deep.LoopGhost
namespace Go.Proofs.Ytboknfppecgjmaa
set_option linter.unusedVariables false
set_option linter.unusedSimpArgs false
open Go.RowKit Go.Shelf
theorem wrapk (k : Nat) (h : k < 32) : IntKind.i64.wrap (k : Int) = (k : Int) := by
  rw [IntKind.wrap_i64]; omega
theorem tdivk (i n j : Nat) (h : i / n = j) : (i : Int).tdiv (n : Int) = (j : Int) := by
  rw [Int.tdiv_eq_ediv_of_nonneg (by omega), ← h]; rfl
theorem tmodk (i n : Nat) : (i : Int).tmod (n : Int) = ((i % n : Nat) : Int) := by
  rw [Int.tmod_eq_emod_of_nonneg (by omega)]; rfl
theorem lane_of (x : V) (s i j : Nat) (m : BitVec 32) (hm : 4294967295#32 >>> (32 - s) = m) (hj : i / (32 / s) = j) : Rf.lane x s i = (x.get j >>> (s * (i % (32 / s)))) &&& m := by
  unfold Rf.lane; rw [hj, hm]
theorem setLane_of (x : V) (s i j : Nat) (v m : BitVec 32) (hm : 4294967295#32 >>> (32 - s) = m) (hj : i / (32 / s) = j) :
    Rf.setLane x s i v = x.set j ((x.get j &&& ~~~(m <<< (s * (i % (32 / s))))) ||| ((v &&& m) <<< (s * (i % (32 / s))))) := by
  unfold Rf.setLane; rw [hj, hm]
theorem bw_32 (z v : BitVec 32) : (z &&& ~~~(4294967295#32 <<< 0)) ||| ((v &&& 4294967295#32) <<< 0) = v &&& 4294967295#32 := by
  simp
theorem lane8_c (x : V) (i : Nat) (hi : i < 16) (w : World) : Calls Try.prog 97 #[vv x, iv (8 : Int), iv (i : Int)] w fun e w' => e = .returned (uv (Rf.lane x 8 i)) ∧ Below w.heap.size w w' := by
  rcases (show i / 4 = 0 ∨ i / 4 = 1 ∨ i / 4 = 2 ∨ i / 4 = 3 by omega) with h | h | h | h
  · rw [lane_of x 8 i 0 255#32 (by decide) h]
    exact lane8_0 x i (i % 4) (8 * (i % 4)) (tdivk i 4 0 h) (tmodk i 4) (by omega) (wrapk _ (by omega)) (by omega) w
  · rw [lane_of x 8 i 1 255#32 (by decide) h]
    exact lane8_1 x i (i % 4) (8 * (i % 4)) (tdivk i 4 1 h) (tmodk i 4) (by omega) (wrapk _ (by omega)) (by omega) w
  · rw [lane_of x 8 i 2 255#32 (by decide) h]
    exact lane8_2 x i (i % 4) (8 * (i % 4)) (tdivk i 4 2 h) (tmodk i 4) (by omega) (wrapk _ (by omega)) (by omega) w
  · rw [lane_of x 8 i 3 255#32 (by decide) h]
    exact lane8_3 x i (i % 4) (8 * (i % 4)) (tdivk i 4 3 h) (tmodk i 4) (by omega) (wrapk _ (by omega)) (by omega) w
theorem setLane8_c (x : V) (i : Nat) (hi : i < 16) (v : BitVec 32) (w : World) : Calls Try.prog 98 #[vv x, iv (8 : Int), iv (i : Int), uv v] w fun e w' => e = .returned (vv (Rf.setLane x 8 i v)) ∧ Below w.heap.size w w' := by
  rcases (show i / 4 = 0 ∨ i / 4 = 1 ∨ i / 4 = 2 ∨ i / 4 = 3 by omega) with h | h | h | h
  · rw [setLane_of x 8 i 0 v 255#32 (by decide) h]
    exact setLane8_0 x i (i % 4) (8 * (i % 4)) (tdivk i 4 0 h) (tmodk i 4) (by omega) (wrapk _ (by omega)) (by omega) v w
  · rw [setLane_of x 8 i 1 v 255#32 (by decide) h]
    exact setLane8_1 x i (i % 4) (8 * (i % 4)) (tdivk i 4 1 h) (tmodk i 4) (by omega) (wrapk _ (by omega)) (by omega) v w
  · rw [setLane_of x 8 i 2 v 255#32 (by decide) h]
    exact setLane8_2 x i (i % 4) (8 * (i % 4)) (tdivk i 4 2 h) (tmodk i 4) (by omega) (wrapk _ (by omega)) (by omega) v w
  · rw [setLane_of x 8 i 3 v 255#32 (by decide) h]
    exact setLane8_3 x i (i % 4) (8 * (i % 4)) (tdivk i 4 3 h) (tmodk i 4) (by omega) (wrapk _ (by omega)) (by omega) v w
theorem lane16_c (x : V) (i : Nat) (hi : i < 8) (w : World) : Calls Try.prog 97 #[vv x, iv (16 : Int), iv (i : Int)] w fun e w' => e = .returned (uv (Rf.lane x 16 i)) ∧ Below w.heap.size w w' := by
  rcases (show i / 2 = 0 ∨ i / 2 = 1 ∨ i / 2 = 2 ∨ i / 2 = 3 by omega) with h | h | h | h
  · rw [lane_of x 16 i 0 65535#32 (by decide) h]
    exact lane16_0 x i (i % 2) (16 * (i % 2)) (tdivk i 2 0 h) (tmodk i 2) (by omega) (wrapk _ (by omega)) (by omega) w
  · rw [lane_of x 16 i 1 65535#32 (by decide) h]
    exact lane16_1 x i (i % 2) (16 * (i % 2)) (tdivk i 2 1 h) (tmodk i 2) (by omega) (wrapk _ (by omega)) (by omega) w
  · rw [lane_of x 16 i 2 65535#32 (by decide) h]
    exact lane16_2 x i (i % 2) (16 * (i % 2)) (tdivk i 2 2 h) (tmodk i 2) (by omega) (wrapk _ (by omega)) (by omega) w
  · rw [lane_of x 16 i 3 65535#32 (by decide) h]
    exact lane16_3 x i (i % 2) (16 * (i % 2)) (tdivk i 2 3 h) (tmodk i 2) (by omega) (wrapk _ (by omega)) (by omega) w
theorem setLane16_c (x : V) (i : Nat) (hi : i < 8) (v : BitVec 32) (w : World) : Calls Try.prog 98 #[vv x, iv (16 : Int), iv (i : Int), uv v] w fun e w' => e = .returned (vv (Rf.setLane x 16 i v)) ∧ Below w.heap.size w w' := by
  rcases (show i / 2 = 0 ∨ i / 2 = 1 ∨ i / 2 = 2 ∨ i / 2 = 3 by omega) with h | h | h | h
  · rw [setLane_of x 16 i 0 v 65535#32 (by decide) h]
    exact setLane16_0 x i (i % 2) (16 * (i % 2)) (tdivk i 2 0 h) (tmodk i 2) (by omega) (wrapk _ (by omega)) (by omega) v w
  · rw [setLane_of x 16 i 1 v 65535#32 (by decide) h]
    exact setLane16_1 x i (i % 2) (16 * (i % 2)) (tdivk i 2 1 h) (tmodk i 2) (by omega) (wrapk _ (by omega)) (by omega) v w
  · rw [setLane_of x 16 i 2 v 65535#32 (by decide) h]
    exact setLane16_2 x i (i % 2) (16 * (i % 2)) (tdivk i 2 2 h) (tmodk i 2) (by omega) (wrapk _ (by omega)) (by omega) v w
  · rw [setLane_of x 16 i 3 v 65535#32 (by decide) h]
    exact setLane16_3 x i (i % 2) (16 * (i % 2)) (tdivk i 2 3 h) (tmodk i 2) (by omega) (wrapk _ (by omega)) (by omega) v w
theorem lane32_c (x : V) (i : Nat) (hi : i < 4) (w : World) : Calls Try.prog 97 #[vv x, iv (32 : Int), iv (i : Int)] w fun e w' => e = .returned (uv (Rf.lane x 32 i)) ∧ Below w.heap.size w w' := by
  rcases (show i / 1 = 0 ∨ i / 1 = 1 ∨ i / 1 = 2 ∨ i / 1 = 3 by omega) with h | h | h | h
  · have hi' : i = 0 := by omega
    subst hi'
    rw [lane_of x 32 0 0 4294967295#32 (by decide) rfl]
    exact lane32_0 x w
  · have hi' : i = 1 := by omega
    subst hi'
    rw [lane_of x 32 1 1 4294967295#32 (by decide) rfl]
    exact lane32_1 x w
  · have hi' : i = 2 := by omega
    subst hi'
    rw [lane_of x 32 2 2 4294967295#32 (by decide) rfl]
    exact lane32_2 x w
  · have hi' : i = 3 := by omega
    subst hi'
    rw [lane_of x 32 3 3 4294967295#32 (by decide) rfl]
    exact lane32_3 x w
theorem setLane32_c (x : V) (i : Nat) (hi : i < 4) (v : BitVec 32) (w : World) : Calls Try.prog 98 #[vv x, iv (32 : Int), iv (i : Int), uv v] w fun e w' => e = .returned (vv (Rf.setLane x 32 i v)) ∧ Below w.heap.size w w' := by
  rcases (show i / 1 = 0 ∨ i / 1 = 1 ∨ i / 1 = 2 ∨ i / 1 = 3 by omega) with h | h | h | h
  · have hi' : i = 0 := by omega
    subst hi'
    rw [setLane_of x 32 0 0 v 4294967295#32 (by decide) rfl, show 32 * (0 % (32 / 32)) = 0 from rfl, bw_32]
    exact setLane32_0 x v w
  · have hi' : i = 1 := by omega
    subst hi'
    rw [setLane_of x 32 1 1 v 4294967295#32 (by decide) rfl, show 32 * (1 % (32 / 32)) = 0 from rfl, bw_32]
    exact setLane32_1 x v w
  · have hi' : i = 2 := by omega
    subst hi'
    rw [setLane_of x 32 2 2 v 4294967295#32 (by decide) rfl, show 32 * (2 % (32 / 32)) = 0 from rfl, bw_32]
    exact setLane32_2 x v w
  · have hi' : i = 3 := by omega
    subst hi'
    rw [setLane_of x 32 3 3 v 4294967295#32 (by decide) rfl, show 32 * (3 % (32 / 32)) = 0 from rfl, bw_32]
    exact setLane32_3 x v w
theorem and_not_v (x a : V) : x.and (a.xor V.all) = x.without a := by
  have e : ∀ z : BitVec 32, z ^^^ 4294967295#32 = ~~~z := fun z => BitVec.xor_allOnes
  refine ext4 ?_ ?_ ?_ ?_
  · show x.a &&& (a.a ^^^ 4294967295#32) = _; rw [e]; rfl
  · show x.b &&& (a.b ^^^ 4294967295#32) = _; rw [e]; rfl
  · show x.c &&& (a.c ^^^ 4294967295#32) = _; rw [e]; rfl
  · show x.d &&& (a.d ^^^ 4294967295#32) = _; rw [e]; rfl
set_option maxRecDepth 100000 in
set_option maxHeartbeats 4000000 in
theorem undecided_c (x a : V) (w : World) : Calls Try.prog 58 #[vv x, vv a] w fun e w' => e = .returned (.bool (Rf.undecided x a)) ∧ Below w.heap.size w w' := by
  have HV := Lib.hid (and_not_v x a)
  go_enter Try.func58, Try.ntmps58
  go_wp2_with fail
  refine FlowA.wp_region_alloc 5 6 5 _ #[uv 0#32, uv 0#32, uv 0#32, uv 0#32] 24 rfl rfl rfl (fun a w => by kernel_rfl) (by kernel_rfl) (by omega) (by kernel_rfl) (by kernel_rfl) (fun R hRc hRt => ?_)
  simp only [List.take_succ_cons, List.take_zero, List.drop_succ_cons, List.drop_zero]
  iterate 6
    first
      | (refine FlowA.flow_make rfl ?_)
      | refine FlowA.flow_skip rfl rfl ?_
      | (apply FlowA.flow_step; rfl; rfl; (intro s1 w1 hb; have hc := hRc.out s1 w1 hb; go_simp; (first | with_reducible exact ⟨rfl, hb⟩ | (go_at_call 22; refine (rxor_c _ V.all _ ).mono ?_; rintro e w2 ⟨rfl, hb2⟩; exact ⟨_, rfl, rfl, hRt.out _ _ _ hb hb2⟩) | (go_at_call 17; refine (rand_c _ _ _).mono ?_; rintro e w2 ⟨rfl, hb2⟩; exact ⟨_, rfl, rfl, hRt.out _ _ _ hb hb2⟩))))
    simp only [Act.put, List.setIfInBounds_toArray, List.set_cons_zero, List.set_cons_succ]
  apply FlowA.flow_nil
  clear hRc hRt
  intro b1 u1 hb hbb hob
  simp only [Act.put, List.setIfInBounds_toArray, List.set_cons_zero, List.set_cons_succ]
  obtain ⟨hc, hf⟩ := Flow.bcell hb
  have hz := hb.size
  (try simp only [World.size_alloc, World.size_setCell, World.size_drew] at hz)
  (try simp only [World.size_alloc, World.size_setCell, World.size_drew] at hbb)
  obtain ⟨hoc, hof, hos⟩ := FlowA.made_cells hob
  clear hob
  obtain ⟨z0, z1⟩ := Flow.zs2 (show w.heap.size + 2 ≤ u1.heap.size by omega)
  go_wp2_with fail
  all_goals go_ret
  all_goals (refine ⟨?_, by (repeat (first | exact Below.refl _ _ | refine Below.setCell ?_ (by first | omega | (simp <;> omega)) _ | refine Below.alloc ?_ (by first | omega | (simp <;> omega)) _ | refine Below.drew ?_ | refine Below.trans ?_ (Below.mono (by assumption) (by first | omega | (simp <;> omega)))))⟩)
  all_goals (have hv := HV.out; apply ret_bool'; simp only [V.all] at hv; (try rw [hv]); unfold Rf.undecided V.isZero; (first | (simp_all [V.zero]; done) | (simp_all [V.zero]; exact decide_eq_decide.2 Iff.rfl)))
theorem heap_alloc4 (w : World) (a b c d : Obj) : ((((w.alloc a).alloc b).alloc c).alloc d).heap[w.heap.size]? = some a ∧ ((((w.alloc a).alloc b).alloc c).alloc d).heap[w.heap.size + 1]? = some b ∧
    ((((w.alloc a).alloc b).alloc c).alloc d).heap[w.heap.size + 1 + 1]? = some c ∧ ((((w.alloc a).alloc b).alloc c).alloc d).heap[w.heap.size + 1 + 1 + 1]? = some d := by
  have s1 : (w.alloc a).heap.size = w.heap.size + 1 := by simp
  have s2 : ((w.alloc a).alloc b).heap.size = w.heap.size + 2 := by simp
  have s3 : (((w.alloc a).alloc b).alloc c).heap.size = w.heap.size + 3 := by simp
  have h0 := heap_alloc_new w a
  have h1 := heap_alloc_new (w.alloc a) b
  have h2 := heap_alloc_new ((w.alloc a).alloc b) c
  have h3 := heap_alloc_new (((w.alloc a).alloc b).alloc c) d
  rw [s1] at h1; rw [s2] at h2; rw [s3] at h3
  refine ⟨?_, ?_, ?_, h3⟩
  · exact (Below.heap_alloc _ d _ (by omega)).trans ((Below.heap_alloc _ c _ (by omega)).trans ((Below.heap_alloc _ b _ (by omega)).trans h0))
  · exact (Below.heap_alloc _ d _ (by omega)).trans ((Below.heap_alloc _ c _ (by omega)).trans h1)
  · exact (Below.heap_alloc _ d _ (by omega)).trans h2
/-- The lanes that are not decided, as all ones, of the first so many lanes. -/
def Rf.lanesTo (x a : V) (s : Nat) : Nat → V
  | 0 => V.zero
  | n + 1 => if Rf.undecided (V.word (Rf.lane x s n)) (V.word (Rf.lane a s n)) = true then Rf.setLane (Rf.lanesTo x a s n) s n 4294967295#32 else Rf.lanesTo x a s n
abbrev vcell (x : V) : Obj := .cells #[uv x.a, uv x.b, uv x.c, uv x.d] 24
set_option maxRecDepth 100000 in
set_option maxHeartbeats 4000000 in
theorem lanesOf8_c (x a : V) (w : World) : Calls Try.prog 60 #[vv x, vv a, iv (8 : Int)] w fun e w' => e = .returned (vv (Rf.lanesTo x a 8 16)) ∧ Below w.heap.size w w' := by
  obtain ⟨X0, A0, R0, O0⟩ := heap_alloc4 w (vcell x) (vcell a) (vcell V.zero) (vcell V.zero)
  have B0 : Below w.heap.size w ((((w.alloc (vcell x)).alloc (vcell a)).alloc (vcell V.zero)).alloc (vcell V.zero)) := by (repeat (first | exact Below.refl _ _ | refine Below.setCell ?_ (by first | omega | (simp <;> omega)) _ | refine Below.alloc ?_ (by first | omega | (simp <;> omega)) _ | refine Below.drew ?_ | refine Below.trans ?_ (Below.mono (by assumption) (by first | omega | (simp <;> omega)))))
  have Z0 : ((((w.alloc (vcell x)).alloc (vcell a)).alloc (vcell V.zero)).alloc (vcell V.zero)).heap.size = w.heap.size + 4 := by simp
  go_enter Try.func60, Try.ntmps60
  go_wp2_with fail
  generalize hu : World.alloc _ _ = u
  have X : u.heap[w.heap.size]? = some (vcell x) := by rw [← hu]; exact X0
  have A : u.heap[w.heap.size + 1]? = some (vcell a) := by rw [← hu]; exact A0
  have Rr : u.heap[w.heap.size + 1 + 1]? = some (vcell V.zero) := by rw [← hu]; exact R0
  have O : u.heap[w.heap.size + 1 + 1 + 1]? = some (vcell V.zero) := by rw [← hu]; exact O0
  have B : Below w.heap.size w u := by rw [← hu]; exact B0
  have Z : w.heap.size + 4 ≤ u.heap.size := by rw [← hu]; exact Nat.le_of_eq Z0.symm
  clear hu X0 A0 R0 O0 B0 Z0
  go_loopg [8] 16 (fun k p wr => ∃ i : Nat, i + k = 16 ∧ p = .int .i64 (i : Int) ∧ wr.heap[w.heap.size]? = some (vcell x) ∧ wr.heap[w.heap.size + 1]? = some (vcell a) ∧ wr.heap[w.heap.size + 1 + 1]? = some (vcell V.zero) ∧
    wr.heap[w.heap.size + 1 + 1 + 1]? = some (vcell (Rf.lanesTo x a 8 i)) ∧ Below w.heap.size w wr ∧ w.heap.size + 4 ≤ wr.heap.size)
  case atStart => exact ⟨0, by omega, rfl, X, A, Rr, O, B, Z⟩
  case round =>
    clear X A Rr O B Z
    obtain ⟨i, hik, rfl, X, A, Rr, O, B, Z⟩ := hrel
    by_cases hlt : i < 16
    · obtain ⟨xc, xf, xl⟩ := block_cells X
      obtain ⟨ac, af, al⟩ := block_cells A
      obtain ⟨oc, of, ol⟩ := block_cells O
      go_wp2_with fail
      refine Flow.wp_region_below 10 (by kernel_rfl) (by kernel_rfl) (fun R hRc hRt => ?_)
      simp only [List.take_succ_cons, List.take_zero, List.drop_succ_cons, List.drop_zero]
      iterate 10
        first
          | refine Flow.flow_skip rfl ?_
          | (apply Flow.flow_step; rfl; (intro w1 hb; have hc := hRc.out w1 hb; go_simp; (first | with_reducible exact ⟨rfl, hb⟩ | (go_at_call 97; refine (lane8_c _ i hlt _ ).mono ?_; rintro e w2 ⟨rfl, hb2⟩; exact ⟨_, rfl, rfl, hRt.out _ _ hb hb2⟩))))
        simp only [Act.put, List.setIfInBounds_toArray, List.set_cons_zero, List.set_cons_succ]
      apply Flow.flow_nil
      clear hRc hRt
      intro w1 hb
      obtain ⟨hc, hf⟩ := Flow.bcell hb
      have hz := hb.size
      (try simp only [World.size_alloc, World.size_setCell, World.size_drew] at hz)
      obtain ⟨z0, z1, z2, z3⟩ := Flow.zs4 (show w.heap.size + 4 ≤ w1.heap.size by omega)
      have X1 := (hb.block _ xl).trans X
      have A1 := (hb.block _ al).trans A
      have R1 := (hb.block _ (by omega)).trans Rr
      have O1 := (hb.block _ ol).trans O
      have B1 : Below w.heap.size w w1 := B.trans (hb.mono (by omega))
      have zz1 : w.heap.size + 4 ≤ w1.heap.size := by omega
      clear hb hc hf xc xf ac af oc of z0 z1 z2 z3
      go_wp2_with fail
      (refine (undecided_c (V.word (Rf.lane x 8 i)) (V.word (Rf.lane a 8 i)) _ ).mono ?_; rintro e u2 ⟨rfl, hb⟩; obtain ⟨hc, hf⟩ := Flow.bcell hb; have hz := hb.size; (try simp only [World.size_alloc, World.size_setCell, World.size_drew] at hz); obtain ⟨z0, z1, z2, z3⟩ := Flow.zs4 (show w.heap.size + 4 ≤ u2.heap.size by omega))
      have X2 := (hb.block _ (by omega)).trans X1
      have A2 := (hb.block _ (by omega)).trans A1
      have R2 := (hb.block _ (by omega)).trans R1
      have O2 := (hb.block _ (by omega)).trans O1
      have B2 : Below w.heap.size w u2 := B1.trans (hb.mono (by omega))
      have zz2 : w.heap.size + 4 ≤ u2.heap.size := by omega
      clear hb hc hf
      obtain ⟨oc, of, ol⟩ := block_cells O2
      cases hd : Rf.undecided (V.word (Rf.lane x 8 i)) (V.word (Rf.lane a 8 i))
      · go_wp2_with fail
        go_roundg (gk - 1)
        case measure => omega
        case rel => exact ⟨i + 1, by omega, by simp, X2, A2, R2, by unfold Rf.lanesTo; rw [hd]; exact O2, B2, zz2⟩
      · go_wp2_with fail
        (refine (setLane8_c (Rf.lanesTo x a 8 i) i hlt 4294967295#32 _ ).mono ?_; rintro e u3 ⟨rfl, hb⟩; obtain ⟨hc, hf⟩ := Flow.bcell hb; have hz := hb.size; (try simp only [World.size_alloc, World.size_setCell, World.size_drew] at hz); obtain ⟨z0, z1, z2, z3⟩ := Flow.zs4 (show w.heap.size + 4 ≤ u3.heap.size by omega))
        have X3 := (hb.block _ (by omega)).trans X2
        have A3 := (hb.block _ (by omega)).trans A2
        have R3 := (hb.block _ (by omega)).trans R2
        have O3 := (hb.block _ (by omega)).trans O2
        have B3 : Below w.heap.size w u3 := B2.trans (hb.mono (by omega))
        have zz3 : w.heap.size + 4 ≤ u3.heap.size := by omega
        clear hb hc hf oc of
        obtain ⟨oc, of, ol⟩ := block_cells O3
        obtain ⟨u4, e4, O4, S4⟩ := store4 O3 0 1 2 3 (uv (Rf.setLane (Rf.lanesTo x a 8 i) 8 i 4294967295#32).a) (uv (Rf.setLane (Rf.lanesTo x a 8 i) 8 i 4294967295#32).b) (uv (Rf.setLane (Rf.lanesTo x a 8 i) 8 i 4294967295#32).c) (uv (Rf.setLane (Rf.lanesTo x a 8 i) 8 i 4294967295#32).d)
        go_wp2_with fail
        go_roundg (gk - 1)
        case measure => omega
        case rel => exact ⟨i + 1, by omega, by simp, (S4.other _ (by omega)).trans X3, (S4.other _ (by omega)).trans A3, (S4.other _ (by omega)).trans R3, by unfold Rf.lanesTo; rw [if_pos hd]; exact O4, B3.trans (S4.below _ (by omega)), by rw [S4.size]; exact zz3⟩
    · have hin : i = 16 := by omega
      subst hin
      obtain ⟨oc, of, ol⟩ := block_cells O
      obtain ⟨rc, rf, rl⟩ := block_cells Rr
      go_wp2_with fail
      refine Flow.bodyPost_k rfl (fun K hK => ?_)
      simp only [results, Try.results60]
      go_simp
      refine hK _ ⟨?_, ?_⟩
      · rfl
      · have hle : w.heap.size ≤ w.heap.size + 1 + 1 := by omega
        exact (((B.setCell hle _).setCell hle _).setCell hle _).setCell hle _

set_option maxRecDepth 100000 in
set_option maxHeartbeats 4000000 in
theorem lanesOf16_c (x a : V) (w : World) : Calls Try.prog 60 #[vv x, vv a, iv (16 : Int)] w fun e w' => e = .returned (vv (Rf.lanesTo x a 16 8)) ∧ Below w.heap.size w w' := by
  obtain ⟨X0, A0, R0, O0⟩ := heap_alloc4 w (vcell x) (vcell a) (vcell V.zero) (vcell V.zero)
  have B0 : Below w.heap.size w ((((w.alloc (vcell x)).alloc (vcell a)).alloc (vcell V.zero)).alloc (vcell V.zero)) := by (repeat (first | exact Below.refl _ _ | refine Below.setCell ?_ (by first | omega | (simp <;> omega)) _ | refine Below.alloc ?_ (by first | omega | (simp <;> omega)) _ | refine Below.drew ?_ | refine Below.trans ?_ (Below.mono (by assumption) (by first | omega | (simp <;> omega)))))
  have Z0 : ((((w.alloc (vcell x)).alloc (vcell a)).alloc (vcell V.zero)).alloc (vcell V.zero)).heap.size = w.heap.size + 4 := by simp
  go_enter Try.func60, Try.ntmps60
  go_wp2_with fail
  generalize hu : World.alloc _ _ = u
  have X : u.heap[w.heap.size]? = some (vcell x) := by rw [← hu]; exact X0
  have A : u.heap[w.heap.size + 1]? = some (vcell a) := by rw [← hu]; exact A0
  have Rr : u.heap[w.heap.size + 1 + 1]? = some (vcell V.zero) := by rw [← hu]; exact R0
  have O : u.heap[w.heap.size + 1 + 1 + 1]? = some (vcell V.zero) := by rw [← hu]; exact O0
  have B : Below w.heap.size w u := by rw [← hu]; exact B0
  have Z : w.heap.size + 4 ≤ u.heap.size := by rw [← hu]; exact Nat.le_of_eq Z0.symm
  clear hu X0 A0 R0 O0 B0 Z0
  go_loopg [8] 8 (fun k p wr => ∃ i : Nat, i + k = 8 ∧ p = .int .i64 (i : Int) ∧ wr.heap[w.heap.size]? = some (vcell x) ∧ wr.heap[w.heap.size + 1]? = some (vcell a) ∧ wr.heap[w.heap.size + 1 + 1]? = some (vcell V.zero) ∧
    wr.heap[w.heap.size + 1 + 1 + 1]? = some (vcell (Rf.lanesTo x a 16 i)) ∧ Below w.heap.size w wr ∧ w.heap.size + 4 ≤ wr.heap.size)
  case atStart => exact ⟨0, by omega, rfl, X, A, Rr, O, B, Z⟩
  case round =>
    clear X A Rr O B Z
    obtain ⟨i, hik, rfl, X, A, Rr, O, B, Z⟩ := hrel
    by_cases hlt : i < 8
    · obtain ⟨xc, xf, xl⟩ := block_cells X
      obtain ⟨ac, af, al⟩ := block_cells A
      obtain ⟨oc, of, ol⟩ := block_cells O
      go_wp2_with fail
      refine Flow.wp_region_below 10 (by kernel_rfl) (by kernel_rfl) (fun R hRc hRt => ?_)
      simp only [List.take_succ_cons, List.take_zero, List.drop_succ_cons, List.drop_zero]
      iterate 10
        first
          | refine Flow.flow_skip rfl ?_
          | (apply Flow.flow_step; rfl; (intro w1 hb; have hc := hRc.out w1 hb; go_simp; (first | with_reducible exact ⟨rfl, hb⟩ | (go_at_call 97; refine (lane16_c _ i hlt _ ).mono ?_; rintro e w2 ⟨rfl, hb2⟩; exact ⟨_, rfl, rfl, hRt.out _ _ hb hb2⟩))))
        simp only [Act.put, List.setIfInBounds_toArray, List.set_cons_zero, List.set_cons_succ]
      apply Flow.flow_nil
      clear hRc hRt
      intro w1 hb
      obtain ⟨hc, hf⟩ := Flow.bcell hb
      have hz := hb.size
      (try simp only [World.size_alloc, World.size_setCell, World.size_drew] at hz)
      obtain ⟨z0, z1, z2, z3⟩ := Flow.zs4 (show w.heap.size + 4 ≤ w1.heap.size by omega)
      have X1 := (hb.block _ xl).trans X
      have A1 := (hb.block _ al).trans A
      have R1 := (hb.block _ (by omega)).trans Rr
      have O1 := (hb.block _ ol).trans O
      have B1 : Below w.heap.size w w1 := B.trans (hb.mono (by omega))
      have zz1 : w.heap.size + 4 ≤ w1.heap.size := by omega
      clear hb hc hf xc xf ac af oc of z0 z1 z2 z3
      go_wp2_with fail
      (refine (undecided_c (V.word (Rf.lane x 16 i)) (V.word (Rf.lane a 16 i)) _ ).mono ?_; rintro e u2 ⟨rfl, hb⟩; obtain ⟨hc, hf⟩ := Flow.bcell hb; have hz := hb.size; (try simp only [World.size_alloc, World.size_setCell, World.size_drew] at hz); obtain ⟨z0, z1, z2, z3⟩ := Flow.zs4 (show w.heap.size + 4 ≤ u2.heap.size by omega))
      have X2 := (hb.block _ (by omega)).trans X1
      have A2 := (hb.block _ (by omega)).trans A1
      have R2 := (hb.block _ (by omega)).trans R1
      have O2 := (hb.block _ (by omega)).trans O1
      have B2 : Below w.heap.size w u2 := B1.trans (hb.mono (by omega))
      have zz2 : w.heap.size + 4 ≤ u2.heap.size := by omega
      clear hb hc hf
      obtain ⟨oc, of, ol⟩ := block_cells O2
      cases hd : Rf.undecided (V.word (Rf.lane x 16 i)) (V.word (Rf.lane a 16 i))
      · go_wp2_with fail
        go_roundg (gk - 1)
        case measure => omega
        case rel => exact ⟨i + 1, by omega, by simp, X2, A2, R2, by unfold Rf.lanesTo; rw [hd]; exact O2, B2, zz2⟩
      · go_wp2_with fail
        (refine (setLane16_c (Rf.lanesTo x a 16 i) i hlt 4294967295#32 _ ).mono ?_; rintro e u3 ⟨rfl, hb⟩; obtain ⟨hc, hf⟩ := Flow.bcell hb; have hz := hb.size; (try simp only [World.size_alloc, World.size_setCell, World.size_drew] at hz); obtain ⟨z0, z1, z2, z3⟩ := Flow.zs4 (show w.heap.size + 4 ≤ u3.heap.size by omega))
        have X3 := (hb.block _ (by omega)).trans X2
        have A3 := (hb.block _ (by omega)).trans A2
        have R3 := (hb.block _ (by omega)).trans R2
        have O3 := (hb.block _ (by omega)).trans O2
        have B3 : Below w.heap.size w u3 := B2.trans (hb.mono (by omega))
        have zz3 : w.heap.size + 4 ≤ u3.heap.size := by omega
        clear hb hc hf oc of
        obtain ⟨oc, of, ol⟩ := block_cells O3
        obtain ⟨u4, e4, O4, S4⟩ := store4 O3 0 1 2 3 (uv (Rf.setLane (Rf.lanesTo x a 16 i) 16 i 4294967295#32).a) (uv (Rf.setLane (Rf.lanesTo x a 16 i) 16 i 4294967295#32).b) (uv (Rf.setLane (Rf.lanesTo x a 16 i) 16 i 4294967295#32).c) (uv (Rf.setLane (Rf.lanesTo x a 16 i) 16 i 4294967295#32).d)
        go_wp2_with fail
        go_roundg (gk - 1)
        case measure => omega
        case rel => exact ⟨i + 1, by omega, by simp, (S4.other _ (by omega)).trans X3, (S4.other _ (by omega)).trans A3, (S4.other _ (by omega)).trans R3, by unfold Rf.lanesTo; rw [if_pos hd]; exact O4, B3.trans (S4.below _ (by omega)), by rw [S4.size]; exact zz3⟩
    · have hin : i = 8 := by omega
      subst hin
      obtain ⟨oc, of, ol⟩ := block_cells O
      obtain ⟨rc, rf, rl⟩ := block_cells Rr
      go_wp2_with fail
      refine Flow.bodyPost_k rfl (fun K hK => ?_)
      simp only [results, Try.results60]
      go_simp
      refine hK _ ⟨?_, ?_⟩
      · rfl
      · have hle : w.heap.size ≤ w.heap.size + 1 + 1 := by omega
        exact (((B.setCell hle _).setCell hle _).setCell hle _).setCell hle _

set_option maxRecDepth 100000 in
set_option maxHeartbeats 4000000 in
theorem lanesOf32_c (x a : V) (w : World) : Calls Try.prog 60 #[vv x, vv a, iv (32 : Int)] w fun e w' => e = .returned (vv (Rf.lanesTo x a 32 4)) ∧ Below w.heap.size w w' := by
  obtain ⟨X0, A0, R0, O0⟩ := heap_alloc4 w (vcell x) (vcell a) (vcell V.zero) (vcell V.zero)
  have B0 : Below w.heap.size w ((((w.alloc (vcell x)).alloc (vcell a)).alloc (vcell V.zero)).alloc (vcell V.zero)) := by (repeat (first | exact Below.refl _ _ | refine Below.setCell ?_ (by first | omega | (simp <;> omega)) _ | refine Below.alloc ?_ (by first | omega | (simp <;> omega)) _ | refine Below.drew ?_ | refine Below.trans ?_ (Below.mono (by assumption) (by first | omega | (simp <;> omega)))))
  have Z0 : ((((w.alloc (vcell x)).alloc (vcell a)).alloc (vcell V.zero)).alloc (vcell V.zero)).heap.size = w.heap.size + 4 := by simp
  go_enter Try.func60, Try.ntmps60
  go_wp2_with fail
  generalize hu : World.alloc _ _ = u
  have X : u.heap[w.heap.size]? = some (vcell x) := by rw [← hu]; exact X0
  have A : u.heap[w.heap.size + 1]? = some (vcell a) := by rw [← hu]; exact A0
  have Rr : u.heap[w.heap.size + 1 + 1]? = some (vcell V.zero) := by rw [← hu]; exact R0
  have O : u.heap[w.heap.size + 1 + 1 + 1]? = some (vcell V.zero) := by rw [← hu]; exact O0
  have B : Below w.heap.size w u := by rw [← hu]; exact B0
  have Z : w.heap.size + 4 ≤ u.heap.size := by rw [← hu]; exact Nat.le_of_eq Z0.symm
  clear hu X0 A0 R0 O0 B0 Z0
  go_loopg [8] 4 (fun k p wr => ∃ i : Nat, i + k = 4 ∧ p = .int .i64 (i : Int) ∧ wr.heap[w.heap.size]? = some (vcell x) ∧ wr.heap[w.heap.size + 1]? = some (vcell a) ∧ wr.heap[w.heap.size + 1 + 1]? = some (vcell V.zero) ∧
    wr.heap[w.heap.size + 1 + 1 + 1]? = some (vcell (Rf.lanesTo x a 32 i)) ∧ Below w.heap.size w wr ∧ w.heap.size + 4 ≤ wr.heap.size)
  case atStart => exact ⟨0, by omega, rfl, X, A, Rr, O, B, Z⟩
  case round =>
    clear X A Rr O B Z
    obtain ⟨i, hik, rfl, X, A, Rr, O, B, Z⟩ := hrel
    by_cases hlt : i < 4
    · obtain ⟨xc, xf, xl⟩ := block_cells X
      obtain ⟨ac, af, al⟩ := block_cells A
      obtain ⟨oc, of, ol⟩ := block_cells O
      go_wp2_with fail
      refine Flow.wp_region_below 10 (by kernel_rfl) (by kernel_rfl) (fun R hRc hRt => ?_)
      simp only [List.take_succ_cons, List.take_zero, List.drop_succ_cons, List.drop_zero]
      iterate 10
        first
          | refine Flow.flow_skip rfl ?_
          | (apply Flow.flow_step; rfl; (intro w1 hb; have hc := hRc.out w1 hb; go_simp; (first | with_reducible exact ⟨rfl, hb⟩ | (go_at_call 97; refine (lane32_c _ i hlt _ ).mono ?_; rintro e w2 ⟨rfl, hb2⟩; exact ⟨_, rfl, rfl, hRt.out _ _ hb hb2⟩))))
        simp only [Act.put, List.setIfInBounds_toArray, List.set_cons_zero, List.set_cons_succ]
      apply Flow.flow_nil
      clear hRc hRt
      intro w1 hb
      obtain ⟨hc, hf⟩ := Flow.bcell hb
      have hz := hb.size
      (try simp only [World.size_alloc, World.size_setCell, World.size_drew] at hz)
      obtain ⟨z0, z1, z2, z3⟩ := Flow.zs4 (show w.heap.size + 4 ≤ w1.heap.size by omega)
      have X1 := (hb.block _ xl).trans X
      have A1 := (hb.block _ al).trans A
      have R1 := (hb.block _ (by omega)).trans Rr
      have O1 := (hb.block _ ol).trans O
      have B1 : Below w.heap.size w w1 := B.trans (hb.mono (by omega))
      have zz1 : w.heap.size + 4 ≤ w1.heap.size := by omega
      clear hb hc hf xc xf ac af oc of z0 z1 z2 z3
      go_wp2_with fail
      (refine (undecided_c (V.word (Rf.lane x 32 i)) (V.word (Rf.lane a 32 i)) _ ).mono ?_; rintro e u2 ⟨rfl, hb⟩; obtain ⟨hc, hf⟩ := Flow.bcell hb; have hz := hb.size; (try simp only [World.size_alloc, World.size_setCell, World.size_drew] at hz); obtain ⟨z0, z1, z2, z3⟩ := Flow.zs4 (show w.heap.size + 4 ≤ u2.heap.size by omega))
      have X2 := (hb.block _ (by omega)).trans X1
      have A2 := (hb.block _ (by omega)).trans A1
      have R2 := (hb.block _ (by omega)).trans R1
      have O2 := (hb.block _ (by omega)).trans O1
      have B2 : Below w.heap.size w u2 := B1.trans (hb.mono (by omega))
      have zz2 : w.heap.size + 4 ≤ u2.heap.size := by omega
      clear hb hc hf
      obtain ⟨oc, of, ol⟩ := block_cells O2
      cases hd : Rf.undecided (V.word (Rf.lane x 32 i)) (V.word (Rf.lane a 32 i))
      · go_wp2_with fail
        go_roundg (gk - 1)
        case measure => omega
        case rel => exact ⟨i + 1, by omega, by simp, X2, A2, R2, by unfold Rf.lanesTo; rw [hd]; exact O2, B2, zz2⟩
      · go_wp2_with fail
        (refine (setLane32_c (Rf.lanesTo x a 32 i) i hlt 4294967295#32 _ ).mono ?_; rintro e u3 ⟨rfl, hb⟩; obtain ⟨hc, hf⟩ := Flow.bcell hb; have hz := hb.size; (try simp only [World.size_alloc, World.size_setCell, World.size_drew] at hz); obtain ⟨z0, z1, z2, z3⟩ := Flow.zs4 (show w.heap.size + 4 ≤ u3.heap.size by omega))
        have X3 := (hb.block _ (by omega)).trans X2
        have A3 := (hb.block _ (by omega)).trans A2
        have R3 := (hb.block _ (by omega)).trans R2
        have O3 := (hb.block _ (by omega)).trans O2
        have B3 : Below w.heap.size w u3 := B2.trans (hb.mono (by omega))
        have zz3 : w.heap.size + 4 ≤ u3.heap.size := by omega
        clear hb hc hf oc of
        obtain ⟨oc, of, ol⟩ := block_cells O3
        obtain ⟨u4, e4, O4, S4⟩ := store4 O3 0 1 2 3 (uv (Rf.setLane (Rf.lanesTo x a 32 i) 32 i 4294967295#32).a) (uv (Rf.setLane (Rf.lanesTo x a 32 i) 32 i 4294967295#32).b) (uv (Rf.setLane (Rf.lanesTo x a 32 i) 32 i 4294967295#32).c) (uv (Rf.setLane (Rf.lanesTo x a 32 i) 32 i 4294967295#32).d)
        go_wp2_with fail
        go_roundg (gk - 1)
        case measure => omega
        case rel => exact ⟨i + 1, by omega, by simp, (S4.other _ (by omega)).trans X3, (S4.other _ (by omega)).trans A3, (S4.other _ (by omega)).trans R3, by unfold Rf.lanesTo; rw [if_pos hd]; exact O4, B3.trans (S4.below _ (by omega)), by rw [S4.size]; exact zz3⟩
    · have hin : i = 4 := by omega
      subst hin
      obtain ⟨oc, of, ol⟩ := block_cells O
      obtain ⟨rc, rf, rl⟩ := block_cells Rr
      go_wp2_with fail
      refine Flow.bodyPost_k rfl (fun K hK => ?_)
      simp only [results, Try.results60]
      go_simp
      refine hK _ ⟨?_, ?_⟩
      · rfl
      · have hle : w.heap.size ≤ w.heap.size + 1 + 1 := by omega
        exact (((B.setCell hle _).setCell hle _).setCell hle _).setCell hle _

end Go.Proofs.Ytboknfppecgjmaa
