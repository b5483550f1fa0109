/- VbitsLanes: the walk. -/
import Derived.Test.YtboknfppecgjmaaCommutes
import Derived.Test.YtboknfppecgjmaaFlowS
import Derived.Test.YtboknfppecgjmaaFlowT
import Derived.Test.YtboknfppecgjmaaPlainC
namespace Go.Proofs.Ytboknfppecgjmaa
set_option linter.unusedVariables false
set_option linter.unusedSimpArgs false
open Go.RowKit Go.Shelf
attribute [local go_sem] U_eq_zero
abbrev LbinC (op : Int) (p c q d : BitVec 32) (s : V) : Prop := ∀ w, Calls Try.prog 29 #[iv op, uv p, uv c, uv q, uv d] w fun e w' => e = .returned (.tuple #[vv s, iv 0]) ∧ Below w.heap.size w w'
theorem lbin_gives {op : Int} {p c q d : BitVec 32} {s : V} (h : Vb.bin op 32 0 (V.word p) (V.word c) (V.word q) (V.word d) = (s, 0)) : LbinC op p c q d s := by
  intro w
  have h2 := lbin_c op p c q d w
  rw [h] at h2
  exact h2
abbrev UnC (op ty to off : Int) (x a s : V) : Prop := ∀ w, Calls Try.prog 30 #[iv op, iv ty, iv to, iv off, vv x, vv a] w fun e w' => e = .returned (.tuple #[vv s, iv 0]) ∧ Below w.heap.size w w'
theorem un_gives {op ty to off : Int} {x a s : V} (h : Vb.un op ty to off x a = (s, 0)) : UnC op ty to off x a s := by
  intro w
  have h2 := un_c op ty to off x a w
  rw [h] at h2
  exact h2







set_option maxRecDepth 100000 in
set_option maxHeartbeats 16000000 in
theorem vlanes_w (HS : Hid SaneC) (x a y b add sub eq e0 e1 e2 e3 : V) (w : World) (H1 : Hid (BinC 22 128 0 x a y b add 0)) (H2 : Hid (BinC 25 128 0 x a y b sub 0)) (H3 : Hid (BinC 28 128 0 x a y b eq 0))
    (A0 : Hid (LbinC 1 x.a a.a y.a b.a (V.word add.a))) (B0 : Hid (LbinC 2 x.a a.a y.a b.a (V.word sub.a))) (E0 : Hid (LbinC 14 x.a a.a y.a b.a e0)) (F0 : Hid (UnC 6 1 32 0 (V.word 0#32) e0 (V.word eq.a))) (A1 : Hid (LbinC 1 x.b a.b y.b b.b (V.word add.b))) (B1 : Hid (LbinC 2 x.b a.b y.b b.b (V.word sub.b))) (E1 : Hid (LbinC 14 x.b a.b y.b b.b e1)) (F1 : Hid (UnC 6 1 32 0 (V.word 0#32) e1 (V.word eq.b))) (A2 : Hid (LbinC 1 x.c a.c y.c b.c (V.word add.c))) (B2 : Hid (LbinC 2 x.c a.c y.c b.c (V.word sub.c))) (E2 : Hid (LbinC 14 x.c a.c y.c b.c e2)) (F2 : Hid (UnC 6 1 32 0 (V.word 0#32) e2 (V.word eq.c))) (A3 : Hid (LbinC 1 x.d a.d y.d b.d (V.word add.d))) (B3 : Hid (LbinC 2 x.d a.d y.d b.d (V.word sub.d))) (E3 : Hid (LbinC 14 x.d a.d y.d b.d e3)) (F3 : Hid (UnC 6 1 32 0 (V.word 0#32) e3 (V.word eq.d))) :
    Calls Try.prog 8 #[vv x, vv a, vv y, vv b] w fun e w' => e = .returned (.bool true) ∧ Below w.heap.size w w' := by
  go_enter Try.func8, Try.ntmps8
  go_wp2_with (go_at_call 11; refine (HS.out _ ).mono ?_; rintro e w1 ⟨rfl, hb⟩; obtain ⟨hc, hf⟩ := Flow.bcell hb; have hz := hb.size; (try simp only [World.size_alloc, World.size_setCell, World.size_drew] at hz); obtain ⟨z0, z1, z2, z3⟩ := Flow.zs4 (show w.heap.size + 4 ≤ w1.heap.size by omega))
  (refine (H1.out _ ).mono ?_; rintro e u1 ⟨rfl, hb⟩; obtain ⟨hc, hf⟩ := Flow.bcell hb; have hz := hb.size; (try simp only [World.size_alloc, World.size_setCell, World.size_drew] at hz); obtain ⟨z0, z1, z2, z3⟩ := Flow.zs4 (show w.heap.size + 4 ≤ u1.heap.size by omega))
  go_wp2_with fail
  (refine (H2.out _ ).mono ?_; rintro e u2 ⟨rfl, hb⟩; obtain ⟨hc, hf⟩ := Flow.bcell hb; have hz := hb.size; (try simp only [World.size_alloc, World.size_setCell, World.size_drew] at hz); obtain ⟨z0, z1, z2, z3⟩ := Flow.zs4 (show w.heap.size + 4 ≤ u2.heap.size by omega))
  have h12 : u1.heap.size < u2.heap.size := by omega
  go_wp2_with fail
  (refine (H3.out _ ).mono ?_; rintro e u3 ⟨rfl, hb⟩; obtain ⟨hc, hf⟩ := Flow.bcell hb; have hz := hb.size; (try simp only [World.size_alloc, World.size_setCell, World.size_drew] at hz); obtain ⟨z0, z1, z2, z3⟩ := Flow.zs4 (show w.heap.size + 4 ≤ u3.heap.size by omega))
  have h13 : u1.heap.size < u3.heap.size := by omega
  have h23 : u2.heap.size < u3.heap.size := by omega
  go_wp2_with fail
  refine wp_loop_rounds 5 ?_
  rw [rounds_succ]
  go_wp2_with fail
  refine FlowS.wp_region_store 16 17 18 16 _ (uv 0#32) (uv 0#32) (uv 0#32) (uv 0#32) (uv (V.word add.a).a) (uv (V.word add.a).b) (uv (V.word add.a).c) (uv (V.word add.a).d) 24 rfl rfl rfl (fun a w => by kernel_rfl) (by kernel_rfl) (by omega) (by omega) (by kernel_rfl) (by kernel_rfl) (fun R hRc hRt hRo hRs => ?_)
  simp only [List.take_succ_cons, List.take_zero, List.drop_succ_cons, List.drop_zero]
  iterate 18
    first
      | (refine FlowS.flow_make rfl ?_)
      | (refine FlowS.flow_store rfl rfl rfl ?_ ?_; (intro b1 w1 hb; have hzb := hRo.out b1 w1 hb; obtain ⟨hoc, hof, hos⟩ := FlowA.made_cells hzb; clear hzb; simp only [Act.put, List.setIfInBounds_toArray, List.set_cons_zero, List.set_cons_succ]; go_simp; exact hRs.out _ _ hb))
      | refine FlowS.flow_skip rfl rfl rfl ?_
      | (apply FlowS.flow_step; rfl; rfl; rfl; (intro s1 w1 hb; have hc := hRc.out s1 w1 hb; go_simp; (first | with_reducible exact ⟨rfl, hb⟩ | (go_at_call 29; refine (A0.out _ ).mono ?_; rintro e w2 ⟨rfl, hb2⟩; exact ⟨_, rfl, rfl, hRt.out _ _ _ hb hb2⟩))))
    simp only [Act.put, List.setIfInBounds_toArray, List.set_cons_zero, List.set_cons_succ]
  apply FlowS.flow_nil
  clear hRc hRt hRo hRs
  intro bp0 p0 hb hbb hob
  simp only [Act.put, List.setIfInBounds_toArray, List.set_cons_zero, List.set_cons_succ]
  obtain ⟨hc, hf⟩ := Flow.bcell hb
  have hz := hb.size
  (try simp only [World.size_alloc, World.size_setCell, World.size_drew] at hz)
  (try simp only [World.size_alloc, World.size_setCell, World.size_drew] at hbb)
  obtain ⟨hoc, hof, hos⟩ := FlowA.made_cells hob
  clear hob
  obtain ⟨z0, z1, z2, z3⟩ := Flow.zs4 (show w.heap.size + 4 ≤ p0.heap.size by omega)
  have k_u1_p0 : u1.heap.size < p0.heap.size := by omega
  have k_u2_p0 : u2.heap.size < p0.heap.size := by omega
  have k_u3_p0 : u3.heap.size < p0.heap.size := by omega
  have hn_u1_p0 : u1.heap.size < bp0 := by omega
  have hn_u2_p0 : u2.heap.size < bp0 := by omega
  have hn_u3_p0 : u3.heap.size < bp0 := by omega
  have hw0_p0 : w.heap.size + 0 < bp0 := by omega
  have hw1_p0 : w.heap.size + 1 < bp0 := by omega
  have hw2_p0 : w.heap.size + 2 < bp0 := by omega
  have hw3_p0 : w.heap.size + 3 < bp0 := by omega
  go_wp2_with fail
  refine FlowS.wp_region_store 16 17 18 18 _ (uv 0#32) (uv 0#32) (uv 0#32) (uv 0#32) (uv (V.word sub.a).a) (uv (V.word sub.a).b) (uv (V.word sub.a).c) (uv (V.word sub.a).d) 24 rfl rfl rfl (fun a w => by kernel_rfl) (by kernel_rfl) (by omega) (by omega) (by kernel_rfl) (by kernel_rfl) (fun R hRc hRt hRo hRs => ?_)
  simp only [List.take_succ_cons, List.take_zero, List.drop_succ_cons, List.drop_zero]
  iterate 18
    first
      | (refine FlowS.flow_make rfl ?_)
      | (refine FlowS.flow_store rfl rfl rfl ?_ ?_; (intro b1 w1 hb; have hzb := hRo.out b1 w1 hb; obtain ⟨hoc, hof, hos⟩ := FlowA.made_cells hzb; clear hzb; simp only [Act.put, List.setIfInBounds_toArray, List.set_cons_zero, List.set_cons_succ]; go_simp; exact hRs.out _ _ hb))
      | refine FlowS.flow_skip rfl rfl rfl ?_
      | (apply FlowS.flow_step; rfl; rfl; rfl; (intro s1 w1 hb; have hc := hRc.out s1 w1 hb; go_simp; (first | with_reducible exact ⟨rfl, hb⟩ | (go_at_call 29; refine (B0.out _ ).mono ?_; rintro e w2 ⟨rfl, hb2⟩; exact ⟨_, rfl, rfl, hRt.out _ _ _ hb hb2⟩))))
    simp only [Act.put, List.setIfInBounds_toArray, List.set_cons_zero, List.set_cons_succ]
  apply FlowS.flow_nil
  clear hRc hRt hRo hRs
  intro bq0 q0 hb hbb hob
  simp only [Act.put, List.setIfInBounds_toArray, List.set_cons_zero, List.set_cons_succ]
  obtain ⟨hc, hf⟩ := Flow.bcell hb
  have hz := hb.size
  (try simp only [World.size_alloc, World.size_setCell, World.size_drew] at hz)
  (try simp only [World.size_alloc, World.size_setCell, World.size_drew] at hbb)
  obtain ⟨hoc, hof, hos⟩ := FlowA.made_cells hob
  clear hob
  obtain ⟨z0, z1, z2, z3⟩ := Flow.zs4 (show w.heap.size + 4 ≤ q0.heap.size by omega)
  have k_u1_q0 : u1.heap.size < q0.heap.size := by omega
  have k_u2_q0 : u2.heap.size < q0.heap.size := by omega
  have k_u3_q0 : u3.heap.size < q0.heap.size := by omega
  have k_bp0_q0 : bp0 < q0.heap.size := by omega
  have hn_u1_q0 : u1.heap.size < bq0 := by omega
  have hn_u2_q0 : u2.heap.size < bq0 := by omega
  have hn_u3_q0 : u3.heap.size < bq0 := by omega
  have hn_bp0_q0 : bp0 < bq0 := by omega
  have hw0_q0 : w.heap.size + 0 < bq0 := by omega
  have hw1_q0 : w.heap.size + 1 < bq0 := by omega
  have hw2_q0 : w.heap.size + 2 < bq0 := by omega
  have hw3_q0 : w.heap.size + 3 < bq0 := by omega
  go_wp2_with fail
  refine FlowS.wp_region_store 16 17 18 20 _ (uv 0#32) (uv 0#32) (uv 0#32) (uv 0#32) (uv (e0).a) (uv (e0).b) (uv (e0).c) (uv (e0).d) 24 rfl rfl rfl (fun a w => by kernel_rfl) (by kernel_rfl) (by omega) (by omega) (by kernel_rfl) (by kernel_rfl) (fun R hRc hRt hRo hRs => ?_)
  simp only [List.take_succ_cons, List.take_zero, List.drop_succ_cons, List.drop_zero]
  iterate 18
    first
      | (refine FlowS.flow_make rfl ?_)
      | (refine FlowS.flow_store rfl rfl rfl ?_ ?_; (intro b1 w1 hb; have hzb := hRo.out b1 w1 hb; obtain ⟨hoc, hof, hos⟩ := FlowA.made_cells hzb; clear hzb; simp only [Act.put, List.setIfInBounds_toArray, List.set_cons_zero, List.set_cons_succ]; go_simp; exact hRs.out _ _ hb))
      | refine FlowS.flow_skip rfl rfl rfl ?_
      | (apply FlowS.flow_step; rfl; rfl; rfl; (intro s1 w1 hb; have hc := hRc.out s1 w1 hb; go_simp; (first | with_reducible exact ⟨rfl, hb⟩ | (go_at_call 29; refine (E0.out _ ).mono ?_; rintro e w2 ⟨rfl, hb2⟩; exact ⟨_, rfl, rfl, hRt.out _ _ _ hb hb2⟩))))
    simp only [Act.put, List.setIfInBounds_toArray, List.set_cons_zero, List.set_cons_succ]
  apply FlowS.flow_nil
  clear hRc hRt hRo hRs
  intro br0 r0 hb hbb hob
  simp only [Act.put, List.setIfInBounds_toArray, List.set_cons_zero, List.set_cons_succ]
  obtain ⟨hc, hf⟩ := Flow.bcell hb
  have hz := hb.size
  (try simp only [World.size_alloc, World.size_setCell, World.size_drew] at hz)
  (try simp only [World.size_alloc, World.size_setCell, World.size_drew] at hbb)
  obtain ⟨hoc, hof, hos⟩ := FlowA.made_cells hob
  clear hob
  obtain ⟨z0, z1, z2, z3⟩ := Flow.zs4 (show w.heap.size + 4 ≤ r0.heap.size by omega)
  have k_u1_r0 : u1.heap.size < r0.heap.size := by omega
  have k_u2_r0 : u2.heap.size < r0.heap.size := by omega
  have k_u3_r0 : u3.heap.size < r0.heap.size := by omega
  have k_bp0_r0 : bp0 < r0.heap.size := by omega
  have k_bq0_r0 : bq0 < r0.heap.size := by omega
  have hn_u1_r0 : u1.heap.size < br0 := by omega
  have hn_u2_r0 : u2.heap.size < br0 := by omega
  have hn_u3_r0 : u3.heap.size < br0 := by omega
  have hn_bp0_r0 : bp0 < br0 := by omega
  have hn_bq0_r0 : bq0 < br0 := by omega
  have hw0_r0 : w.heap.size + 0 < br0 := by omega
  have hw1_r0 : w.heap.size + 1 < br0 := by omega
  have hw2_r0 : w.heap.size + 2 < br0 := by omega
  have hw3_r0 : w.heap.size + 3 < br0 := by omega
  go_wp2_with fail
  refine FlowT.wp_region_put 6 7 (br0) (uv (V.word eq.a).a) (uv (V.word eq.a).b) (uv (V.word eq.a).c) (uv (V.word eq.a).d) (by omega) (by kernel_rfl) (by kernel_rfl) (fun R hRc hRf hRt hRs => ?_)
  simp only [List.take_succ_cons, List.take_zero, List.drop_succ_cons, List.drop_zero]
  iterate 7
    first
      | (refine FlowT.flow_store rfl rfl ?_ ?_; (intro w1 hb; have hc := hRc.out w1 hb; have hf := hRf.out w1 hb; go_simp; exact hRs.out _ hb))
      | (apply FlowT.flow_step; rfl; rfl; rfl; (intro w1 hb; have hc := hRc.out w1 hb; go_simp; (first | with_reducible exact ⟨rfl, hb⟩ | (go_at_call 31; refine (v_c _ _).mono ?_; rintro e w2 ⟨rfl, hb2⟩; exact ⟨_, rfl, rfl, hRt.out _ _ hb hb2⟩) | (go_at_call 30; refine (F0.out _ ).mono ?_; rintro e w2 ⟨rfl, hb2⟩; exact ⟨_, rfl, rfl, hRt.out _ _ hb hb2⟩))))
      | (apply FlowT.flow_pure; rfl; rfl; (intro s1 w1 hb; go_simp; with_reducible exact ⟨rfl, hb⟩))
    simp only [Act.put, List.setIfInBounds_toArray, List.set_cons_zero, List.set_cons_succ]
  apply FlowT.flow_nil
  clear hRc hRf hRt hRs
  intro s0 hb
  obtain ⟨hc, hf⟩ := Flow.bcell hb
  have hz := hb.size
  (try simp only [World.size_alloc, World.size_setCell, World.size_drew] at hz)
  obtain ⟨z0, z1, z2, z3⟩ := Flow.zs4 (show w.heap.size + 4 ≤ s0.heap.size by omega)
  have k_u1_s0 : u1.heap.size < s0.heap.size := by omega
  have k_u2_s0 : u2.heap.size < s0.heap.size := by omega
  have k_u3_s0 : u3.heap.size < s0.heap.size := by omega
  have k_bp0_s0 : bp0 < s0.heap.size := by omega
  have k_bq0_s0 : bq0 < s0.heap.size := by omega
  have k_br0_s0 : br0 < s0.heap.size := by omega
  go_wp2_with fail
  refine Flow.wp_region_below 37 (by kernel_rfl) (by kernel_rfl) (fun R hRc hRt => ?_)
  simp only [List.take_succ_cons, List.take_zero, List.drop_succ_cons, List.drop_zero]
  iterate 37
    first
      | refine Flow.flow_skip rfl ?_
      | (apply Flow.flow_step; rfl; (intro w1 hb; have hc := hRc.out w1 hb; go_simp; (first | with_reducible exact ⟨rfl, hb⟩)))
      | (apply Flow.flow_guardT rfl rfl rfl; (intro hg w1 hb; have hc := hRc.out w1 hb; go_simp; (first | with_reducible exact ⟨rfl, hb⟩)))
      | (apply Flow.flow_guardF rfl rfl rfl; (intro hg w1 hb; have hc := hRc.out w1 hb; go_simp; (first | with_reducible exact ⟨rfl, hb⟩)))
      | (apply Flow.flow_guardT2 rfl rfl rfl; (intro hp hg w1 hb; have hc := hRc.out w1 hb; go_simp; (first | with_reducible exact ⟨rfl, hb⟩)))
      | (apply Flow.flow_guardF2 rfl rfl rfl; (intro hp hg w1 hb; have hc := hRc.out w1 hb; go_simp; (first | with_reducible exact ⟨rfl, hb⟩)))
    simp only [Act.put, List.setIfInBounds_toArray, List.set_cons_zero, List.set_cons_succ]
  apply Flow.flow_nil
  clear hRc hRt
  intro w1 hb
  obtain ⟨hc, hf⟩ := Flow.bcell hb
  have hz := hb.size
  (try simp only [World.size_alloc, World.size_setCell, World.size_drew] at hz)
  obtain ⟨z0, z1, z2, z3⟩ := Flow.zs4 (show w.heap.size + 4 ≤ w1.heap.size by omega)
  obtain ⟨t0, hqt0⟩ : ∃ z : World, z = w1 := ⟨_, rfl⟩
  subst hqt0
  have k_u1_t0 : u1.heap.size < t0.heap.size := by omega
  have k_u2_t0 : u2.heap.size < t0.heap.size := by omega
  have k_u3_t0 : u3.heap.size < t0.heap.size := by omega
  go_wp2_with fail
  have g000 : t0.cell? ⟨w.heap.size, 0, none⟩ = some (uv x.a) := by go_simp
  have g001 : t0.cell? ⟨w.heap.size, 1, none⟩ = some (uv x.b) := by go_simp
  have g002 : t0.cell? ⟨w.heap.size, 2, none⟩ = some (uv x.c) := by go_simp
  have g003 : t0.cell? ⟨w.heap.size, 3, none⟩ = some (uv x.d) := by go_simp
  have g010 : t0.cell? ⟨w.heap.size + 1, 0, none⟩ = some (uv a.a) := by go_simp
  have g011 : t0.cell? ⟨w.heap.size + 1, 1, none⟩ = some (uv a.b) := by go_simp
  have g012 : t0.cell? ⟨w.heap.size + 1, 2, none⟩ = some (uv a.c) := by go_simp
  have g013 : t0.cell? ⟨w.heap.size + 1, 3, none⟩ = some (uv a.d) := by go_simp
  have g020 : t0.cell? ⟨w.heap.size + 1 + 1, 0, none⟩ = some (uv y.a) := by go_simp
  have g021 : t0.cell? ⟨w.heap.size + 1 + 1, 1, none⟩ = some (uv y.b) := by go_simp
  have g022 : t0.cell? ⟨w.heap.size + 1 + 1, 2, none⟩ = some (uv y.c) := by go_simp
  have g023 : t0.cell? ⟨w.heap.size + 1 + 1, 3, none⟩ = some (uv y.d) := by go_simp
  have g030 : t0.cell? ⟨w.heap.size + 1 + 1 + 1, 0, none⟩ = some (uv b.a) := by go_simp
  have g031 : t0.cell? ⟨w.heap.size + 1 + 1 + 1, 1, none⟩ = some (uv b.b) := by go_simp
  have g032 : t0.cell? ⟨w.heap.size + 1 + 1 + 1, 2, none⟩ = some (uv b.c) := by go_simp
  have g033 : t0.cell? ⟨w.heap.size + 1 + 1 + 1, 3, none⟩ = some (uv b.d) := by go_simp
  have h000 : t0.cell? ⟨u1.heap.size, 0, none⟩ = some (uv add.a) := by go_simp
  have h001 : t0.cell? ⟨u1.heap.size, 1, none⟩ = some (uv add.b) := by go_simp
  have h002 : t0.cell? ⟨u1.heap.size, 2, none⟩ = some (uv add.c) := by go_simp
  have h003 : t0.cell? ⟨u1.heap.size, 3, none⟩ = some (uv add.d) := by go_simp
  have h010 : t0.cell? ⟨u2.heap.size, 0, none⟩ = some (uv sub.a) := by go_simp
  have h011 : t0.cell? ⟨u2.heap.size, 1, none⟩ = some (uv sub.b) := by go_simp
  have h012 : t0.cell? ⟨u2.heap.size, 2, none⟩ = some (uv sub.c) := by go_simp
  have h013 : t0.cell? ⟨u2.heap.size, 3, none⟩ = some (uv sub.d) := by go_simp
  have h020 : t0.cell? ⟨u3.heap.size, 0, none⟩ = some (uv eq.a) := by go_simp
  have h021 : t0.cell? ⟨u3.heap.size, 1, none⟩ = some (uv eq.b) := by go_simp
  have h022 : t0.cell? ⟨u3.heap.size, 2, none⟩ = some (uv eq.c) := by go_simp
  have h023 : t0.cell? ⟨u3.heap.size, 3, none⟩ = some (uv eq.d) := by go_simp
  have gb0 : Below w.heap.size w t0 := by (repeat (first | exact Below.refl _ _ | refine Below.setCell ?_ (by first | omega | (simp <;> omega)) _ | refine Below.alloc ?_ (by first | omega | (simp <;> omega)) _ | refine Below.drew ?_ | refine Below.trans ?_ (Below.mono (by assumption) (by first | omega | (simp <;> omega)))))
  have gs00 : w.heap.size < t0.heap.size := by omega
  have gs01 : w.heap.size + 1 < t0.heap.size := by omega
  have gs02 : w.heap.size + 1 + 1 < t0.heap.size := by omega
  have gs03 : w.heap.size + 1 + 1 + 1 < t0.heap.size := by omega
  revert g000 g001 g002 g003 g010 g011 g012 g013 g020 g021 g022 g023 g030 g031 g032 g033 h000 h001 h002 h003 h010 h011 h012 h013 h020 h021 h022 h023 gb0 gs00 gs01 gs02 gs03 k_u1_t0 k_u2_t0 k_u3_t0
  generalize t0 = T0
  intro g000 g001 g002 g003 g010 g011 g012 g013 g020 g021 g022 g023 g030 g031 g032 g033 h000 h001 h002 h003 h010 h011 h012 h013 h020 h021 h022 h023 gb0 gs00 gs01 gs02 gs03 k_u1_t0 k_u2_t0 k_u3_t0
  rw [rounds_succ]
  go_wp2_with fail
  refine FlowS.wp_region_store 16 17 18 16 _ (uv 0#32) (uv 0#32) (uv 0#32) (uv 0#32) (uv (V.word add.b).a) (uv (V.word add.b).b) (uv (V.word add.b).c) (uv (V.word add.b).d) 24 rfl rfl rfl (fun a w => by kernel_rfl) (by kernel_rfl) (by omega) (by omega) (by kernel_rfl) (by kernel_rfl) (fun R hRc hRt hRo hRs => ?_)
  simp only [List.take_succ_cons, List.take_zero, List.drop_succ_cons, List.drop_zero]
  iterate 18
    first
      | (refine FlowS.flow_make rfl ?_)
      | (refine FlowS.flow_store rfl rfl rfl ?_ ?_; (intro b1 w1 hb; have hzb := hRo.out b1 w1 hb; obtain ⟨hoc, hof, hos⟩ := FlowA.made_cells hzb; clear hzb; simp only [Act.put, List.setIfInBounds_toArray, List.set_cons_zero, List.set_cons_succ]; go_simp; exact hRs.out _ _ hb))
      | refine FlowS.flow_skip rfl rfl rfl ?_
      | (apply FlowS.flow_step; rfl; rfl; rfl; (intro s1 w1 hb; have hc := hRc.out s1 w1 hb; go_simp; (first | with_reducible exact ⟨rfl, hb⟩ | (go_at_call 29; refine (A1.out _ ).mono ?_; rintro e w2 ⟨rfl, hb2⟩; exact ⟨_, rfl, rfl, hRt.out _ _ _ hb hb2⟩))))
    simp only [Act.put, List.setIfInBounds_toArray, List.set_cons_zero, List.set_cons_succ]
  apply FlowS.flow_nil
  clear hRc hRt hRo hRs
  intro bp1 p1 hb hbb hob
  simp only [Act.put, List.setIfInBounds_toArray, List.set_cons_zero, List.set_cons_succ]
  obtain ⟨hc, hf⟩ := Flow.bcell hb
  have hz := hb.size
  (try simp only [World.size_alloc, World.size_setCell, World.size_drew] at hz)
  (try simp only [World.size_alloc, World.size_setCell, World.size_drew] at hbb)
  obtain ⟨hoc, hof, hos⟩ := FlowA.made_cells hob
  clear hob
  obtain ⟨z0, z1, z2, z3⟩ := Flow.zs4 (show w.heap.size + 4 ≤ p1.heap.size by omega)
  have k_u1_p1 : u1.heap.size < p1.heap.size := by omega
  have k_u2_p1 : u2.heap.size < p1.heap.size := by omega
  have k_u3_p1 : u3.heap.size < p1.heap.size := by omega
  have hn_u1_p1 : u1.heap.size < bp1 := by omega
  have hn_u2_p1 : u2.heap.size < bp1 := by omega
  have hn_u3_p1 : u3.heap.size < bp1 := by omega
  have hw0_p1 : w.heap.size + 0 < bp1 := by omega
  have hw1_p1 : w.heap.size + 1 < bp1 := by omega
  have hw2_p1 : w.heap.size + 2 < bp1 := by omega
  have hw3_p1 : w.heap.size + 3 < bp1 := by omega
  go_wp2_with fail
  refine FlowS.wp_region_store 16 17 18 18 _ (uv 0#32) (uv 0#32) (uv 0#32) (uv 0#32) (uv (V.word sub.b).a) (uv (V.word sub.b).b) (uv (V.word sub.b).c) (uv (V.word sub.b).d) 24 rfl rfl rfl (fun a w => by kernel_rfl) (by kernel_rfl) (by omega) (by omega) (by kernel_rfl) (by kernel_rfl) (fun R hRc hRt hRo hRs => ?_)
  simp only [List.take_succ_cons, List.take_zero, List.drop_succ_cons, List.drop_zero]
  iterate 18
    first
      | (refine FlowS.flow_make rfl ?_)
      | (refine FlowS.flow_store rfl rfl rfl ?_ ?_; (intro b1 w1 hb; have hzb := hRo.out b1 w1 hb; obtain ⟨hoc, hof, hos⟩ := FlowA.made_cells hzb; clear hzb; simp only [Act.put, List.setIfInBounds_toArray, List.set_cons_zero, List.set_cons_succ]; go_simp; exact hRs.out _ _ hb))
      | refine FlowS.flow_skip rfl rfl rfl ?_
      | (apply FlowS.flow_step; rfl; rfl; rfl; (intro s1 w1 hb; have hc := hRc.out s1 w1 hb; go_simp; (first | with_reducible exact ⟨rfl, hb⟩ | (go_at_call 29; refine (B1.out _ ).mono ?_; rintro e w2 ⟨rfl, hb2⟩; exact ⟨_, rfl, rfl, hRt.out _ _ _ hb hb2⟩))))
    simp only [Act.put, List.setIfInBounds_toArray, List.set_cons_zero, List.set_cons_succ]
  apply FlowS.flow_nil
  clear hRc hRt hRo hRs
  intro bq1 q1 hb hbb hob
  simp only [Act.put, List.setIfInBounds_toArray, List.set_cons_zero, List.set_cons_succ]
  obtain ⟨hc, hf⟩ := Flow.bcell hb
  have hz := hb.size
  (try simp only [World.size_alloc, World.size_setCell, World.size_drew] at hz)
  (try simp only [World.size_alloc, World.size_setCell, World.size_drew] at hbb)
  obtain ⟨hoc, hof, hos⟩ := FlowA.made_cells hob
  clear hob
  obtain ⟨z0, z1, z2, z3⟩ := Flow.zs4 (show w.heap.size + 4 ≤ q1.heap.size by omega)
  have k_u1_q1 : u1.heap.size < q1.heap.size := by omega
  have k_u2_q1 : u2.heap.size < q1.heap.size := by omega
  have k_u3_q1 : u3.heap.size < q1.heap.size := by omega
  have k_bp1_q1 : bp1 < q1.heap.size := by omega
  have hn_u1_q1 : u1.heap.size < bq1 := by omega
  have hn_u2_q1 : u2.heap.size < bq1 := by omega
  have hn_u3_q1 : u3.heap.size < bq1 := by omega
  have hn_bp1_q1 : bp1 < bq1 := by omega
  have hw0_q1 : w.heap.size + 0 < bq1 := by omega
  have hw1_q1 : w.heap.size + 1 < bq1 := by omega
  have hw2_q1 : w.heap.size + 2 < bq1 := by omega
  have hw3_q1 : w.heap.size + 3 < bq1 := by omega
  go_wp2_with fail
  refine FlowS.wp_region_store 16 17 18 20 _ (uv 0#32) (uv 0#32) (uv 0#32) (uv 0#32) (uv (e1).a) (uv (e1).b) (uv (e1).c) (uv (e1).d) 24 rfl rfl rfl (fun a w => by kernel_rfl) (by kernel_rfl) (by omega) (by omega) (by kernel_rfl) (by kernel_rfl) (fun R hRc hRt hRo hRs => ?_)
  simp only [List.take_succ_cons, List.take_zero, List.drop_succ_cons, List.drop_zero]
  iterate 18
    first
      | (refine FlowS.flow_make rfl ?_)
      | (refine FlowS.flow_store rfl rfl rfl ?_ ?_; (intro b1 w1 hb; have hzb := hRo.out b1 w1 hb; obtain ⟨hoc, hof, hos⟩ := FlowA.made_cells hzb; clear hzb; simp only [Act.put, List.setIfInBounds_toArray, List.set_cons_zero, List.set_cons_succ]; go_simp; exact hRs.out _ _ hb))
      | refine FlowS.flow_skip rfl rfl rfl ?_
      | (apply FlowS.flow_step; rfl; rfl; rfl; (intro s1 w1 hb; have hc := hRc.out s1 w1 hb; go_simp; (first | with_reducible exact ⟨rfl, hb⟩ | (go_at_call 29; refine (E1.out _ ).mono ?_; rintro e w2 ⟨rfl, hb2⟩; exact ⟨_, rfl, rfl, hRt.out _ _ _ hb hb2⟩))))
    simp only [Act.put, List.setIfInBounds_toArray, List.set_cons_zero, List.set_cons_succ]
  apply FlowS.flow_nil
  clear hRc hRt hRo hRs
  intro br1 r1 hb hbb hob
  simp only [Act.put, List.setIfInBounds_toArray, List.set_cons_zero, List.set_cons_succ]
  obtain ⟨hc, hf⟩ := Flow.bcell hb
  have hz := hb.size
  (try simp only [World.size_alloc, World.size_setCell, World.size_drew] at hz)
  (try simp only [World.size_alloc, World.size_setCell, World.size_drew] at hbb)
  obtain ⟨hoc, hof, hos⟩ := FlowA.made_cells hob
  clear hob
  obtain ⟨z0, z1, z2, z3⟩ := Flow.zs4 (show w.heap.size + 4 ≤ r1.heap.size by omega)
  have k_u1_r1 : u1.heap.size < r1.heap.size := by omega
  have k_u2_r1 : u2.heap.size < r1.heap.size := by omega
  have k_u3_r1 : u3.heap.size < r1.heap.size := by omega
  have k_bp1_r1 : bp1 < r1.heap.size := by omega
  have k_bq1_r1 : bq1 < r1.heap.size := by omega
  have hn_u1_r1 : u1.heap.size < br1 := by omega
  have hn_u2_r1 : u2.heap.size < br1 := by omega
  have hn_u3_r1 : u3.heap.size < br1 := by omega
  have hn_bp1_r1 : bp1 < br1 := by omega
  have hn_bq1_r1 : bq1 < br1 := by omega
  have hw0_r1 : w.heap.size + 0 < br1 := by omega
  have hw1_r1 : w.heap.size + 1 < br1 := by omega
  have hw2_r1 : w.heap.size + 2 < br1 := by omega
  have hw3_r1 : w.heap.size + 3 < br1 := by omega
  go_wp2_with fail
  refine FlowT.wp_region_put 6 7 (br1) (uv (V.word eq.b).a) (uv (V.word eq.b).b) (uv (V.word eq.b).c) (uv (V.word eq.b).d) (by omega) (by kernel_rfl) (by kernel_rfl) (fun R hRc hRf hRt hRs => ?_)
  simp only [List.take_succ_cons, List.take_zero, List.drop_succ_cons, List.drop_zero]
  iterate 7
    first
      | (refine FlowT.flow_store rfl rfl ?_ ?_; (intro w1 hb; have hc := hRc.out w1 hb; have hf := hRf.out w1 hb; go_simp; exact hRs.out _ hb))
      | (apply FlowT.flow_step; rfl; rfl; rfl; (intro w1 hb; have hc := hRc.out w1 hb; go_simp; (first | with_reducible exact ⟨rfl, hb⟩ | (go_at_call 31; refine (v_c _ _).mono ?_; rintro e w2 ⟨rfl, hb2⟩; exact ⟨_, rfl, rfl, hRt.out _ _ hb hb2⟩) | (go_at_call 30; refine (F1.out _ ).mono ?_; rintro e w2 ⟨rfl, hb2⟩; exact ⟨_, rfl, rfl, hRt.out _ _ hb hb2⟩))))
      | (apply FlowT.flow_pure; rfl; rfl; (intro s1 w1 hb; go_simp; with_reducible exact ⟨rfl, hb⟩))
    simp only [Act.put, List.setIfInBounds_toArray, List.set_cons_zero, List.set_cons_succ]
  apply FlowT.flow_nil
  clear hRc hRf hRt hRs
  intro s1 hb
  obtain ⟨hc, hf⟩ := Flow.bcell hb
  have hz := hb.size
  (try simp only [World.size_alloc, World.size_setCell, World.size_drew] at hz)
  obtain ⟨z0, z1, z2, z3⟩ := Flow.zs4 (show w.heap.size + 4 ≤ s1.heap.size by omega)
  have k_u1_s1 : u1.heap.size < s1.heap.size := by omega
  have k_u2_s1 : u2.heap.size < s1.heap.size := by omega
  have k_u3_s1 : u3.heap.size < s1.heap.size := by omega
  have k_bp1_s1 : bp1 < s1.heap.size := by omega
  have k_bq1_s1 : bq1 < s1.heap.size := by omega
  have k_br1_s1 : br1 < s1.heap.size := by omega
  go_wp2_with fail
  refine Flow.wp_region_below 37 (by kernel_rfl) (by kernel_rfl) (fun R hRc hRt => ?_)
  simp only [List.take_succ_cons, List.take_zero, List.drop_succ_cons, List.drop_zero]
  iterate 37
    first
      | refine Flow.flow_skip rfl ?_
      | (apply Flow.flow_step; rfl; (intro w1 hb; have hc := hRc.out w1 hb; go_simp; (first | with_reducible exact ⟨rfl, hb⟩)))
      | (apply Flow.flow_guardT rfl rfl rfl; (intro hg w1 hb; have hc := hRc.out w1 hb; go_simp; (first | with_reducible exact ⟨rfl, hb⟩)))
      | (apply Flow.flow_guardF rfl rfl rfl; (intro hg w1 hb; have hc := hRc.out w1 hb; go_simp; (first | with_reducible exact ⟨rfl, hb⟩)))
      | (apply Flow.flow_guardT2 rfl rfl rfl; (intro hp hg w1 hb; have hc := hRc.out w1 hb; go_simp; (first | with_reducible exact ⟨rfl, hb⟩)))
      | (apply Flow.flow_guardF2 rfl rfl rfl; (intro hp hg w1 hb; have hc := hRc.out w1 hb; go_simp; (first | with_reducible exact ⟨rfl, hb⟩)))
    simp only [Act.put, List.setIfInBounds_toArray, List.set_cons_zero, List.set_cons_succ]
  apply Flow.flow_nil
  clear hRc hRt
  intro w1 hb
  obtain ⟨hc, hf⟩ := Flow.bcell hb
  have hz := hb.size
  (try simp only [World.size_alloc, World.size_setCell, World.size_drew] at hz)
  obtain ⟨z0, z1, z2, z3⟩ := Flow.zs4 (show w.heap.size + 4 ≤ w1.heap.size by omega)
  obtain ⟨t1, hqt1⟩ : ∃ z : World, z = w1 := ⟨_, rfl⟩
  subst hqt1
  have k_u1_t1 : u1.heap.size < t1.heap.size := by omega
  have k_u2_t1 : u2.heap.size < t1.heap.size := by omega
  have k_u3_t1 : u3.heap.size < t1.heap.size := by omega
  go_wp2_with fail
  have g100 : t1.cell? ⟨w.heap.size, 0, none⟩ = some (uv x.a) := by go_simp
  have g101 : t1.cell? ⟨w.heap.size, 1, none⟩ = some (uv x.b) := by go_simp
  have g102 : t1.cell? ⟨w.heap.size, 2, none⟩ = some (uv x.c) := by go_simp
  have g103 : t1.cell? ⟨w.heap.size, 3, none⟩ = some (uv x.d) := by go_simp
  have g110 : t1.cell? ⟨w.heap.size + 1, 0, none⟩ = some (uv a.a) := by go_simp
  have g111 : t1.cell? ⟨w.heap.size + 1, 1, none⟩ = some (uv a.b) := by go_simp
  have g112 : t1.cell? ⟨w.heap.size + 1, 2, none⟩ = some (uv a.c) := by go_simp
  have g113 : t1.cell? ⟨w.heap.size + 1, 3, none⟩ = some (uv a.d) := by go_simp
  have g120 : t1.cell? ⟨w.heap.size + 1 + 1, 0, none⟩ = some (uv y.a) := by go_simp
  have g121 : t1.cell? ⟨w.heap.size + 1 + 1, 1, none⟩ = some (uv y.b) := by go_simp
  have g122 : t1.cell? ⟨w.heap.size + 1 + 1, 2, none⟩ = some (uv y.c) := by go_simp
  have g123 : t1.cell? ⟨w.heap.size + 1 + 1, 3, none⟩ = some (uv y.d) := by go_simp
  have g130 : t1.cell? ⟨w.heap.size + 1 + 1 + 1, 0, none⟩ = some (uv b.a) := by go_simp
  have g131 : t1.cell? ⟨w.heap.size + 1 + 1 + 1, 1, none⟩ = some (uv b.b) := by go_simp
  have g132 : t1.cell? ⟨w.heap.size + 1 + 1 + 1, 2, none⟩ = some (uv b.c) := by go_simp
  have g133 : t1.cell? ⟨w.heap.size + 1 + 1 + 1, 3, none⟩ = some (uv b.d) := by go_simp
  have h100 : t1.cell? ⟨u1.heap.size, 0, none⟩ = some (uv add.a) := by go_simp
  have h101 : t1.cell? ⟨u1.heap.size, 1, none⟩ = some (uv add.b) := by go_simp
  have h102 : t1.cell? ⟨u1.heap.size, 2, none⟩ = some (uv add.c) := by go_simp
  have h103 : t1.cell? ⟨u1.heap.size, 3, none⟩ = some (uv add.d) := by go_simp
  have h110 : t1.cell? ⟨u2.heap.size, 0, none⟩ = some (uv sub.a) := by go_simp
  have h111 : t1.cell? ⟨u2.heap.size, 1, none⟩ = some (uv sub.b) := by go_simp
  have h112 : t1.cell? ⟨u2.heap.size, 2, none⟩ = some (uv sub.c) := by go_simp
  have h113 : t1.cell? ⟨u2.heap.size, 3, none⟩ = some (uv sub.d) := by go_simp
  have h120 : t1.cell? ⟨u3.heap.size, 0, none⟩ = some (uv eq.a) := by go_simp
  have h121 : t1.cell? ⟨u3.heap.size, 1, none⟩ = some (uv eq.b) := by go_simp
  have h122 : t1.cell? ⟨u3.heap.size, 2, none⟩ = some (uv eq.c) := by go_simp
  have h123 : t1.cell? ⟨u3.heap.size, 3, none⟩ = some (uv eq.d) := by go_simp
  have gb1 : Below w.heap.size w t1 := by (repeat (first | exact Below.refl _ _ | refine Below.setCell ?_ (by first | omega | (simp <;> omega)) _ | refine Below.alloc ?_ (by first | omega | (simp <;> omega)) _ | refine Below.drew ?_ | refine Below.trans ?_ (Below.mono (by assumption) (by first | omega | (simp <;> omega)))))
  have gs10 : w.heap.size < t1.heap.size := by omega
  have gs11 : w.heap.size + 1 < t1.heap.size := by omega
  have gs12 : w.heap.size + 1 + 1 < t1.heap.size := by omega
  have gs13 : w.heap.size + 1 + 1 + 1 < t1.heap.size := by omega
  revert g100 g101 g102 g103 g110 g111 g112 g113 g120 g121 g122 g123 g130 g131 g132 g133 h100 h101 h102 h103 h110 h111 h112 h113 h120 h121 h122 h123 gb1 gs10 gs11 gs12 gs13 k_u1_t1 k_u2_t1 k_u3_t1
  generalize t1 = T1
  intro g100 g101 g102 g103 g110 g111 g112 g113 g120 g121 g122 g123 g130 g131 g132 g133 h100 h101 h102 h103 h110 h111 h112 h113 h120 h121 h122 h123 gb1 gs10 gs11 gs12 gs13 k_u1_t1 k_u2_t1 k_u3_t1
  rw [rounds_succ]
  go_wp2_with fail
  refine FlowS.wp_region_store 16 17 18 16 _ (uv 0#32) (uv 0#32) (uv 0#32) (uv 0#32) (uv (V.word add.c).a) (uv (V.word add.c).b) (uv (V.word add.c).c) (uv (V.word add.c).d) 24 rfl rfl rfl (fun a w => by kernel_rfl) (by kernel_rfl) (by omega) (by omega) (by kernel_rfl) (by kernel_rfl) (fun R hRc hRt hRo hRs => ?_)
  simp only [List.take_succ_cons, List.take_zero, List.drop_succ_cons, List.drop_zero]
  iterate 18
    first
      | (refine FlowS.flow_make rfl ?_)
      | (refine FlowS.flow_store rfl rfl rfl ?_ ?_; (intro b1 w1 hb; have hzb := hRo.out b1 w1 hb; obtain ⟨hoc, hof, hos⟩ := FlowA.made_cells hzb; clear hzb; simp only [Act.put, List.setIfInBounds_toArray, List.set_cons_zero, List.set_cons_succ]; go_simp; exact hRs.out _ _ hb))
      | refine FlowS.flow_skip rfl rfl rfl ?_
      | (apply FlowS.flow_step; rfl; rfl; rfl; (intro s1 w1 hb; have hc := hRc.out s1 w1 hb; go_simp; (first | with_reducible exact ⟨rfl, hb⟩ | (go_at_call 29; refine (A2.out _ ).mono ?_; rintro e w2 ⟨rfl, hb2⟩; exact ⟨_, rfl, rfl, hRt.out _ _ _ hb hb2⟩))))
    simp only [Act.put, List.setIfInBounds_toArray, List.set_cons_zero, List.set_cons_succ]
  apply FlowS.flow_nil
  clear hRc hRt hRo hRs
  intro bp2 p2 hb hbb hob
  simp only [Act.put, List.setIfInBounds_toArray, List.set_cons_zero, List.set_cons_succ]
  obtain ⟨hc, hf⟩ := Flow.bcell hb
  have hz := hb.size
  (try simp only [World.size_alloc, World.size_setCell, World.size_drew] at hz)
  (try simp only [World.size_alloc, World.size_setCell, World.size_drew] at hbb)
  obtain ⟨hoc, hof, hos⟩ := FlowA.made_cells hob
  clear hob
  obtain ⟨z0, z1, z2, z3⟩ := Flow.zs4 (show w.heap.size + 4 ≤ p2.heap.size by omega)
  have k_u1_p2 : u1.heap.size < p2.heap.size := by omega
  have k_u2_p2 : u2.heap.size < p2.heap.size := by omega
  have k_u3_p2 : u3.heap.size < p2.heap.size := by omega
  have hn_u1_p2 : u1.heap.size < bp2 := by omega
  have hn_u2_p2 : u2.heap.size < bp2 := by omega
  have hn_u3_p2 : u3.heap.size < bp2 := by omega
  have hw0_p2 : w.heap.size + 0 < bp2 := by omega
  have hw1_p2 : w.heap.size + 1 < bp2 := by omega
  have hw2_p2 : w.heap.size + 2 < bp2 := by omega
  have hw3_p2 : w.heap.size + 3 < bp2 := by omega
  go_wp2_with fail
  refine FlowS.wp_region_store 16 17 18 18 _ (uv 0#32) (uv 0#32) (uv 0#32) (uv 0#32) (uv (V.word sub.c).a) (uv (V.word sub.c).b) (uv (V.word sub.c).c) (uv (V.word sub.c).d) 24 rfl rfl rfl (fun a w => by kernel_rfl) (by kernel_rfl) (by omega) (by omega) (by kernel_rfl) (by kernel_rfl) (fun R hRc hRt hRo hRs => ?_)
  simp only [List.take_succ_cons, List.take_zero, List.drop_succ_cons, List.drop_zero]
  iterate 18
    first
      | (refine FlowS.flow_make rfl ?_)
      | (refine FlowS.flow_store rfl rfl rfl ?_ ?_; (intro b1 w1 hb; have hzb := hRo.out b1 w1 hb; obtain ⟨hoc, hof, hos⟩ := FlowA.made_cells hzb; clear hzb; simp only [Act.put, List.setIfInBounds_toArray, List.set_cons_zero, List.set_cons_succ]; go_simp; exact hRs.out _ _ hb))
      | refine FlowS.flow_skip rfl rfl rfl ?_
      | (apply FlowS.flow_step; rfl; rfl; rfl; (intro s1 w1 hb; have hc := hRc.out s1 w1 hb; go_simp; (first | with_reducible exact ⟨rfl, hb⟩ | (go_at_call 29; refine (B2.out _ ).mono ?_; rintro e w2 ⟨rfl, hb2⟩; exact ⟨_, rfl, rfl, hRt.out _ _ _ hb hb2⟩))))
    simp only [Act.put, List.setIfInBounds_toArray, List.set_cons_zero, List.set_cons_succ]
  apply FlowS.flow_nil
  clear hRc hRt hRo hRs
  intro bq2 q2 hb hbb hob
  simp only [Act.put, List.setIfInBounds_toArray, List.set_cons_zero, List.set_cons_succ]
  obtain ⟨hc, hf⟩ := Flow.bcell hb
  have hz := hb.size
  (try simp only [World.size_alloc, World.size_setCell, World.size_drew] at hz)
  (try simp only [World.size_alloc, World.size_setCell, World.size_drew] at hbb)
  obtain ⟨hoc, hof, hos⟩ := FlowA.made_cells hob
  clear hob
  obtain ⟨z0, z1, z2, z3⟩ := Flow.zs4 (show w.heap.size + 4 ≤ q2.heap.size by omega)
  have k_u1_q2 : u1.heap.size < q2.heap.size := by omega
  have k_u2_q2 : u2.heap.size < q2.heap.size := by omega
  have k_u3_q2 : u3.heap.size < q2.heap.size := by omega
  have k_bp2_q2 : bp2 < q2.heap.size := by omega
  have hn_u1_q2 : u1.heap.size < bq2 := by omega
  have hn_u2_q2 : u2.heap.size < bq2 := by omega
  have hn_u3_q2 : u3.heap.size < bq2 := by omega
  have hn_bp2_q2 : bp2 < bq2 := by omega
  have hw0_q2 : w.heap.size + 0 < bq2 := by omega
  have hw1_q2 : w.heap.size + 1 < bq2 := by omega
  have hw2_q2 : w.heap.size + 2 < bq2 := by omega
  have hw3_q2 : w.heap.size + 3 < bq2 := by omega
  go_wp2_with fail
  refine FlowS.wp_region_store 16 17 18 20 _ (uv 0#32) (uv 0#32) (uv 0#32) (uv 0#32) (uv (e2).a) (uv (e2).b) (uv (e2).c) (uv (e2).d) 24 rfl rfl rfl (fun a w => by kernel_rfl) (by kernel_rfl) (by omega) (by omega) (by kernel_rfl) (by kernel_rfl) (fun R hRc hRt hRo hRs => ?_)
  simp only [List.take_succ_cons, List.take_zero, List.drop_succ_cons, List.drop_zero]
  iterate 18
    first
      | (refine FlowS.flow_make rfl ?_)
      | (refine FlowS.flow_store rfl rfl rfl ?_ ?_; (intro b1 w1 hb; have hzb := hRo.out b1 w1 hb; obtain ⟨hoc, hof, hos⟩ := FlowA.made_cells hzb; clear hzb; simp only [Act.put, List.setIfInBounds_toArray, List.set_cons_zero, List.set_cons_succ]; go_simp; exact hRs.out _ _ hb))
      | refine FlowS.flow_skip rfl rfl rfl ?_
      | (apply FlowS.flow_step; rfl; rfl; rfl; (intro s1 w1 hb; have hc := hRc.out s1 w1 hb; go_simp; (first | with_reducible exact ⟨rfl, hb⟩ | (go_at_call 29; refine (E2.out _ ).mono ?_; rintro e w2 ⟨rfl, hb2⟩; exact ⟨_, rfl, rfl, hRt.out _ _ _ hb hb2⟩))))
    simp only [Act.put, List.setIfInBounds_toArray, List.set_cons_zero, List.set_cons_succ]
  apply FlowS.flow_nil
  clear hRc hRt hRo hRs
  intro br2 r2 hb hbb hob
  simp only [Act.put, List.setIfInBounds_toArray, List.set_cons_zero, List.set_cons_succ]
  obtain ⟨hc, hf⟩ := Flow.bcell hb
  have hz := hb.size
  (try simp only [World.size_alloc, World.size_setCell, World.size_drew] at hz)
  (try simp only [World.size_alloc, World.size_setCell, World.size_drew] at hbb)
  obtain ⟨hoc, hof, hos⟩ := FlowA.made_cells hob
  clear hob
  obtain ⟨z0, z1, z2, z3⟩ := Flow.zs4 (show w.heap.size + 4 ≤ r2.heap.size by omega)
  have k_u1_r2 : u1.heap.size < r2.heap.size := by omega
  have k_u2_r2 : u2.heap.size < r2.heap.size := by omega
  have k_u3_r2 : u3.heap.size < r2.heap.size := by omega
  have k_bp2_r2 : bp2 < r2.heap.size := by omega
  have k_bq2_r2 : bq2 < r2.heap.size := by omega
  have hn_u1_r2 : u1.heap.size < br2 := by omega
  have hn_u2_r2 : u2.heap.size < br2 := by omega
  have hn_u3_r2 : u3.heap.size < br2 := by omega
  have hn_bp2_r2 : bp2 < br2 := by omega
  have hn_bq2_r2 : bq2 < br2 := by omega
  have hw0_r2 : w.heap.size + 0 < br2 := by omega
  have hw1_r2 : w.heap.size + 1 < br2 := by omega
  have hw2_r2 : w.heap.size + 2 < br2 := by omega
  have hw3_r2 : w.heap.size + 3 < br2 := by omega
  go_wp2_with fail
  refine FlowT.wp_region_put 6 7 (br2) (uv (V.word eq.c).a) (uv (V.word eq.c).b) (uv (V.word eq.c).c) (uv (V.word eq.c).d) (by omega) (by kernel_rfl) (by kernel_rfl) (fun R hRc hRf hRt hRs => ?_)
  simp only [List.take_succ_cons, List.take_zero, List.drop_succ_cons, List.drop_zero]
  iterate 7
    first
      | (refine FlowT.flow_store rfl rfl ?_ ?_; (intro w1 hb; have hc := hRc.out w1 hb; have hf := hRf.out w1 hb; go_simp; exact hRs.out _ hb))
      | (apply FlowT.flow_step; rfl; rfl; rfl; (intro w1 hb; have hc := hRc.out w1 hb; go_simp; (first | with_reducible exact ⟨rfl, hb⟩ | (go_at_call 31; refine (v_c _ _).mono ?_; rintro e w2 ⟨rfl, hb2⟩; exact ⟨_, rfl, rfl, hRt.out _ _ hb hb2⟩) | (go_at_call 30; refine (F2.out _ ).mono ?_; rintro e w2 ⟨rfl, hb2⟩; exact ⟨_, rfl, rfl, hRt.out _ _ hb hb2⟩))))
      | (apply FlowT.flow_pure; rfl; rfl; (intro s1 w1 hb; go_simp; with_reducible exact ⟨rfl, hb⟩))
    simp only [Act.put, List.setIfInBounds_toArray, List.set_cons_zero, List.set_cons_succ]
  apply FlowT.flow_nil
  clear hRc hRf hRt hRs
  intro s2 hb
  obtain ⟨hc, hf⟩ := Flow.bcell hb
  have hz := hb.size
  (try simp only [World.size_alloc, World.size_setCell, World.size_drew] at hz)
  obtain ⟨z0, z1, z2, z3⟩ := Flow.zs4 (show w.heap.size + 4 ≤ s2.heap.size by omega)
  have k_u1_s2 : u1.heap.size < s2.heap.size := by omega
  have k_u2_s2 : u2.heap.size < s2.heap.size := by omega
  have k_u3_s2 : u3.heap.size < s2.heap.size := by omega
  have k_bp2_s2 : bp2 < s2.heap.size := by omega
  have k_bq2_s2 : bq2 < s2.heap.size := by omega
  have k_br2_s2 : br2 < s2.heap.size := by omega
  go_wp2_with fail
  refine Flow.wp_region_below 37 (by kernel_rfl) (by kernel_rfl) (fun R hRc hRt => ?_)
  simp only [List.take_succ_cons, List.take_zero, List.drop_succ_cons, List.drop_zero]
  iterate 37
    first
      | refine Flow.flow_skip rfl ?_
      | (apply Flow.flow_step; rfl; (intro w1 hb; have hc := hRc.out w1 hb; go_simp; (first | with_reducible exact ⟨rfl, hb⟩)))
      | (apply Flow.flow_guardT rfl rfl rfl; (intro hg w1 hb; have hc := hRc.out w1 hb; go_simp; (first | with_reducible exact ⟨rfl, hb⟩)))
      | (apply Flow.flow_guardF rfl rfl rfl; (intro hg w1 hb; have hc := hRc.out w1 hb; go_simp; (first | with_reducible exact ⟨rfl, hb⟩)))
      | (apply Flow.flow_guardT2 rfl rfl rfl; (intro hp hg w1 hb; have hc := hRc.out w1 hb; go_simp; (first | with_reducible exact ⟨rfl, hb⟩)))
      | (apply Flow.flow_guardF2 rfl rfl rfl; (intro hp hg w1 hb; have hc := hRc.out w1 hb; go_simp; (first | with_reducible exact ⟨rfl, hb⟩)))
    simp only [Act.put, List.setIfInBounds_toArray, List.set_cons_zero, List.set_cons_succ]
  apply Flow.flow_nil
  clear hRc hRt
  intro w1 hb
  obtain ⟨hc, hf⟩ := Flow.bcell hb
  have hz := hb.size
  (try simp only [World.size_alloc, World.size_setCell, World.size_drew] at hz)
  obtain ⟨z0, z1, z2, z3⟩ := Flow.zs4 (show w.heap.size + 4 ≤ w1.heap.size by omega)
  obtain ⟨t2, hqt2⟩ : ∃ z : World, z = w1 := ⟨_, rfl⟩
  subst hqt2
  have k_u1_t2 : u1.heap.size < t2.heap.size := by omega
  have k_u2_t2 : u2.heap.size < t2.heap.size := by omega
  have k_u3_t2 : u3.heap.size < t2.heap.size := by omega
  go_wp2_with fail
  have g200 : t2.cell? ⟨w.heap.size, 0, none⟩ = some (uv x.a) := by go_simp
  have g201 : t2.cell? ⟨w.heap.size, 1, none⟩ = some (uv x.b) := by go_simp
  have g202 : t2.cell? ⟨w.heap.size, 2, none⟩ = some (uv x.c) := by go_simp
  have g203 : t2.cell? ⟨w.heap.size, 3, none⟩ = some (uv x.d) := by go_simp
  have g210 : t2.cell? ⟨w.heap.size + 1, 0, none⟩ = some (uv a.a) := by go_simp
  have g211 : t2.cell? ⟨w.heap.size + 1, 1, none⟩ = some (uv a.b) := by go_simp
  have g212 : t2.cell? ⟨w.heap.size + 1, 2, none⟩ = some (uv a.c) := by go_simp
  have g213 : t2.cell? ⟨w.heap.size + 1, 3, none⟩ = some (uv a.d) := by go_simp
  have g220 : t2.cell? ⟨w.heap.size + 1 + 1, 0, none⟩ = some (uv y.a) := by go_simp
  have g221 : t2.cell? ⟨w.heap.size + 1 + 1, 1, none⟩ = some (uv y.b) := by go_simp
  have g222 : t2.cell? ⟨w.heap.size + 1 + 1, 2, none⟩ = some (uv y.c) := by go_simp
  have g223 : t2.cell? ⟨w.heap.size + 1 + 1, 3, none⟩ = some (uv y.d) := by go_simp
  have g230 : t2.cell? ⟨w.heap.size + 1 + 1 + 1, 0, none⟩ = some (uv b.a) := by go_simp
  have g231 : t2.cell? ⟨w.heap.size + 1 + 1 + 1, 1, none⟩ = some (uv b.b) := by go_simp
  have g232 : t2.cell? ⟨w.heap.size + 1 + 1 + 1, 2, none⟩ = some (uv b.c) := by go_simp
  have g233 : t2.cell? ⟨w.heap.size + 1 + 1 + 1, 3, none⟩ = some (uv b.d) := by go_simp
  have h200 : t2.cell? ⟨u1.heap.size, 0, none⟩ = some (uv add.a) := by go_simp
  have h201 : t2.cell? ⟨u1.heap.size, 1, none⟩ = some (uv add.b) := by go_simp
  have h202 : t2.cell? ⟨u1.heap.size, 2, none⟩ = some (uv add.c) := by go_simp
  have h203 : t2.cell? ⟨u1.heap.size, 3, none⟩ = some (uv add.d) := by go_simp
  have h210 : t2.cell? ⟨u2.heap.size, 0, none⟩ = some (uv sub.a) := by go_simp
  have h211 : t2.cell? ⟨u2.heap.size, 1, none⟩ = some (uv sub.b) := by go_simp
  have h212 : t2.cell? ⟨u2.heap.size, 2, none⟩ = some (uv sub.c) := by go_simp
  have h213 : t2.cell? ⟨u2.heap.size, 3, none⟩ = some (uv sub.d) := by go_simp
  have h220 : t2.cell? ⟨u3.heap.size, 0, none⟩ = some (uv eq.a) := by go_simp
  have h221 : t2.cell? ⟨u3.heap.size, 1, none⟩ = some (uv eq.b) := by go_simp
  have h222 : t2.cell? ⟨u3.heap.size, 2, none⟩ = some (uv eq.c) := by go_simp
  have h223 : t2.cell? ⟨u3.heap.size, 3, none⟩ = some (uv eq.d) := by go_simp
  have gb2 : Below w.heap.size w t2 := by (repeat (first | exact Below.refl _ _ | refine Below.setCell ?_ (by first | omega | (simp <;> omega)) _ | refine Below.alloc ?_ (by first | omega | (simp <;> omega)) _ | refine Below.drew ?_ | refine Below.trans ?_ (Below.mono (by assumption) (by first | omega | (simp <;> omega)))))
  have gs20 : w.heap.size < t2.heap.size := by omega
  have gs21 : w.heap.size + 1 < t2.heap.size := by omega
  have gs22 : w.heap.size + 1 + 1 < t2.heap.size := by omega
  have gs23 : w.heap.size + 1 + 1 + 1 < t2.heap.size := by omega
  revert g200 g201 g202 g203 g210 g211 g212 g213 g220 g221 g222 g223 g230 g231 g232 g233 h200 h201 h202 h203 h210 h211 h212 h213 h220 h221 h222 h223 gb2 gs20 gs21 gs22 gs23 k_u1_t2 k_u2_t2 k_u3_t2
  generalize t2 = T2
  intro g200 g201 g202 g203 g210 g211 g212 g213 g220 g221 g222 g223 g230 g231 g232 g233 h200 h201 h202 h203 h210 h211 h212 h213 h220 h221 h222 h223 gb2 gs20 gs21 gs22 gs23 k_u1_t2 k_u2_t2 k_u3_t2
  rw [rounds_succ]
  go_wp2_with fail
  refine FlowS.wp_region_store 16 17 18 16 _ (uv 0#32) (uv 0#32) (uv 0#32) (uv 0#32) (uv (V.word add.d).a) (uv (V.word add.d).b) (uv (V.word add.d).c) (uv (V.word add.d).d) 24 rfl rfl rfl (fun a w => by kernel_rfl) (by kernel_rfl) (by omega) (by omega) (by kernel_rfl) (by kernel_rfl) (fun R hRc hRt hRo hRs => ?_)
  simp only [List.take_succ_cons, List.take_zero, List.drop_succ_cons, List.drop_zero]
  iterate 18
    first
      | (refine FlowS.flow_make rfl ?_)
      | (refine FlowS.flow_store rfl rfl rfl ?_ ?_; (intro b1 w1 hb; have hzb := hRo.out b1 w1 hb; obtain ⟨hoc, hof, hos⟩ := FlowA.made_cells hzb; clear hzb; simp only [Act.put, List.setIfInBounds_toArray, List.set_cons_zero, List.set_cons_succ]; go_simp; exact hRs.out _ _ hb))
      | refine FlowS.flow_skip rfl rfl rfl ?_
      | (apply FlowS.flow_step; rfl; rfl; rfl; (intro s1 w1 hb; have hc := hRc.out s1 w1 hb; go_simp; (first | with_reducible exact ⟨rfl, hb⟩ | (go_at_call 29; refine (A3.out _ ).mono ?_; rintro e w2 ⟨rfl, hb2⟩; exact ⟨_, rfl, rfl, hRt.out _ _ _ hb hb2⟩))))
    simp only [Act.put, List.setIfInBounds_toArray, List.set_cons_zero, List.set_cons_succ]
  apply FlowS.flow_nil
  clear hRc hRt hRo hRs
  intro bp3 p3 hb hbb hob
  simp only [Act.put, List.setIfInBounds_toArray, List.set_cons_zero, List.set_cons_succ]
  obtain ⟨hc, hf⟩ := Flow.bcell hb
  have hz := hb.size
  (try simp only [World.size_alloc, World.size_setCell, World.size_drew] at hz)
  (try simp only [World.size_alloc, World.size_setCell, World.size_drew] at hbb)
  obtain ⟨hoc, hof, hos⟩ := FlowA.made_cells hob
  clear hob
  obtain ⟨z0, z1, z2, z3⟩ := Flow.zs4 (show w.heap.size + 4 ≤ p3.heap.size by omega)
  have k_u1_p3 : u1.heap.size < p3.heap.size := by omega
  have k_u2_p3 : u2.heap.size < p3.heap.size := by omega
  have k_u3_p3 : u3.heap.size < p3.heap.size := by omega
  have hn_u1_p3 : u1.heap.size < bp3 := by omega
  have hn_u2_p3 : u2.heap.size < bp3 := by omega
  have hn_u3_p3 : u3.heap.size < bp3 := by omega
  have hw0_p3 : w.heap.size + 0 < bp3 := by omega
  have hw1_p3 : w.heap.size + 1 < bp3 := by omega
  have hw2_p3 : w.heap.size + 2 < bp3 := by omega
  have hw3_p3 : w.heap.size + 3 < bp3 := by omega
  go_wp2_with fail
  refine FlowS.wp_region_store 16 17 18 18 _ (uv 0#32) (uv 0#32) (uv 0#32) (uv 0#32) (uv (V.word sub.d).a) (uv (V.word sub.d).b) (uv (V.word sub.d).c) (uv (V.word sub.d).d) 24 rfl rfl rfl (fun a w => by kernel_rfl) (by kernel_rfl) (by omega) (by omega) (by kernel_rfl) (by kernel_rfl) (fun R hRc hRt hRo hRs => ?_)
  simp only [List.take_succ_cons, List.take_zero, List.drop_succ_cons, List.drop_zero]
  iterate 18
    first
      | (refine FlowS.flow_make rfl ?_)
      | (refine FlowS.flow_store rfl rfl rfl ?_ ?_; (intro b1 w1 hb; have hzb := hRo.out b1 w1 hb; obtain ⟨hoc, hof, hos⟩ := FlowA.made_cells hzb; clear hzb; simp only [Act.put, List.setIfInBounds_toArray, List.set_cons_zero, List.set_cons_succ]; go_simp; exact hRs.out _ _ hb))
      | refine FlowS.flow_skip rfl rfl rfl ?_
      | (apply FlowS.flow_step; rfl; rfl; rfl; (intro s1 w1 hb; have hc := hRc.out s1 w1 hb; go_simp; (first | with_reducible exact ⟨rfl, hb⟩ | (go_at_call 29; refine (B3.out _ ).mono ?_; rintro e w2 ⟨rfl, hb2⟩; exact ⟨_, rfl, rfl, hRt.out _ _ _ hb hb2⟩))))
    simp only [Act.put, List.setIfInBounds_toArray, List.set_cons_zero, List.set_cons_succ]
  apply FlowS.flow_nil
  clear hRc hRt hRo hRs
  intro bq3 q3 hb hbb hob
  simp only [Act.put, List.setIfInBounds_toArray, List.set_cons_zero, List.set_cons_succ]
  obtain ⟨hc, hf⟩ := Flow.bcell hb
  have hz := hb.size
  (try simp only [World.size_alloc, World.size_setCell, World.size_drew] at hz)
  (try simp only [World.size_alloc, World.size_setCell, World.size_drew] at hbb)
  obtain ⟨hoc, hof, hos⟩ := FlowA.made_cells hob
  clear hob
  obtain ⟨z0, z1, z2, z3⟩ := Flow.zs4 (show w.heap.size + 4 ≤ q3.heap.size by omega)
  have k_u1_q3 : u1.heap.size < q3.heap.size := by omega
  have k_u2_q3 : u2.heap.size < q3.heap.size := by omega
  have k_u3_q3 : u3.heap.size < q3.heap.size := by omega
  have k_bp3_q3 : bp3 < q3.heap.size := by omega
  have hn_u1_q3 : u1.heap.size < bq3 := by omega
  have hn_u2_q3 : u2.heap.size < bq3 := by omega
  have hn_u3_q3 : u3.heap.size < bq3 := by omega
  have hn_bp3_q3 : bp3 < bq3 := by omega
  have hw0_q3 : w.heap.size + 0 < bq3 := by omega
  have hw1_q3 : w.heap.size + 1 < bq3 := by omega
  have hw2_q3 : w.heap.size + 2 < bq3 := by omega
  have hw3_q3 : w.heap.size + 3 < bq3 := by omega
  go_wp2_with fail
  refine FlowS.wp_region_store 16 17 18 20 _ (uv 0#32) (uv 0#32) (uv 0#32) (uv 0#32) (uv (e3).a) (uv (e3).b) (uv (e3).c) (uv (e3).d) 24 rfl rfl rfl (fun a w => by kernel_rfl) (by kernel_rfl) (by omega) (by omega) (by kernel_rfl) (by kernel_rfl) (fun R hRc hRt hRo hRs => ?_)
  simp only [List.take_succ_cons, List.take_zero, List.drop_succ_cons, List.drop_zero]
  iterate 18
    first
      | (refine FlowS.flow_make rfl ?_)
      | (refine FlowS.flow_store rfl rfl rfl ?_ ?_; (intro b1 w1 hb; have hzb := hRo.out b1 w1 hb; obtain ⟨hoc, hof, hos⟩ := FlowA.made_cells hzb; clear hzb; simp only [Act.put, List.setIfInBounds_toArray, List.set_cons_zero, List.set_cons_succ]; go_simp; exact hRs.out _ _ hb))
      | refine FlowS.flow_skip rfl rfl rfl ?_
      | (apply FlowS.flow_step; rfl; rfl; rfl; (intro s1 w1 hb; have hc := hRc.out s1 w1 hb; go_simp; (first | with_reducible exact ⟨rfl, hb⟩ | (go_at_call 29; refine (E3.out _ ).mono ?_; rintro e w2 ⟨rfl, hb2⟩; exact ⟨_, rfl, rfl, hRt.out _ _ _ hb hb2⟩))))
    simp only [Act.put, List.setIfInBounds_toArray, List.set_cons_zero, List.set_cons_succ]
  apply FlowS.flow_nil
  clear hRc hRt hRo hRs
  intro br3 r3 hb hbb hob
  simp only [Act.put, List.setIfInBounds_toArray, List.set_cons_zero, List.set_cons_succ]
  obtain ⟨hc, hf⟩ := Flow.bcell hb
  have hz := hb.size
  (try simp only [World.size_alloc, World.size_setCell, World.size_drew] at hz)
  (try simp only [World.size_alloc, World.size_setCell, World.size_drew] at hbb)
  obtain ⟨hoc, hof, hos⟩ := FlowA.made_cells hob
  clear hob
  obtain ⟨z0, z1, z2, z3⟩ := Flow.zs4 (show w.heap.size + 4 ≤ r3.heap.size by omega)
  have k_u1_r3 : u1.heap.size < r3.heap.size := by omega
  have k_u2_r3 : u2.heap.size < r3.heap.size := by omega
  have k_u3_r3 : u3.heap.size < r3.heap.size := by omega
  have k_bp3_r3 : bp3 < r3.heap.size := by omega
  have k_bq3_r3 : bq3 < r3.heap.size := by omega
  have hn_u1_r3 : u1.heap.size < br3 := by omega
  have hn_u2_r3 : u2.heap.size < br3 := by omega
  have hn_u3_r3 : u3.heap.size < br3 := by omega
  have hn_bp3_r3 : bp3 < br3 := by omega
  have hn_bq3_r3 : bq3 < br3 := by omega
  have hw0_r3 : w.heap.size + 0 < br3 := by omega
  have hw1_r3 : w.heap.size + 1 < br3 := by omega
  have hw2_r3 : w.heap.size + 2 < br3 := by omega
  have hw3_r3 : w.heap.size + 3 < br3 := by omega
  go_wp2_with fail
  refine FlowT.wp_region_put 6 7 (br3) (uv (V.word eq.d).a) (uv (V.word eq.d).b) (uv (V.word eq.d).c) (uv (V.word eq.d).d) (by omega) (by kernel_rfl) (by kernel_rfl) (fun R hRc hRf hRt hRs => ?_)
  simp only [List.take_succ_cons, List.take_zero, List.drop_succ_cons, List.drop_zero]
  iterate 7
    first
      | (refine FlowT.flow_store rfl rfl ?_ ?_; (intro w1 hb; have hc := hRc.out w1 hb; have hf := hRf.out w1 hb; go_simp; exact hRs.out _ hb))
      | (apply FlowT.flow_step; rfl; rfl; rfl; (intro w1 hb; have hc := hRc.out w1 hb; go_simp; (first | with_reducible exact ⟨rfl, hb⟩ | (go_at_call 31; refine (v_c _ _).mono ?_; rintro e w2 ⟨rfl, hb2⟩; exact ⟨_, rfl, rfl, hRt.out _ _ hb hb2⟩) | (go_at_call 30; refine (F3.out _ ).mono ?_; rintro e w2 ⟨rfl, hb2⟩; exact ⟨_, rfl, rfl, hRt.out _ _ hb hb2⟩))))
      | (apply FlowT.flow_pure; rfl; rfl; (intro s1 w1 hb; go_simp; with_reducible exact ⟨rfl, hb⟩))
    simp only [Act.put, List.setIfInBounds_toArray, List.set_cons_zero, List.set_cons_succ]
  apply FlowT.flow_nil
  clear hRc hRf hRt hRs
  intro s3 hb
  obtain ⟨hc, hf⟩ := Flow.bcell hb
  have hz := hb.size
  (try simp only [World.size_alloc, World.size_setCell, World.size_drew] at hz)
  obtain ⟨z0, z1, z2, z3⟩ := Flow.zs4 (show w.heap.size + 4 ≤ s3.heap.size by omega)
  have k_u1_s3 : u1.heap.size < s3.heap.size := by omega
  have k_u2_s3 : u2.heap.size < s3.heap.size := by omega
  have k_u3_s3 : u3.heap.size < s3.heap.size := by omega
  have k_bp3_s3 : bp3 < s3.heap.size := by omega
  have k_bq3_s3 : bq3 < s3.heap.size := by omega
  have k_br3_s3 : br3 < s3.heap.size := by omega
  go_wp2_with fail
  refine Flow.wp_region_below 37 (by kernel_rfl) (by kernel_rfl) (fun R hRc hRt => ?_)
  simp only [List.take_succ_cons, List.take_zero, List.drop_succ_cons, List.drop_zero]
  iterate 37
    first
      | refine Flow.flow_skip rfl ?_
      | (apply Flow.flow_step; rfl; (intro w1 hb; have hc := hRc.out w1 hb; go_simp; (first | with_reducible exact ⟨rfl, hb⟩)))
      | (apply Flow.flow_guardT rfl rfl rfl; (intro hg w1 hb; have hc := hRc.out w1 hb; go_simp; (first | with_reducible exact ⟨rfl, hb⟩)))
      | (apply Flow.flow_guardF rfl rfl rfl; (intro hg w1 hb; have hc := hRc.out w1 hb; go_simp; (first | with_reducible exact ⟨rfl, hb⟩)))
      | (apply Flow.flow_guardT2 rfl rfl rfl; (intro hp hg w1 hb; have hc := hRc.out w1 hb; go_simp; (first | with_reducible exact ⟨rfl, hb⟩)))
      | (apply Flow.flow_guardF2 rfl rfl rfl; (intro hp hg w1 hb; have hc := hRc.out w1 hb; go_simp; (first | with_reducible exact ⟨rfl, hb⟩)))
    simp only [Act.put, List.setIfInBounds_toArray, List.set_cons_zero, List.set_cons_succ]
  apply Flow.flow_nil
  clear hRc hRt
  intro w1 hb
  obtain ⟨hc, hf⟩ := Flow.bcell hb
  have hz := hb.size
  (try simp only [World.size_alloc, World.size_setCell, World.size_drew] at hz)
  obtain ⟨z0, z1, z2, z3⟩ := Flow.zs4 (show w.heap.size + 4 ≤ w1.heap.size by omega)
  obtain ⟨t3, hqt3⟩ : ∃ z : World, z = w1 := ⟨_, rfl⟩
  subst hqt3
  have k_u1_t3 : u1.heap.size < t3.heap.size := by omega
  have k_u2_t3 : u2.heap.size < t3.heap.size := by omega
  have k_u3_t3 : u3.heap.size < t3.heap.size := by omega
  go_wp2_with fail
  have g300 : t3.cell? ⟨w.heap.size, 0, none⟩ = some (uv x.a) := by go_simp
  have g301 : t3.cell? ⟨w.heap.size, 1, none⟩ = some (uv x.b) := by go_simp
  have g302 : t3.cell? ⟨w.heap.size, 2, none⟩ = some (uv x.c) := by go_simp
  have g303 : t3.cell? ⟨w.heap.size, 3, none⟩ = some (uv x.d) := by go_simp
  have g310 : t3.cell? ⟨w.heap.size + 1, 0, none⟩ = some (uv a.a) := by go_simp
  have g311 : t3.cell? ⟨w.heap.size + 1, 1, none⟩ = some (uv a.b) := by go_simp
  have g312 : t3.cell? ⟨w.heap.size + 1, 2, none⟩ = some (uv a.c) := by go_simp
  have g313 : t3.cell? ⟨w.heap.size + 1, 3, none⟩ = some (uv a.d) := by go_simp
  have g320 : t3.cell? ⟨w.heap.size + 1 + 1, 0, none⟩ = some (uv y.a) := by go_simp
  have g321 : t3.cell? ⟨w.heap.size + 1 + 1, 1, none⟩ = some (uv y.b) := by go_simp
  have g322 : t3.cell? ⟨w.heap.size + 1 + 1, 2, none⟩ = some (uv y.c) := by go_simp
  have g323 : t3.cell? ⟨w.heap.size + 1 + 1, 3, none⟩ = some (uv y.d) := by go_simp
  have g330 : t3.cell? ⟨w.heap.size + 1 + 1 + 1, 0, none⟩ = some (uv b.a) := by go_simp
  have g331 : t3.cell? ⟨w.heap.size + 1 + 1 + 1, 1, none⟩ = some (uv b.b) := by go_simp
  have g332 : t3.cell? ⟨w.heap.size + 1 + 1 + 1, 2, none⟩ = some (uv b.c) := by go_simp
  have g333 : t3.cell? ⟨w.heap.size + 1 + 1 + 1, 3, none⟩ = some (uv b.d) := by go_simp
  have h300 : t3.cell? ⟨u1.heap.size, 0, none⟩ = some (uv add.a) := by go_simp
  have h301 : t3.cell? ⟨u1.heap.size, 1, none⟩ = some (uv add.b) := by go_simp
  have h302 : t3.cell? ⟨u1.heap.size, 2, none⟩ = some (uv add.c) := by go_simp
  have h303 : t3.cell? ⟨u1.heap.size, 3, none⟩ = some (uv add.d) := by go_simp
  have h310 : t3.cell? ⟨u2.heap.size, 0, none⟩ = some (uv sub.a) := by go_simp
  have h311 : t3.cell? ⟨u2.heap.size, 1, none⟩ = some (uv sub.b) := by go_simp
  have h312 : t3.cell? ⟨u2.heap.size, 2, none⟩ = some (uv sub.c) := by go_simp
  have h313 : t3.cell? ⟨u2.heap.size, 3, none⟩ = some (uv sub.d) := by go_simp
  have h320 : t3.cell? ⟨u3.heap.size, 0, none⟩ = some (uv eq.a) := by go_simp
  have h321 : t3.cell? ⟨u3.heap.size, 1, none⟩ = some (uv eq.b) := by go_simp
  have h322 : t3.cell? ⟨u3.heap.size, 2, none⟩ = some (uv eq.c) := by go_simp
  have h323 : t3.cell? ⟨u3.heap.size, 3, none⟩ = some (uv eq.d) := by go_simp
  have gb3 : Below w.heap.size w t3 := by (repeat (first | exact Below.refl _ _ | refine Below.setCell ?_ (by first | omega | (simp <;> omega)) _ | refine Below.alloc ?_ (by first | omega | (simp <;> omega)) _ | refine Below.drew ?_ | refine Below.trans ?_ (Below.mono (by assumption) (by first | omega | (simp <;> omega)))))
  have gs30 : w.heap.size < t3.heap.size := by omega
  have gs31 : w.heap.size + 1 < t3.heap.size := by omega
  have gs32 : w.heap.size + 1 + 1 < t3.heap.size := by omega
  have gs33 : w.heap.size + 1 + 1 + 1 < t3.heap.size := by omega
  revert g300 g301 g302 g303 g310 g311 g312 g313 g320 g321 g322 g323 g330 g331 g332 g333 h300 h301 h302 h303 h310 h311 h312 h313 h320 h321 h322 h323 gb3 gs30 gs31 gs32 gs33 k_u1_t3 k_u2_t3 k_u3_t3
  generalize t3 = T3
  intro g300 g301 g302 g303 g310 g311 g312 g313 g320 g321 g322 g323 g330 g331 g332 g333 h300 h301 h302 h303 h310 h311 h312 h313 h320 h321 h322 h323 gb3 gs30 gs31 gs32 gs33 k_u1_t3 k_u2_t3 k_u3_t3
  rw [rounds_succ]
  go_wp2_with fail
  go_ret
  exact ⟨rfl, by (repeat (first | exact Below.refl _ _ | refine Below.setCell ?_ (by first | omega | (simp <;> omega)) _ | refine Below.alloc ?_ (by first | omega | (simp <;> omega)) _ | refine Below.drew ?_ | refine Below.trans ?_ (Below.mono (by assumption) (by first | omega | (simp <;> omega)))))⟩
end Go.Proofs.Ytboknfppecgjmaa
