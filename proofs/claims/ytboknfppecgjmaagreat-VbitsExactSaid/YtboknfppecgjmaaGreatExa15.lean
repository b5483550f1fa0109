/- Part 15 of the proof's texts: Ask. -/
import Derived.Test.YtboknfppecgjmaaGreatExa1
import Derived.Test.YtboknfppecgjmaaGreatExa12
import Derived.Test.YtboknfppecgjmaaGreatExa14
set_option maxHeartbeats 16000000
namespace Go.Proofs.YtboknfppecgjmaaGreat
set_option linter.unusedVariables false
set_option linter.unusedSimpArgs false
open Go.RowKit Go.Shelf
structure Ask where
  kind : Int
  op : Int
  from_ : Int
  to : Int
  off : Int
  c : V
  d : V
  x : V
  a : V
  y : V
  b : V
  l : Value
  s : Value
  p : V
  q : V
  r : V
  t : V
abbrev akc (q : Ask) : Array Value := #[iv q.kind, iv q.op, iv q.from_, iv q.to, iv q.off, uv q.c.a, uv q.c.b, uv q.c.c, uv q.c.d, uv q.d.a, uv q.d.b, uv q.d.c, uv q.d.d, uv q.x.a, uv q.x.b, uv q.x.c, uv q.x.d, uv q.a.a, uv q.a.b, uv q.a.c, uv q.a.d, uv q.y.a, uv q.y.b, uv q.y.c, uv q.y.d, uv q.b.a, uv q.b.b, uv q.b.c, uv q.b.d, q.l, q.s,
  uv q.p.a, uv q.p.b, uv q.p.c, uv q.p.d, uv q.q.a, uv q.q.b, uv q.q.c, uv q.q.d, uv q.r.a, uv q.r.b, uv q.r.c, uv q.r.d, uv q.t.a, uv q.t.b, uv q.t.c, uv q.t.d]
abbrev akv (q : Ask) : Value := .agg (akc q)
def Ask.sec (q : Ask) : Int := if q.kind = 1 ∧ q.op = 30 then 32 else q.from_
set_option maxRecDepth 100000 in
theorem second'_c (q : Ask) (w : World) : Calls Tryz.prog 34 #[akv q] w fun e w' => e = .returned (iv q.sec) ∧ Below w.heap.size w w' := by
  go_enter Tryz.func34, Tryz.ntmps34
  go_wp2
  all_goals go_ret
  all_goals (refine ⟨?_, by (repeat (first | exact Below.refl _ _ | refine Below.setCell ?_ (by first | omega | (simp <;> omega)) _ | refine Below.alloc ?_ (by first | omega | (simp <;> omega)) _ | refine Below.drew ?_ | refine Below.trans ?_ (Below.mono (by assumption) (by first | omega | (simp <;> omega)))))⟩)
  all_goals (go_tidy; simp_all [Ask.sec])
set_option maxRecDepth 100000 in
theorem result0_c (q : Ask) (hk : (q.kind == 0) = true) (w : World) : Calls Tryz.prog 11 #[akv q] w fun e w' => e = .returned (iv (Rf.exUn q.op q.from_ q.to q.off)) ∧ Below w.heap.size w w' := by
  go_enter Tryz.func11, Tryz.ntmps11
  go_wp2_with (go_at_call 36; refine (exun_c q.op q.from_ q.to q.off _ 0 _ _ 0 _ _ (by go_simp) (by go_simp) (by go_simp) (by go_simp) (by go_simp) (by go_simp) (by go_simp) ).mono ?_; rintro e w1 ⟨rfl, hb⟩; obtain ⟨hc, hf⟩ := Flow.bcell hb; have hz := hb.size; (try simp only [World.size_alloc, World.size_setCell, World.size_drew] at hz); obtain z0 := Flow.zs1 (show w.heap.size + 1 ≤ w1.heap.size by omega))
  go_ret
  exact ⟨rfl, by (repeat (first | exact Below.refl _ _ | refine Below.setCell ?_ (by first | omega | (simp <;> omega)) _ | refine Below.alloc ?_ (by first | omega | (simp <;> omega)) _ | refine Below.drew ?_ | refine Below.trans ?_ (Below.mono (by assumption) (by first | omega | (simp <;> omega)))))⟩
set_option maxRecDepth 100000 in
theorem result2_c (q : Ask) (hk0 : (q.kind == 0) = false) (hk1 : (q.kind == 1) = false) (hk : (q.kind == 2) = true) (w : World) : Calls Tryz.prog 11 #[akv q] w fun e w' => e = .returned (iv (Rf.tmpTy q.from_)) ∧ Below w.heap.size w w' := by
  have hb := bytes_pos q.from_
  cases h : decide (0 < Rf.bytes q.from_)
  · have HV := Lib.hid (show Rf.tmpTy q.from_ = 0 by rw [tmpTy_eq, if_neg (fun h2 => of_decide_eq_false h (hb.2 h2))])
    clear hb
    go_enter Tryz.func11, Tryz.ntmps11
    go_wp2_with (go_at_call 37; refine (bytes_c _ _).mono ?_; rintro e w1 ⟨rfl, rfl⟩)
    go_ret
    exact ⟨by rw [HV.out]; rfl, by (repeat (first | exact Below.refl _ _ | refine Below.setCell ?_ (by first | omega | (simp <;> omega)) _ | refine Below.alloc ?_ (by first | omega | (simp <;> omega)) _ | refine Below.drew ?_ | refine Below.trans ?_ (Below.mono (by assumption) (by first | omega | (simp <;> omega)))))⟩
  · have HV := Lib.hid (show Rf.tmpTy q.from_ = q.from_ by rw [tmpTy_eq, if_pos (hb.1 (of_decide_eq_true h))])
    clear hb
    go_enter Tryz.func11, Tryz.ntmps11
    go_wp2_with (go_at_call 37; refine (bytes_c _ _).mono ?_; rintro e w1 ⟨rfl, rfl⟩)
    go_ret
    exact ⟨by rw [HV.out]; rfl, by (repeat (first | exact Below.refl _ _ | refine Below.setCell ?_ (by first | omega | (simp <;> omega)) _ | refine Below.alloc ?_ (by first | omega | (simp <;> omega)) _ | refine Below.drew ?_ | refine Below.trans ?_ (Below.mono (by assumption) (by first | omega | (simp <;> omega)))))⟩
set_option maxRecDepth 100000 in
theorem result9_c (q : Ask) (hk0 : (q.kind == 0) = false) (hk1 : (q.kind == 1) = false) (hk2 : (q.kind == 2) = false) (hk3 : (q.kind == 3) = false) (w : World) : Calls Tryz.prog 11 #[akv q] w fun e w' => e = .returned (iv 0) ∧ Below w.heap.size w w' := by
  go_enter Tryz.func11, Tryz.ntmps11
  go_wp2_with fail
  go_ret
  exact ⟨rfl, by (repeat (first | exact Below.refl _ _ | refine Below.setCell ?_ (by first | omega | (simp <;> omega)) _ | refine Below.alloc ?_ (by first | omega | (simp <;> omega)) _ | refine Below.drew ?_ | refine Below.trans ?_ (Below.mono (by assumption) (by first | omega | (simp <;> omega)))))⟩
set_option maxRecDepth 100000 in
theorem result3_c (q : Ask) (al : Option Addr) (n cap : Nat) (hl : q.l = .slice al n cap) (hn : n ≤ maxLen) (hk0 : (q.kind == 0) = false) (hk1 : (q.kind == 1) = false) (hk2 : (q.kind == 2) = false) (hk3 : (q.kind == 3) = true) (w : World) :
    Calls Tryz.prog 11 #[akv q] w fun e w' => e = .returned (iv (if (q.op == 1 && ((n : Int) == 4)) || (q.op == 2 && ((n : Int) == 5)) then 32 else 0)) ∧ Below w.heap.size w w' := by
  unfold maxLen at hn
  obtain ⟨kind, op, from_, to, off, c, d, x, a, y, b, l, s, p, qq, r, t⟩ := q
  simp only at hl hk0 hk1 hk2 hk3
  subst hl
  go_enter Tryz.func11, Tryz.ntmps11
  go_wp2_with fail
  all_goals go_ret
  all_goals (refine ⟨?_, by (repeat (first | exact Below.refl _ _ | refine Below.setCell ?_ (by first | omega | (simp <;> omega)) _ | refine Below.alloc ?_ (by first | omega | (simp <;> omega)) _ | refine Below.drew ?_ | refine Below.trans ?_ (Below.mono (by assumption) (by first | omega | (simp <;> omega)))))⟩)
  all_goals (go_tidy; simp_all)
set_option maxRecDepth 100000 in
theorem result1a_c (q : Ask) (hk0 : (q.kind == 0) = false) (hk : (q.kind == 1) = true) (w : World) (h1 : ((Rf.exBin q.op q.from_ q.sec q.from_ q.off) != 0) = true) : Calls Tryz.prog 11 #[akv q] w fun e w' => e = .returned (iv (Rf.exBin q.op q.from_ q.sec q.from_ q.off)) ∧ Below w.heap.size w w' := by
  go_enter Tryz.func11, Tryz.ntmps11
  go_wp2_with fail
  refine wp_loop_rounds 3 ?_
  rw [rounds_succ]
  go_wp2_with fail
  have HBLK := heap_alloc2_old w (.cells (akc q) 28) (.cells #[iv q.from_, .int .i64 1] 3)
  refine FlowY.wp_region_two 14 4 12 13 37 45 46 2 2 #[iv q.from_, iv q.sec] #[.int .i64 0, .int .i64 0, uv 0#32, uv 0#32, uv 0#32, uv 0#32, .int .i64 1, .int .i64 0, uv 0#32, uv 0#32, uv 0#32, uv 0#32] 3 60 (fun b => .agg #[iv 4, iv q.from_, iv q.op, iv q.off, FlowY.sl 2 b]) (by kernel_rfl) (by kernel_rfl) (by kernel_rfl) (fun X hXc hXt hXb hsp hA hB hC => ?_)
  simp only [List.take_succ_cons, List.take_zero, List.drop_succ_cons, List.drop_zero]
  iterate 14
    first
      | (refine FlowY.flow_sp hsp rfl (hA.out _ _ rfl (fun w1 => ?_)) ?_; go_simp)
      | (refine FlowY.flow_sp hsp rfl (hB.out _ _ rfl (fun w1 => ?_)) ?_; go_simp)
      | (refine FlowY.flow_sp hsp rfl (hC.out _ _ rfl (fun b1 w1 => ?_)) ?_; (simp only [Act.put, List.setIfInBounds_toArray, List.set_cons_zero, List.set_cons_succ]; go_simp))
      | (apply FlowY.flow_step hsp; rfl; rfl; (intro s1 w1 hb; exact FlowY.runsTo_load_row 28 (.tmp 1) rfl w.heap.size rfl 28 (akc q) (0, 0) _ ((hXb.out s1 w1 hb _ (by first | omega | (simp <;> omega))).trans HBLK) Tryz.underlying28 rfl (by kernel_rfl) ⟨rfl, hb⟩))
      | (apply FlowY.flow_step hsp; rfl; rfl; (intro s1 w1 hb; have hc := hXc.out s1 w1 hb; go_simp; (first | with_reducible exact ⟨rfl, hb⟩ | with_reducible exact rfl | (go_at_call 34; refine (second'_c _ _).mono ?_; rintro e w2 ⟨rfl, hb2⟩; exact ⟨_, rfl, rfl, hXt.out _ _ _ hb hb2⟩))))
    (try simp only [Act.put, List.setIfInBounds_toArray, List.set_cons_zero, List.set_cons_succ])
  apply FlowY.flow_nil
  clear hXc hXt hXb hsp hA hB hC
  intro bAu1 bBu1 u1 hb hbA hbB hoA hoB
  have HBu1 := (hb.block w.heap.size (by first | omega | (simp <;> omega))).trans HBLK
  simp only [Act.put, List.setIfInBounds_toArray, List.set_cons_zero, List.set_cons_succ]
  obtain ⟨hc, hf⟩ := Flow.bcell hb
  have hz := hb.size
  (try simp only [World.size_alloc, World.size_setCell, World.size_drew] at hz)
  obtain ⟨hcA, hfA, hsA⟩ := FlowA.made_cells hoA
  obtain ⟨hcB, hfB, hsB⟩ := FlowA.made_cells hoB
  clear hoA hoB
  have yu1 := Flow.zs2 (show w.heap.size + 2 ≤ u1.heap.size by omega)
  obtain ⟨yu1a, yu1b⟩ := yu1
  go_wp2_with fail
  refine (exbin_c q.op q.from_ q.sec q.from_ q.off _ 0 _ _ 0 _ _ (by go_simp) (by go_simp) ⟨by go_simp, by go_simp, by go_simp, by go_simp, by go_simp, by go_simp, by go_simp, by go_simp, by go_simp, by go_simp, by go_simp, by go_simp⟩).mono ?_
  rintro e u2 ⟨rfl, hb⟩
  have HBLK2 := (hb.block w.heap.size (by omega)).trans HBu1
  obtain ⟨hc, hf⟩ := Flow.bcell hb
  have hz := hb.size
  have yu2 := Flow.zs2 (show w.heap.size + 2 ≤ u2.heap.size by omega)
  obtain ⟨yu2a, yu2b⟩ := yu2
  go_wp2_with fail
  go_ret
  exact ⟨rfl, by (repeat (first | exact Below.refl _ _ | refine Below.setCell ?_ (by first | omega | (simp <;> omega)) _ | refine Below.alloc ?_ (by first | omega | (simp <;> omega)) _ | refine Below.drew ?_ | refine Below.trans ?_ (Below.mono (by assumption) (by first | omega | (simp <;> omega)))))⟩
set_option maxRecDepth 100000 in
theorem result1b_c (q : Ask) (hk0 : (q.kind == 0) = false) (hk : (q.kind == 1) = true) (w : World) (h1 : ((Rf.exBin q.op q.from_ q.sec q.from_ q.off) != 0) = false) (h2 : ((Rf.exBin q.op q.from_ q.sec 1 q.off) != 0) = true) : Calls Tryz.prog 11 #[akv q] w fun e w' => e = .returned (iv (Rf.exBin q.op q.from_ q.sec 1 q.off)) ∧ Below w.heap.size w w' := by
  go_enter Tryz.func11, Tryz.ntmps11
  go_wp2_with fail
  refine wp_loop_rounds 3 ?_
  rw [rounds_succ]
  go_wp2_with fail
  have HBLK := heap_alloc2_old w (.cells (akc q) 28) (.cells #[iv q.from_, .int .i64 1] 3)
  refine FlowY.wp_region_two 14 4 12 13 37 45 46 2 2 #[iv q.from_, iv q.sec] #[.int .i64 0, .int .i64 0, uv 0#32, uv 0#32, uv 0#32, uv 0#32, .int .i64 1, .int .i64 0, uv 0#32, uv 0#32, uv 0#32, uv 0#32] 3 60 (fun b => .agg #[iv 4, iv q.from_, iv q.op, iv q.off, FlowY.sl 2 b]) (by kernel_rfl) (by kernel_rfl) (by kernel_rfl) (fun X hXc hXt hXb hsp hA hB hC => ?_)
  simp only [List.take_succ_cons, List.take_zero, List.drop_succ_cons, List.drop_zero]
  iterate 14
    first
      | (refine FlowY.flow_sp hsp rfl (hA.out _ _ rfl (fun w1 => ?_)) ?_; go_simp)
      | (refine FlowY.flow_sp hsp rfl (hB.out _ _ rfl (fun w1 => ?_)) ?_; go_simp)
      | (refine FlowY.flow_sp hsp rfl (hC.out _ _ rfl (fun b1 w1 => ?_)) ?_; (simp only [Act.put, List.setIfInBounds_toArray, List.set_cons_zero, List.set_cons_succ]; go_simp))
      | (apply FlowY.flow_step hsp; rfl; rfl; (intro s1 w1 hb; exact FlowY.runsTo_load_row 28 (.tmp 1) rfl w.heap.size rfl 28 (akc q) (0, 0) _ ((hXb.out s1 w1 hb _ (by first | omega | (simp <;> omega))).trans HBLK) Tryz.underlying28 rfl (by kernel_rfl) ⟨rfl, hb⟩))
      | (apply FlowY.flow_step hsp; rfl; rfl; (intro s1 w1 hb; have hc := hXc.out s1 w1 hb; go_simp; (first | with_reducible exact ⟨rfl, hb⟩ | with_reducible exact rfl | (go_at_call 34; refine (second'_c _ _).mono ?_; rintro e w2 ⟨rfl, hb2⟩; exact ⟨_, rfl, rfl, hXt.out _ _ _ hb hb2⟩))))
    (try simp only [Act.put, List.setIfInBounds_toArray, List.set_cons_zero, List.set_cons_succ])
  apply FlowY.flow_nil
  clear hXc hXt hXb hsp hA hB hC
  intro bAu1 bBu1 u1 hb hbA hbB hoA hoB
  have HBu1 := (hb.block w.heap.size (by first | omega | (simp <;> omega))).trans HBLK
  simp only [Act.put, List.setIfInBounds_toArray, List.set_cons_zero, List.set_cons_succ]
  obtain ⟨hc, hf⟩ := Flow.bcell hb
  have hz := hb.size
  (try simp only [World.size_alloc, World.size_setCell, World.size_drew] at hz)
  obtain ⟨hcA, hfA, hsA⟩ := FlowA.made_cells hoA
  obtain ⟨hcB, hfB, hsB⟩ := FlowA.made_cells hoB
  clear hoA hoB
  have yu1 := Flow.zs2 (show w.heap.size + 2 ≤ u1.heap.size by omega)
  obtain ⟨yu1a, yu1b⟩ := yu1
  go_wp2_with fail
  refine (exbin_c q.op q.from_ q.sec q.from_ q.off _ 0 _ _ 0 _ _ (by go_simp) (by go_simp) ⟨by go_simp, by go_simp, by go_simp, by go_simp, by go_simp, by go_simp, by go_simp, by go_simp, by go_simp, by go_simp, by go_simp, by go_simp⟩).mono ?_
  rintro e u2 ⟨rfl, hb⟩
  have HBLK2 := (hb.block w.heap.size (by omega)).trans HBu1
  obtain ⟨hc, hf⟩ := Flow.bcell hb
  have hz := hb.size
  have yu2 := Flow.zs2 (show w.heap.size + 2 ≤ u2.heap.size by omega)
  obtain ⟨yu2a, yu2b⟩ := yu2
  go_wp2_with fail
  rw [rounds_succ]
  go_wp2_with fail
  have HBLK := HBLK2
  refine FlowY.wp_region_two 14 4 12 13 37 45 46 2 2 #[iv q.from_, iv q.sec] #[.int .i64 0, .int .i64 0, uv 0#32, uv 0#32, uv 0#32, uv 0#32, .int .i64 1, .int .i64 0, uv 0#32, uv 0#32, uv 0#32, uv 0#32] 3 60 (fun b => .agg #[iv 4, iv 1, iv q.op, iv q.off, FlowY.sl 2 b]) (by kernel_rfl) (by kernel_rfl) (by kernel_rfl) (fun X hXc hXt hXb hsp hA hB hC => ?_)
  simp only [List.take_succ_cons, List.take_zero, List.drop_succ_cons, List.drop_zero]
  iterate 14
    first
      | (refine FlowY.flow_sp hsp rfl (hA.out _ _ rfl (fun w1 => ?_)) ?_; go_simp)
      | (refine FlowY.flow_sp hsp rfl (hB.out _ _ rfl (fun w1 => ?_)) ?_; go_simp)
      | (refine FlowY.flow_sp hsp rfl (hC.out _ _ rfl (fun b1 w1 => ?_)) ?_; (simp only [Act.put, List.setIfInBounds_toArray, List.set_cons_zero, List.set_cons_succ]; go_simp))
      | (apply FlowY.flow_step hsp; rfl; rfl; (intro s1 w1 hb; exact FlowY.runsTo_load_row 28 (.tmp 1) rfl w.heap.size rfl 28 (akc q) (0, 0) _ ((hXb.out s1 w1 hb _ (by first | omega | (simp <;> omega))).trans HBLK) Tryz.underlying28 rfl (by kernel_rfl) ⟨rfl, hb⟩))
      | (apply FlowY.flow_step hsp; rfl; rfl; (intro s1 w1 hb; have hc := hXc.out s1 w1 hb; go_simp; (first | with_reducible exact ⟨rfl, hb⟩ | with_reducible exact rfl | (go_at_call 34; refine (second'_c _ _).mono ?_; rintro e w2 ⟨rfl, hb2⟩; exact ⟨_, rfl, rfl, hXt.out _ _ _ hb hb2⟩))))
    (try simp only [Act.put, List.setIfInBounds_toArray, List.set_cons_zero, List.set_cons_succ])
  apply FlowY.flow_nil
  clear hXc hXt hXb hsp hA hB hC
  intro bAu3 bBu3 u3 hb hbA hbB hoA hoB
  have HBu3 := (hb.block w.heap.size (by first | omega | (simp <;> omega))).trans HBLK
  simp only [Act.put, List.setIfInBounds_toArray, List.set_cons_zero, List.set_cons_succ]
  obtain ⟨hc, hf⟩ := Flow.bcell hb
  have hz := hb.size
  (try simp only [World.size_alloc, World.size_setCell, World.size_drew] at hz)
  obtain ⟨hcA, hfA, hsA⟩ := FlowA.made_cells hoA
  obtain ⟨hcB, hfB, hsB⟩ := FlowA.made_cells hoB
  clear hoA hoB
  have yu3 := Flow.zs2 (show w.heap.size + 2 ≤ u3.heap.size by omega)
  obtain ⟨yu3a, yu3b⟩ := yu3
  go_wp2_with fail
  refine (exbin_c q.op q.from_ q.sec 1 q.off _ 0 _ _ 0 _ _ (by go_simp) (by go_simp) ⟨by go_simp, by go_simp, by go_simp, by go_simp, by go_simp, by go_simp, by go_simp, by go_simp, by go_simp, by go_simp, by go_simp, by go_simp⟩).mono ?_
  rintro e u4 ⟨rfl, hb⟩
  obtain ⟨hc, hf⟩ := Flow.bcell hb
  have hz := hb.size
  have yu4 := Flow.zs2 (show w.heap.size + 2 ≤ u4.heap.size by omega)
  obtain ⟨yu4a, yu4b⟩ := yu4
  go_wp2_with fail
  go_ret
  exact ⟨rfl, by (repeat (first | exact Below.refl _ _ | refine Below.setCell ?_ (by first | omega | (simp <;> omega)) _ | refine Below.alloc ?_ (by first | omega | (simp <;> omega)) _ | refine Below.drew ?_ | refine Below.trans ?_ (Below.mono (by assumption) (by first | omega | (simp <;> omega)))))⟩
set_option maxRecDepth 100000 in
theorem result1c_c (q : Ask) (hk0 : (q.kind == 0) = false) (hk : (q.kind == 1) = true) (w : World) (h1 : ((Rf.exBin q.op q.from_ q.sec q.from_ q.off) != 0) = false) (h2 : ((Rf.exBin q.op q.from_ q.sec 1 q.off) != 0) = false) : Calls Tryz.prog 11 #[akv q] w fun e w' => e = .returned (iv 0) ∧ Below w.heap.size w w' := by
  go_enter Tryz.func11, Tryz.ntmps11
  go_wp2_with fail
  refine wp_loop_rounds 3 ?_
  rw [rounds_succ]
  go_wp2_with fail
  have HBLK := heap_alloc2_old w (.cells (akc q) 28) (.cells #[iv q.from_, .int .i64 1] 3)
  refine FlowY.wp_region_two 14 4 12 13 37 45 46 2 2 #[iv q.from_, iv q.sec] #[.int .i64 0, .int .i64 0, uv 0#32, uv 0#32, uv 0#32, uv 0#32, .int .i64 1, .int .i64 0, uv 0#32, uv 0#32, uv 0#32, uv 0#32] 3 60 (fun b => .agg #[iv 4, iv q.from_, iv q.op, iv q.off, FlowY.sl 2 b]) (by kernel_rfl) (by kernel_rfl) (by kernel_rfl) (fun X hXc hXt hXb hsp hA hB hC => ?_)
  simp only [List.take_succ_cons, List.take_zero, List.drop_succ_cons, List.drop_zero]
  iterate 14
    first
      | (refine FlowY.flow_sp hsp rfl (hA.out _ _ rfl (fun w1 => ?_)) ?_; go_simp)
      | (refine FlowY.flow_sp hsp rfl (hB.out _ _ rfl (fun w1 => ?_)) ?_; go_simp)
      | (refine FlowY.flow_sp hsp rfl (hC.out _ _ rfl (fun b1 w1 => ?_)) ?_; (simp only [Act.put, List.setIfInBounds_toArray, List.set_cons_zero, List.set_cons_succ]; go_simp))
      | (apply FlowY.flow_step hsp; rfl; rfl; (intro s1 w1 hb; exact FlowY.runsTo_load_row 28 (.tmp 1) rfl w.heap.size rfl 28 (akc q) (0, 0) _ ((hXb.out s1 w1 hb _ (by first | omega | (simp <;> omega))).trans HBLK) Tryz.underlying28 rfl (by kernel_rfl) ⟨rfl, hb⟩))
      | (apply FlowY.flow_step hsp; rfl; rfl; (intro s1 w1 hb; have hc := hXc.out s1 w1 hb; go_simp; (first | with_reducible exact ⟨rfl, hb⟩ | with_reducible exact rfl | (go_at_call 34; refine (second'_c _ _).mono ?_; rintro e w2 ⟨rfl, hb2⟩; exact ⟨_, rfl, rfl, hXt.out _ _ _ hb hb2⟩))))
    (try simp only [Act.put, List.setIfInBounds_toArray, List.set_cons_zero, List.set_cons_succ])
  apply FlowY.flow_nil
  clear hXc hXt hXb hsp hA hB hC
  intro bAu1 bBu1 u1 hb hbA hbB hoA hoB
  have HBu1 := (hb.block w.heap.size (by first | omega | (simp <;> omega))).trans HBLK
  simp only [Act.put, List.setIfInBounds_toArray, List.set_cons_zero, List.set_cons_succ]
  obtain ⟨hc, hf⟩ := Flow.bcell hb
  have hz := hb.size
  (try simp only [World.size_alloc, World.size_setCell, World.size_drew] at hz)
  obtain ⟨hcA, hfA, hsA⟩ := FlowA.made_cells hoA
  obtain ⟨hcB, hfB, hsB⟩ := FlowA.made_cells hoB
  clear hoA hoB
  have yu1 := Flow.zs2 (show w.heap.size + 2 ≤ u1.heap.size by omega)
  obtain ⟨yu1a, yu1b⟩ := yu1
  go_wp2_with fail
  refine (exbin_c q.op q.from_ q.sec q.from_ q.off _ 0 _ _ 0 _ _ (by go_simp) (by go_simp) ⟨by go_simp, by go_simp, by go_simp, by go_simp, by go_simp, by go_simp, by go_simp, by go_simp, by go_simp, by go_simp, by go_simp, by go_simp⟩).mono ?_
  rintro e u2 ⟨rfl, hb⟩
  have HBLK2 := (hb.block w.heap.size (by omega)).trans HBu1
  obtain ⟨hc, hf⟩ := Flow.bcell hb
  have hz := hb.size
  have yu2 := Flow.zs2 (show w.heap.size + 2 ≤ u2.heap.size by omega)
  obtain ⟨yu2a, yu2b⟩ := yu2
  go_wp2_with fail
  rw [rounds_succ]
  go_wp2_with fail
  have HBLK := HBLK2
  refine FlowY.wp_region_two 14 4 12 13 37 45 46 2 2 #[iv q.from_, iv q.sec] #[.int .i64 0, .int .i64 0, uv 0#32, uv 0#32, uv 0#32, uv 0#32, .int .i64 1, .int .i64 0, uv 0#32, uv 0#32, uv 0#32, uv 0#32] 3 60 (fun b => .agg #[iv 4, iv 1, iv q.op, iv q.off, FlowY.sl 2 b]) (by kernel_rfl) (by kernel_rfl) (by kernel_rfl) (fun X hXc hXt hXb hsp hA hB hC => ?_)
  simp only [List.take_succ_cons, List.take_zero, List.drop_succ_cons, List.drop_zero]
  iterate 14
    first
      | (refine FlowY.flow_sp hsp rfl (hA.out _ _ rfl (fun w1 => ?_)) ?_; go_simp)
      | (refine FlowY.flow_sp hsp rfl (hB.out _ _ rfl (fun w1 => ?_)) ?_; go_simp)
      | (refine FlowY.flow_sp hsp rfl (hC.out _ _ rfl (fun b1 w1 => ?_)) ?_; (simp only [Act.put, List.setIfInBounds_toArray, List.set_cons_zero, List.set_cons_succ]; go_simp))
      | (apply FlowY.flow_step hsp; rfl; rfl; (intro s1 w1 hb; exact FlowY.runsTo_load_row 28 (.tmp 1) rfl w.heap.size rfl 28 (akc q) (0, 0) _ ((hXb.out s1 w1 hb _ (by first | omega | (simp <;> omega))).trans HBLK) Tryz.underlying28 rfl (by kernel_rfl) ⟨rfl, hb⟩))
      | (apply FlowY.flow_step hsp; rfl; rfl; (intro s1 w1 hb; have hc := hXc.out s1 w1 hb; go_simp; (first | with_reducible exact ⟨rfl, hb⟩ | with_reducible exact rfl | (go_at_call 34; refine (second'_c _ _).mono ?_; rintro e w2 ⟨rfl, hb2⟩; exact ⟨_, rfl, rfl, hXt.out _ _ _ hb hb2⟩))))
    (try simp only [Act.put, List.setIfInBounds_toArray, List.set_cons_zero, List.set_cons_succ])
  apply FlowY.flow_nil
  clear hXc hXt hXb hsp hA hB hC
  intro bAu3 bBu3 u3 hb hbA hbB hoA hoB
  have HBu3 := (hb.block w.heap.size (by first | omega | (simp <;> omega))).trans HBLK
  simp only [Act.put, List.setIfInBounds_toArray, List.set_cons_zero, List.set_cons_succ]
  obtain ⟨hc, hf⟩ := Flow.bcell hb
  have hz := hb.size
  (try simp only [World.size_alloc, World.size_setCell, World.size_drew] at hz)
  obtain ⟨hcA, hfA, hsA⟩ := FlowA.made_cells hoA
  obtain ⟨hcB, hfB, hsB⟩ := FlowA.made_cells hoB
  clear hoA hoB
  have yu3 := Flow.zs2 (show w.heap.size + 2 ≤ u3.heap.size by omega)
  obtain ⟨yu3a, yu3b⟩ := yu3
  go_wp2_with fail
  refine (exbin_c q.op q.from_ q.sec 1 q.off _ 0 _ _ 0 _ _ (by go_simp) (by go_simp) ⟨by go_simp, by go_simp, by go_simp, by go_simp, by go_simp, by go_simp, by go_simp, by go_simp, by go_simp, by go_simp, by go_simp, by go_simp⟩).mono ?_
  rintro e u4 ⟨rfl, hb⟩
  obtain ⟨hc, hf⟩ := Flow.bcell hb
  have hz := hb.size
  have yu4 := Flow.zs2 (show w.heap.size + 2 ≤ u4.heap.size by omega)
  obtain ⟨yu4a, yu4b⟩ := yu4
  go_wp2_with fail
  rw [rounds_succ]
  go_wp2_with fail
  go_ret
  exact ⟨rfl, by (repeat (first | exact Below.refl _ _ | refine Below.setCell ?_ (by first | omega | (simp <;> omega)) _ | refine Below.alloc ?_ (by first | omega | (simp <;> omega)) _ | refine Below.drew ?_ | refine Below.trans ?_ (Below.mono (by assumption) (by first | omega | (simp <;> omega)))))⟩
end Go.Proofs.YtboknfppecgjmaaGreat
