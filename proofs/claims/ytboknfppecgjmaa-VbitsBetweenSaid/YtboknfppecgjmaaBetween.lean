/- VbitsBetween: the walk. -/
import Derived.Test.YtboknfppecgjmaaCommutes
import Derived.Test.YtboknfppecgjmaaPlainC
import Derived.Test.YtboknfppecgjmaaFlowA
namespace Go.Proofs.Ytboknfppecgjmaa
set_option linter.unusedVariables false
set_option linter.unusedSimpArgs false
open Go.RowKit Go.Shelf
def fz (x a y : BitVec 32) : BitVec 32 := (x &&& ~~~a) ||| (y &&& a)
attribute [local go_sem] U_eq_zero
set_option maxHeartbeats 400000 in
theorem is35_c (x a y : BitVec 32) (B1 B2 : Nat) (w : World) (h1 : w.cell? ⟨B1, 0, none⟩ = some (uv x)) (h2 : w.cell? ⟨B2, 0, none⟩ = some (uv a)) :
    Calls Try.prog 35 #[uv y, .pointer (some ⟨B1, 0, none⟩), .pointer (some ⟨B2, 0, none⟩)] w fun e w' => e = .returned (.bool (fits x a y)) ∧ w' = w := by
  go_enter Try.func35, Try.ntmps35
  go_wp2
  go_ret
  exact ⟨rfl, rfl⟩
theorem fill32_c (x a y : BitVec 32) (w : World) : Calls Try.prog 32 #[iv 32, vv (V.word x), vv (V.word a), vv (V.word y)] w fun e w' => e = .returned (vv (V.word (fz x a y))) ∧ Below w.heap.size w w' := by
  have h := fill_c 32 (V.word x) (V.word a) (V.word y) w
  rw [fill_v] at h
  exact h
abbrev FillC (x a y z : BitVec 32) : Prop := ∀ w, Calls Try.prog 32 #[iv 32, vv (V.word x), vv (V.word a), vv (V.word y)] w fun e w' => e = .returned (vv (V.word z)) ∧ Below w.heap.size w w'
theorem fillfit_c (x a y : BitVec 32) (hy : fits x a y = true) : FillC x a y y := by
  intro w
  have h := fill32_c x a y w
  unfold fz at h
  rw [fill_fits hy] at h
  exact h
set_option maxRecDepth 100000 in
set_option maxHeartbeats 8000000 in
theorem vbetween_w (HS : Hid SaneC) (x a y z low high : BitVec 32) (w : World) (HL : Hid (∀ w, Calls Try.prog 33 #[uv x, uv a] w fun e w' => e = .returned (uv low) ∧ w' = w)) (HG : Hid (∀ w, Calls Try.prog 34 #[uv x, uv a] w fun e w' => e = .returned (uv high) ∧ w' = w))
    (F1 : Hid (FillC x a y z)) (F23 : Hid (∀ z, fits x a z = true → FillC x a z z)) (i1 : fits x a z = true) (i2 : fits x a low = true) (i3 : fits x a high = true) (hl : ¬ z < low) (hh : ¬ high < z) (hy : fits x a y = false) :
    Calls Try.prog 9 #[uv x, uv a, uv y] w fun e w' => e = .returned (.bool true) ∧ Below w.heap.size w w' := by
  go_enter Try.func9, Try.ntmps9
  go_wp2_with (go_at_call 11; refine (HS.out _ ).mono ?_; rintro e w1 ⟨rfl, hb⟩; obtain ⟨hc, hf⟩ := Flow.bcell hb; have hz := hb.size; (try simp only [World.size_alloc, World.size_setCell, World.size_drew] at hz); obtain ⟨z0, z1⟩ := Flow.zs2 (show w.heap.size + 2 ≤ w1.heap.size by omega))
  refine FlowA.wp_region_alloc 7 8 7 _ #[uv 0#32, uv 0#32, uv 0#32, uv 0#32] 24 rfl rfl rfl (fun a w => by kernel_rfl) (by kernel_rfl) (by omega) (by kernel_rfl) (by kernel_rfl) (fun R hRc hRt => ?_)
  simp only [List.take_succ_cons, List.take_zero, List.drop_succ_cons, List.drop_zero]
  iterate 8
    first
      | (refine FlowA.flow_make rfl ?_)
      | refine FlowA.flow_skip rfl rfl ?_
      | (apply FlowA.flow_step; rfl; rfl; (intro s1 w1 hb; have hc := hRc.out s1 w1 hb; go_simp; (first | with_reducible exact ⟨rfl, hb⟩ | (go_at_call 31; refine (v_c _ _).mono ?_; rintro e w2 ⟨rfl, hb2⟩; exact ⟨_, rfl, rfl, hRt.out _ _ _ hb hb2⟩) | (go_at_call 32; refine (F1.out _ ).mono ?_; rintro e w2 ⟨rfl, hb2⟩; exact ⟨_, rfl, rfl, hRt.out _ _ _ hb hb2⟩))))
    simp only [Act.put, List.setIfInBounds_toArray, List.set_cons_zero, List.set_cons_succ]
  apply FlowA.flow_nil
  clear hRc hRt
  intro b1 u1 hb hbb hob
  simp only [Act.put, List.setIfInBounds_toArray, List.set_cons_zero, List.set_cons_succ]
  obtain ⟨hc, hf⟩ := Flow.bcell hb
  have hz := hb.size
  (try simp only [World.size_alloc, World.size_setCell, World.size_drew] at hz)
  (try simp only [World.size_alloc, World.size_setCell, World.size_drew] at hbb)
  obtain ⟨hoc, hof, hos⟩ := FlowA.made_cells hob
  clear hob
  obtain ⟨z0, z1⟩ := Flow.zs2 (show w.heap.size + 2 ≤ u1.heap.size by omega)
  have k1 : w.heap.size < b1 := by omega
  have k2 : w.heap.size + 1 < b1 := by omega
  go_wp2_with fail
  refine Flow.wp_region_below 6 (by kernel_rfl) (by kernel_rfl) (fun R hRc hRt => ?_)
  simp only [List.take_succ_cons, List.take_zero, List.drop_succ_cons, List.drop_zero]
  iterate 6
    first
      | refine Flow.flow_skip rfl ?_
      | (apply Flow.flow_step; rfl; (intro w1 hb; have hc := hRc.out w1 hb; go_simp; (first | with_reducible exact ⟨rfl, hb⟩ | (go_at_call 33; refine (HL.out _ ).mono ?_; rintro e w2 ⟨rfl, rfl⟩; exact ⟨_, rfl, rfl, hb⟩) | (go_at_call 34; refine (HG.out _ ).mono ?_; rintro e w2 ⟨rfl, rfl⟩; exact ⟨_, rfl, rfl, hb⟩))))
    simp only [Act.put, List.setIfInBounds_toArray, List.set_cons_zero, List.set_cons_succ]
  apply Flow.flow_nil
  clear hRc hRt
  intro w1 hb
  obtain ⟨hc, hf⟩ := Flow.bcell hb
  have hz := hb.size
  (try simp only [World.size_alloc, World.size_setCell, World.size_drew] at hz)
  obtain ⟨z0, z1⟩ := Flow.zs2 (show w.heap.size + 2 ≤ w1.heap.size by omega)
  have k3 : b1 < w1.heap.size := by omega
  go_wp2_with (go_at_call 35; refine (is35_c x a _ w.heap.size (w.heap.size + 1) _ (by go_simp) (by go_simp) ).mono ?_; rintro e w1 ⟨rfl, rfl⟩)
  refine Flow.wp_region_below 34 (by kernel_rfl) (by kernel_rfl) (fun R hRc hRt => ?_)
  simp only [List.take_succ_cons, List.take_zero, List.drop_succ_cons, List.drop_zero]
  iterate 34
    first
      | refine Flow.flow_skip rfl ?_
      | (apply Flow.flow_step; rfl; (intro w1 hb; have hc := hRc.out w1 hb; go_simp; (first | with_reducible exact ⟨rfl, hb⟩ | (go_at_call 31; refine (v_c _ _).mono ?_; rintro e w2 ⟨rfl, hb2⟩; exact ⟨_, rfl, rfl, hRt.out _ _ hb hb2⟩) | (go_at_call 32; refine (F23.out _ (by assumption) _ ).mono ?_; rintro e w2 ⟨rfl, hb2⟩; exact ⟨_, rfl, rfl, hRt.out _ _ hb hb2⟩) | (go_at_call 35; refine (is35_c x a _ w.heap.size (w.heap.size + 1) _ (by go_simp) (by go_simp) ).mono ?_; rintro e w2 ⟨rfl, rfl⟩; exact ⟨_, rfl, rfl, hb⟩))))
      | (apply Flow.flow_guardT rfl rfl rfl; (intro hg w1 hb; have hc := hRc.out w1 hb; go_simp; (first | with_reducible exact ⟨rfl, hb⟩ | (go_at_call 31; refine (v_c _ _).mono ?_; rintro e w2 ⟨rfl, hb2⟩; exact ⟨_, rfl, rfl, hRt.out _ _ hb hb2⟩) | (go_at_call 32; refine (F23.out _ (by assumption) _ ).mono ?_; rintro e w2 ⟨rfl, hb2⟩; exact ⟨_, rfl, rfl, hRt.out _ _ hb hb2⟩) | (go_at_call 35; refine (is35_c x a _ w.heap.size (w.heap.size + 1) _ (by go_simp) (by go_simp) ).mono ?_; rintro e w2 ⟨rfl, rfl⟩; exact ⟨_, rfl, rfl, hb⟩))))
      | (apply Flow.flow_guardF rfl rfl rfl; (intro hg w1 hb; have hc := hRc.out w1 hb; go_simp; (first | with_reducible exact ⟨rfl, hb⟩ | (go_at_call 31; refine (v_c _ _).mono ?_; rintro e w2 ⟨rfl, hb2⟩; exact ⟨_, rfl, rfl, hRt.out _ _ hb hb2⟩) | (go_at_call 32; refine (F23.out _ (by assumption) _ ).mono ?_; rintro e w2 ⟨rfl, hb2⟩; exact ⟨_, rfl, rfl, hRt.out _ _ hb hb2⟩) | (go_at_call 35; refine (is35_c x a _ w.heap.size (w.heap.size + 1) _ (by go_simp) (by go_simp) ).mono ?_; rintro e w2 ⟨rfl, rfl⟩; exact ⟨_, rfl, rfl, hb⟩))))
      | (apply Flow.flow_guardT2 rfl rfl rfl; (intro hp hg w1 hb; have hc := hRc.out w1 hb; go_simp; (first | with_reducible exact ⟨rfl, hb⟩ | (go_at_call 31; refine (v_c _ _).mono ?_; rintro e w2 ⟨rfl, hb2⟩; exact ⟨_, rfl, rfl, hRt.out _ _ hb hb2⟩) | (go_at_call 32; refine (F23.out _ (by assumption) _ ).mono ?_; rintro e w2 ⟨rfl, hb2⟩; exact ⟨_, rfl, rfl, hRt.out _ _ hb hb2⟩) | (go_at_call 35; refine (is35_c x a _ w.heap.size (w.heap.size + 1) _ (by go_simp) (by go_simp) ).mono ?_; rintro e w2 ⟨rfl, rfl⟩; exact ⟨_, rfl, rfl, hb⟩))))
      | (apply Flow.flow_guardF2 rfl rfl rfl; (intro hp hg w1 hb; have hc := hRc.out w1 hb; go_simp; (first | with_reducible exact ⟨rfl, hb⟩ | (go_at_call 31; refine (v_c _ _).mono ?_; rintro e w2 ⟨rfl, hb2⟩; exact ⟨_, rfl, rfl, hRt.out _ _ hb hb2⟩) | (go_at_call 32; refine (F23.out _ (by assumption) _ ).mono ?_; rintro e w2 ⟨rfl, hb2⟩; exact ⟨_, rfl, rfl, hRt.out _ _ hb hb2⟩) | (go_at_call 35; refine (is35_c x a _ w.heap.size (w.heap.size + 1) _ (by go_simp) (by go_simp) ).mono ?_; rintro e w2 ⟨rfl, rfl⟩; exact ⟨_, rfl, rfl, hb⟩))))
    simp only [Act.put, List.setIfInBounds_toArray, List.set_cons_zero, List.set_cons_succ]
  apply Flow.flow_nil
  clear hRc hRt
  intro w1 hb
  obtain ⟨hc, hf⟩ := Flow.bcell hb
  have hz := hb.size
  (try simp only [World.size_alloc, World.size_setCell, World.size_drew] at hz)
  obtain ⟨z0, z1⟩ := Flow.zs2 (show w.heap.size + 2 ≤ w1.heap.size by omega)
  go_wp2_with fail
  go_ret
  exact ⟨rfl, by (repeat (first | exact Below.refl _ _ | refine Below.setCell ?_ (by first | omega | (simp <;> omega)) _ | refine Below.alloc ?_ (by first | omega | (simp <;> omega)) _ | refine Below.drew ?_ | refine Below.trans ?_ (Below.mono (by assumption) (by first | omega | (simp <;> omega)))))⟩
set_option maxRecDepth 100000 in
set_option maxHeartbeats 8000000 in
theorem vbetween_e (HS : Hid SaneC) (x a z low high : BitVec 32) (w : World) (HL : Hid (∀ w, Calls Try.prog 33 #[uv x, uv a] w fun e w' => e = .returned (uv low) ∧ w' = w)) (HG : Hid (∀ w, Calls Try.prog 34 #[uv x, uv a] w fun e w' => e = .returned (uv high) ∧ w' = w))
    (F1 : Hid (FillC x a z z)) (F23 : Hid (∀ z, fits x a z = true → FillC x a z z)) (i1 : fits x a z = true) (i2 : fits x a low = true) (i3 : fits x a high = true) (hl : ¬ z < low) (hh : ¬ high < z) :
    Calls Try.prog 9 #[uv x, uv a, uv z] w fun e w' => e = .returned (.bool true) ∧ Below w.heap.size w w' := by
  go_enter Try.func9, Try.ntmps9
  go_wp2_with (go_at_call 11; refine (HS.out _ ).mono ?_; rintro e w1 ⟨rfl, hb⟩; obtain ⟨hc, hf⟩ := Flow.bcell hb; have hz := hb.size; (try simp only [World.size_alloc, World.size_setCell, World.size_drew] at hz); obtain ⟨z0, z1⟩ := Flow.zs2 (show w.heap.size + 2 ≤ w1.heap.size by omega))
  refine FlowA.wp_region_alloc 7 8 7 _ #[uv 0#32, uv 0#32, uv 0#32, uv 0#32] 24 rfl rfl rfl (fun a w => by kernel_rfl) (by kernel_rfl) (by omega) (by kernel_rfl) (by kernel_rfl) (fun R hRc hRt => ?_)
  simp only [List.take_succ_cons, List.take_zero, List.drop_succ_cons, List.drop_zero]
  iterate 8
    first
      | (refine FlowA.flow_make rfl ?_)
      | refine FlowA.flow_skip rfl rfl ?_
      | (apply FlowA.flow_step; rfl; rfl; (intro s1 w1 hb; have hc := hRc.out s1 w1 hb; go_simp; (first | with_reducible exact ⟨rfl, hb⟩ | (go_at_call 31; refine (v_c _ _).mono ?_; rintro e w2 ⟨rfl, hb2⟩; exact ⟨_, rfl, rfl, hRt.out _ _ _ hb hb2⟩) | (go_at_call 32; refine (F1.out _ ).mono ?_; rintro e w2 ⟨rfl, hb2⟩; exact ⟨_, rfl, rfl, hRt.out _ _ _ hb hb2⟩))))
    simp only [Act.put, List.setIfInBounds_toArray, List.set_cons_zero, List.set_cons_succ]
  apply FlowA.flow_nil
  clear hRc hRt
  intro b1 u1 hb hbb hob
  simp only [Act.put, List.setIfInBounds_toArray, List.set_cons_zero, List.set_cons_succ]
  obtain ⟨hc, hf⟩ := Flow.bcell hb
  have hz := hb.size
  (try simp only [World.size_alloc, World.size_setCell, World.size_drew] at hz)
  (try simp only [World.size_alloc, World.size_setCell, World.size_drew] at hbb)
  obtain ⟨hoc, hof, hos⟩ := FlowA.made_cells hob
  clear hob
  obtain ⟨z0, z1⟩ := Flow.zs2 (show w.heap.size + 2 ≤ u1.heap.size by omega)
  have k1 : w.heap.size < b1 := by omega
  have k2 : w.heap.size + 1 < b1 := by omega
  go_wp2_with fail
  refine Flow.wp_region_below 6 (by kernel_rfl) (by kernel_rfl) (fun R hRc hRt => ?_)
  simp only [List.take_succ_cons, List.take_zero, List.drop_succ_cons, List.drop_zero]
  iterate 6
    first
      | refine Flow.flow_skip rfl ?_
      | (apply Flow.flow_step; rfl; (intro w1 hb; have hc := hRc.out w1 hb; go_simp; (first | with_reducible exact ⟨rfl, hb⟩ | (go_at_call 33; refine (HL.out _ ).mono ?_; rintro e w2 ⟨rfl, rfl⟩; exact ⟨_, rfl, rfl, hb⟩) | (go_at_call 34; refine (HG.out _ ).mono ?_; rintro e w2 ⟨rfl, rfl⟩; exact ⟨_, rfl, rfl, hb⟩))))
    simp only [Act.put, List.setIfInBounds_toArray, List.set_cons_zero, List.set_cons_succ]
  apply Flow.flow_nil
  clear hRc hRt
  intro w1 hb
  obtain ⟨hc, hf⟩ := Flow.bcell hb
  have hz := hb.size
  (try simp only [World.size_alloc, World.size_setCell, World.size_drew] at hz)
  obtain ⟨z0, z1⟩ := Flow.zs2 (show w.heap.size + 2 ≤ w1.heap.size by omega)
  have k3 : b1 < w1.heap.size := by omega
  go_wp2_with (go_at_call 35; refine (is35_c x a _ w.heap.size (w.heap.size + 1) _ (by go_simp) (by go_simp) ).mono ?_; rintro e w1 ⟨rfl, rfl⟩)
  refine Flow.wp_region_below 34 (by kernel_rfl) (by kernel_rfl) (fun R hRc hRt => ?_)
  simp only [List.take_succ_cons, List.take_zero, List.drop_succ_cons, List.drop_zero]
  iterate 34
    first
      | refine Flow.flow_skip rfl ?_
      | (apply Flow.flow_step; rfl; (intro w1 hb; have hc := hRc.out w1 hb; go_simp; (first | with_reducible exact ⟨rfl, hb⟩ | (go_at_call 31; refine (v_c _ _).mono ?_; rintro e w2 ⟨rfl, hb2⟩; exact ⟨_, rfl, rfl, hRt.out _ _ hb hb2⟩) | (go_at_call 32; refine (F23.out _ (by assumption) _ ).mono ?_; rintro e w2 ⟨rfl, hb2⟩; exact ⟨_, rfl, rfl, hRt.out _ _ hb hb2⟩) | (go_at_call 35; refine (is35_c x a _ w.heap.size (w.heap.size + 1) _ (by go_simp) (by go_simp) ).mono ?_; rintro e w2 ⟨rfl, rfl⟩; exact ⟨_, rfl, rfl, hb⟩))))
      | (apply Flow.flow_guardT rfl rfl rfl; (intro hg w1 hb; have hc := hRc.out w1 hb; go_simp; (first | with_reducible exact ⟨rfl, hb⟩ | (go_at_call 31; refine (v_c _ _).mono ?_; rintro e w2 ⟨rfl, hb2⟩; exact ⟨_, rfl, rfl, hRt.out _ _ hb hb2⟩) | (go_at_call 32; refine (F23.out _ (by assumption) _ ).mono ?_; rintro e w2 ⟨rfl, hb2⟩; exact ⟨_, rfl, rfl, hRt.out _ _ hb hb2⟩) | (go_at_call 35; refine (is35_c x a _ w.heap.size (w.heap.size + 1) _ (by go_simp) (by go_simp) ).mono ?_; rintro e w2 ⟨rfl, rfl⟩; exact ⟨_, rfl, rfl, hb⟩))))
      | (apply Flow.flow_guardF rfl rfl rfl; (intro hg w1 hb; have hc := hRc.out w1 hb; go_simp; (first | with_reducible exact ⟨rfl, hb⟩ | (go_at_call 31; refine (v_c _ _).mono ?_; rintro e w2 ⟨rfl, hb2⟩; exact ⟨_, rfl, rfl, hRt.out _ _ hb hb2⟩) | (go_at_call 32; refine (F23.out _ (by assumption) _ ).mono ?_; rintro e w2 ⟨rfl, hb2⟩; exact ⟨_, rfl, rfl, hRt.out _ _ hb hb2⟩) | (go_at_call 35; refine (is35_c x a _ w.heap.size (w.heap.size + 1) _ (by go_simp) (by go_simp) ).mono ?_; rintro e w2 ⟨rfl, rfl⟩; exact ⟨_, rfl, rfl, hb⟩))))
      | (apply Flow.flow_guardT2 rfl rfl rfl; (intro hp hg w1 hb; have hc := hRc.out w1 hb; go_simp; (first | with_reducible exact ⟨rfl, hb⟩ | (go_at_call 31; refine (v_c _ _).mono ?_; rintro e w2 ⟨rfl, hb2⟩; exact ⟨_, rfl, rfl, hRt.out _ _ hb hb2⟩) | (go_at_call 32; refine (F23.out _ (by assumption) _ ).mono ?_; rintro e w2 ⟨rfl, hb2⟩; exact ⟨_, rfl, rfl, hRt.out _ _ hb hb2⟩) | (go_at_call 35; refine (is35_c x a _ w.heap.size (w.heap.size + 1) _ (by go_simp) (by go_simp) ).mono ?_; rintro e w2 ⟨rfl, rfl⟩; exact ⟨_, rfl, rfl, hb⟩))))
      | (apply Flow.flow_guardF2 rfl rfl rfl; (intro hp hg w1 hb; have hc := hRc.out w1 hb; go_simp; (first | with_reducible exact ⟨rfl, hb⟩ | (go_at_call 31; refine (v_c _ _).mono ?_; rintro e w2 ⟨rfl, hb2⟩; exact ⟨_, rfl, rfl, hRt.out _ _ hb hb2⟩) | (go_at_call 32; refine (F23.out _ (by assumption) _ ).mono ?_; rintro e w2 ⟨rfl, hb2⟩; exact ⟨_, rfl, rfl, hRt.out _ _ hb hb2⟩) | (go_at_call 35; refine (is35_c x a _ w.heap.size (w.heap.size + 1) _ (by go_simp) (by go_simp) ).mono ?_; rintro e w2 ⟨rfl, rfl⟩; exact ⟨_, rfl, rfl, hb⟩))))
    simp only [Act.put, List.setIfInBounds_toArray, List.set_cons_zero, List.set_cons_succ]
  apply Flow.flow_nil
  clear hRc hRt
  intro w1 hb
  obtain ⟨hc, hf⟩ := Flow.bcell hb
  have hz := hb.size
  (try simp only [World.size_alloc, World.size_setCell, World.size_drew] at hz)
  obtain ⟨z0, z1⟩ := Flow.zs2 (show w.heap.size + 2 ≤ w1.heap.size by omega)
  go_wp2_with fail
  go_ret
  exact ⟨rfl, by (repeat (first | exact Below.refl _ _ | refine Below.setCell ?_ (by first | omega | (simp <;> omega)) _ | refine Below.alloc ?_ (by first | omega | (simp <;> omega)) _ | refine Below.drew ?_ | refine Below.trans ?_ (Below.mono (by assumption) (by first | omega | (simp <;> omega)))))⟩
theorem vbetween_c (HS : Hid SaneC) (x a y : BitVec 32) (w : World) :
    Calls Try.prog 9 #[uv x, uv a, uv y] w fun e w' => e = .returned (.bool true) ∧ Below w.heap.size w w' := by
  have F23 : ∀ z, fits x a z = true → FillC x a z z := fun z hz => fillfit_c x a z hz
  have hl : ¬ fz x a y < Vb.least x a := fun h => by have := least_le x a y; rw [BitVec.lt_def] at h; rw [BitVec.le_def] at this; unfold fz at h; omega
  have hh : ¬ Vb.greatest x a < fz x a y := fun h => by have := le_greatest x a y; rw [BitVec.lt_def] at h; rw [BitVec.le_def] at this; unfold fz at h; omega
  cases hy : fits x a y
  · exact vbetween_w HS x a y _ _ _ w (fun w => least_c x a w) (fun w => greatest_c x a w) (fun w => fill32_c x a y w) F23 (fits_fill x a y) (fits_least x a) (fits_greatest x a) hl hh hy
  · have hz : fz x a y = y := fill_fits hy
    rw [hz] at hl hh
    exact vbetween_e HS x a y _ _ w (fun w => least_c x a w) (fun w => greatest_c x a w) (F23 y hy) F23 hy (fits_least x a) (fits_greatest x a) hl hh
end Go.Proofs.Ytboknfppecgjmaa
