/- Part 30 of the proof's texts: SevenD. -/
import Derived.Test.YtboknfppecgjmaaGreatExa25
set_option maxHeartbeats 16000000
namespace Go.Proofs.YtboknfppecgjmaaGreat
set_option linter.unusedVariables false
set_option linter.unusedSimpArgs false
open Go.RowKit Go.Shelf
set_option maxRecDepth 100000 in
theorem lanes7_54 (x y : V) (w : World) : Calls Tryz.prog 95 #[iv (54 : Int), iv (0 : Int), vv x, vv y] w fun e w' => e = .returned (.tuple #[vv ⟨x.a &&& y.a, x.b &&& y.b, x.c &&& y.c, x.d &&& y.d⟩, .bool true]) ∧ Below w.heap.size w w' := by
  obtain ⟨X0, Y0, R0, O0⟩ := heap_alloc4 w (vcell x) (vcell y) (vcell V.zero) (vcell V.zero)
  go_enter Tryz.func95, Tryz.ntmps95
  go_wp2_with fail
  generalize hu : World.alloc _ _ = u0
  have K0 : L7 w.heap.size x y ⟨0#32, 0#32, 0#32, 0#32⟩ u0 := by rw [← hu]; exact ⟨X0, Y0, R0, O0⟩
  have B0 : Below w.heap.size w u0 := by rw [← hu]; (repeat (first | exact Below.refl _ _ | refine Below.setCell ?_ (by first | omega | (simp <;> omega)) _ | refine Below.alloc ?_ (by first | omega | (simp <;> omega)) _ | refine Below.drew ?_ | refine Below.trans ?_ (Below.mono (by assumption) (by first | omega | (simp <;> omega)))))
  clear hu X0 Y0 R0 O0
  refine wp_loop_rounds 5 ?_
  rw [rounds_succ]
  have L0 := K0.lt
  obtain ⟨xc, xf, xl⟩ := block_cells K0.X
  obtain ⟨yc, yf, yl⟩ := block_cells K0.Y
  obtain ⟨oc, of, ol⟩ := block_cells K0.O
  go_wp2_with fail
  refine Flow.wp_region_below 9 (by kernel_rfl) (by kernel_rfl) (fun R hRc hRt => ?_)
  simp only [List.take_succ_cons, List.take_zero, List.drop_succ_cons, List.drop_zero]
  iterate 9
    first
      | refine Flow.flow_skip rfl ?_
      | (apply Flow.flow_step; rfl; (intro w1 hb; have hc := hRc.out w1 hb; go_simp; (first | with_reducible exact ⟨rfl, hb⟩)))
    simp only [Act.put, List.setIfInBounds_toArray, List.set_cons_zero, List.set_cons_succ]
  apply Flow.flow_nil
  clear hRc hRt
  intro w1 hb
  obtain ⟨hc, hf⟩ := Flow.bcell hb
  have hz := hb.size
  (try simp only [World.size_alloc, World.size_setCell, World.size_drew] at hz)
  have K0' := K0.step hb
  have B0' : Below w.heap.size w w1 := B0.trans (hb.mono (by omega))
  have L0' := K0'.lt
  clear hb hc hf xc xf yc yf oc of xl yl ol K0 B0 L0
  obtain ⟨oc, of, ol⟩ := block_cells K0'.O
  obtain ⟨u1, e4, O4, S4⟩ := store1 K0'.O 0 (uv (x.a &&& y.a))
  go_wp2_with fail
  clear oc of e4
  have K1 : L7 w.heap.size x y ⟨x.a &&& y.a, 0#32, 0#32, 0#32⟩ u1 := K0'.store S4 O4
  have B1 : Below w.heap.size w u1 := B0'.trans (S4.below _ (by omega))
  clear O4 S4 K0' B0' L0' ol
  rw [rounds_succ]
  have L1 := K1.lt
  obtain ⟨xc, xf, xl⟩ := block_cells K1.X
  obtain ⟨yc, yf, yl⟩ := block_cells K1.Y
  obtain ⟨oc, of, ol⟩ := block_cells K1.O
  go_wp2_with fail
  refine Flow.wp_region_below 9 (by kernel_rfl) (by kernel_rfl) (fun R hRc hRt => ?_)
  simp only [List.take_succ_cons, List.take_zero, List.drop_succ_cons, List.drop_zero]
  iterate 9
    first
      | refine Flow.flow_skip rfl ?_
      | (apply Flow.flow_step; rfl; (intro w1 hb; have hc := hRc.out w1 hb; go_simp; (first | with_reducible exact ⟨rfl, hb⟩)))
    simp only [Act.put, List.setIfInBounds_toArray, List.set_cons_zero, List.set_cons_succ]
  apply Flow.flow_nil
  clear hRc hRt
  intro w1 hb
  obtain ⟨hc, hf⟩ := Flow.bcell hb
  have hz := hb.size
  (try simp only [World.size_alloc, World.size_setCell, World.size_drew] at hz)
  have K1' := K1.step hb
  have B1' : Below w.heap.size w w1 := B1.trans (hb.mono (by omega))
  have L1' := K1'.lt
  clear hb hc hf xc xf yc yf oc of xl yl ol K1 B1 L1
  obtain ⟨oc, of, ol⟩ := block_cells K1'.O
  obtain ⟨u2, e4, O4, S4⟩ := store1 K1'.O 1 (uv (x.b &&& y.b))
  go_wp2_with fail
  clear oc of e4
  have K2 : L7 w.heap.size x y ⟨x.a &&& y.a, x.b &&& y.b, 0#32, 0#32⟩ u2 := K1'.store S4 O4
  have B2 : Below w.heap.size w u2 := B1'.trans (S4.below _ (by omega))
  clear O4 S4 K1' B1' L1' ol
  rw [rounds_succ]
  have L2 := K2.lt
  obtain ⟨xc, xf, xl⟩ := block_cells K2.X
  obtain ⟨yc, yf, yl⟩ := block_cells K2.Y
  obtain ⟨oc, of, ol⟩ := block_cells K2.O
  go_wp2_with fail
  refine Flow.wp_region_below 9 (by kernel_rfl) (by kernel_rfl) (fun R hRc hRt => ?_)
  simp only [List.take_succ_cons, List.take_zero, List.drop_succ_cons, List.drop_zero]
  iterate 9
    first
      | refine Flow.flow_skip rfl ?_
      | (apply Flow.flow_step; rfl; (intro w1 hb; have hc := hRc.out w1 hb; go_simp; (first | with_reducible exact ⟨rfl, hb⟩)))
    simp only [Act.put, List.setIfInBounds_toArray, List.set_cons_zero, List.set_cons_succ]
  apply Flow.flow_nil
  clear hRc hRt
  intro w1 hb
  obtain ⟨hc, hf⟩ := Flow.bcell hb
  have hz := hb.size
  (try simp only [World.size_alloc, World.size_setCell, World.size_drew] at hz)
  have K2' := K2.step hb
  have B2' : Below w.heap.size w w1 := B2.trans (hb.mono (by omega))
  have L2' := K2'.lt
  clear hb hc hf xc xf yc yf oc of xl yl ol K2 B2 L2
  obtain ⟨oc, of, ol⟩ := block_cells K2'.O
  obtain ⟨u3, e4, O4, S4⟩ := store1 K2'.O 2 (uv (x.c &&& y.c))
  go_wp2_with fail
  clear oc of e4
  have K3 : L7 w.heap.size x y ⟨x.a &&& y.a, x.b &&& y.b, x.c &&& y.c, 0#32⟩ u3 := K2'.store S4 O4
  have B3 : Below w.heap.size w u3 := B2'.trans (S4.below _ (by omega))
  clear O4 S4 K2' B2' L2' ol
  rw [rounds_succ]
  have L3 := K3.lt
  obtain ⟨xc, xf, xl⟩ := block_cells K3.X
  obtain ⟨yc, yf, yl⟩ := block_cells K3.Y
  obtain ⟨oc, of, ol⟩ := block_cells K3.O
  go_wp2_with fail
  refine Flow.wp_region_below 9 (by kernel_rfl) (by kernel_rfl) (fun R hRc hRt => ?_)
  simp only [List.take_succ_cons, List.take_zero, List.drop_succ_cons, List.drop_zero]
  iterate 9
    first
      | refine Flow.flow_skip rfl ?_
      | (apply Flow.flow_step; rfl; (intro w1 hb; have hc := hRc.out w1 hb; go_simp; (first | with_reducible exact ⟨rfl, hb⟩)))
    simp only [Act.put, List.setIfInBounds_toArray, List.set_cons_zero, List.set_cons_succ]
  apply Flow.flow_nil
  clear hRc hRt
  intro w1 hb
  obtain ⟨hc, hf⟩ := Flow.bcell hb
  have hz := hb.size
  (try simp only [World.size_alloc, World.size_setCell, World.size_drew] at hz)
  have K3' := K3.step hb
  have B3' : Below w.heap.size w w1 := B3.trans (hb.mono (by omega))
  have L3' := K3'.lt
  clear hb hc hf xc xf yc yf oc of xl yl ol K3 B3 L3
  obtain ⟨oc, of, ol⟩ := block_cells K3'.O
  obtain ⟨u4, e4, O4, S4⟩ := store1 K3'.O 3 (uv (x.d &&& y.d))
  go_wp2_with fail
  clear oc of e4
  have K4 : L7 w.heap.size x y ⟨x.a &&& y.a, x.b &&& y.b, x.c &&& y.c, x.d &&& y.d⟩ u4 := K3'.store S4 O4
  have B4 : Below w.heap.size w u4 := B3'.trans (S4.below _ (by omega))
  clear O4 S4 K3' B3' L3' ol
  rw [rounds_succ]
  obtain ⟨oc, of, ol⟩ := block_cells K4.O
  obtain ⟨rc, rf, rl⟩ := block_cells K4.R
  go_wp2_with fail
  refine Flow.bodyPost_k rfl (fun K hK => ?_)
  simp only [results, Tryz.results95]
  go_simp
  refine hK _ ⟨?_, ?_⟩
  · rfl
  · have hle : w.heap.size ≤ w.heap.size + 1 + 1 := by omega
    exact (((B4.setCell hle _).setCell hle _).setCell hle _).setCell hle _
set_option maxRecDepth 100000 in
theorem lanes7_55 (x y : V) (w : World) : Calls Tryz.prog 95 #[iv (55 : Int), iv (0 : Int), vv x, vv y] w fun e w' => e = .returned (.tuple #[vv ⟨x.a ||| y.a, x.b ||| y.b, x.c ||| y.c, x.d ||| y.d⟩, .bool true]) ∧ Below w.heap.size w w' := by
  obtain ⟨X0, Y0, R0, O0⟩ := heap_alloc4 w (vcell x) (vcell y) (vcell V.zero) (vcell V.zero)
  go_enter Tryz.func95, Tryz.ntmps95
  go_wp2_with fail
  generalize hu : World.alloc _ _ = u0
  have K0 : L7 w.heap.size x y ⟨0#32, 0#32, 0#32, 0#32⟩ u0 := by rw [← hu]; exact ⟨X0, Y0, R0, O0⟩
  have B0 : Below w.heap.size w u0 := by rw [← hu]; (repeat (first | exact Below.refl _ _ | refine Below.setCell ?_ (by first | omega | (simp <;> omega)) _ | refine Below.alloc ?_ (by first | omega | (simp <;> omega)) _ | refine Below.drew ?_ | refine Below.trans ?_ (Below.mono (by assumption) (by first | omega | (simp <;> omega)))))
  clear hu X0 Y0 R0 O0
  refine wp_loop_rounds 5 ?_
  rw [rounds_succ]
  have L0 := K0.lt
  obtain ⟨xc, xf, xl⟩ := block_cells K0.X
  obtain ⟨yc, yf, yl⟩ := block_cells K0.Y
  obtain ⟨oc, of, ol⟩ := block_cells K0.O
  go_wp2_with fail
  refine Flow.wp_region_below 9 (by kernel_rfl) (by kernel_rfl) (fun R hRc hRt => ?_)
  simp only [List.take_succ_cons, List.take_zero, List.drop_succ_cons, List.drop_zero]
  iterate 9
    first
      | refine Flow.flow_skip rfl ?_
      | (apply Flow.flow_step; rfl; (intro w1 hb; have hc := hRc.out w1 hb; go_simp; (first | with_reducible exact ⟨rfl, hb⟩)))
    simp only [Act.put, List.setIfInBounds_toArray, List.set_cons_zero, List.set_cons_succ]
  apply Flow.flow_nil
  clear hRc hRt
  intro w1 hb
  obtain ⟨hc, hf⟩ := Flow.bcell hb
  have hz := hb.size
  (try simp only [World.size_alloc, World.size_setCell, World.size_drew] at hz)
  have K0' := K0.step hb
  have B0' : Below w.heap.size w w1 := B0.trans (hb.mono (by omega))
  have L0' := K0'.lt
  clear hb hc hf xc xf yc yf oc of xl yl ol K0 B0 L0
  obtain ⟨oc, of, ol⟩ := block_cells K0'.O
  obtain ⟨u1, e4, O4, S4⟩ := store1 K0'.O 0 (uv (x.a ||| y.a))
  go_wp2_with fail
  clear oc of e4
  have K1 : L7 w.heap.size x y ⟨x.a ||| y.a, 0#32, 0#32, 0#32⟩ u1 := K0'.store S4 O4
  have B1 : Below w.heap.size w u1 := B0'.trans (S4.below _ (by omega))
  clear O4 S4 K0' B0' L0' ol
  rw [rounds_succ]
  have L1 := K1.lt
  obtain ⟨xc, xf, xl⟩ := block_cells K1.X
  obtain ⟨yc, yf, yl⟩ := block_cells K1.Y
  obtain ⟨oc, of, ol⟩ := block_cells K1.O
  go_wp2_with fail
  refine Flow.wp_region_below 9 (by kernel_rfl) (by kernel_rfl) (fun R hRc hRt => ?_)
  simp only [List.take_succ_cons, List.take_zero, List.drop_succ_cons, List.drop_zero]
  iterate 9
    first
      | refine Flow.flow_skip rfl ?_
      | (apply Flow.flow_step; rfl; (intro w1 hb; have hc := hRc.out w1 hb; go_simp; (first | with_reducible exact ⟨rfl, hb⟩)))
    simp only [Act.put, List.setIfInBounds_toArray, List.set_cons_zero, List.set_cons_succ]
  apply Flow.flow_nil
  clear hRc hRt
  intro w1 hb
  obtain ⟨hc, hf⟩ := Flow.bcell hb
  have hz := hb.size
  (try simp only [World.size_alloc, World.size_setCell, World.size_drew] at hz)
  have K1' := K1.step hb
  have B1' : Below w.heap.size w w1 := B1.trans (hb.mono (by omega))
  have L1' := K1'.lt
  clear hb hc hf xc xf yc yf oc of xl yl ol K1 B1 L1
  obtain ⟨oc, of, ol⟩ := block_cells K1'.O
  obtain ⟨u2, e4, O4, S4⟩ := store1 K1'.O 1 (uv (x.b ||| y.b))
  go_wp2_with fail
  clear oc of e4
  have K2 : L7 w.heap.size x y ⟨x.a ||| y.a, x.b ||| y.b, 0#32, 0#32⟩ u2 := K1'.store S4 O4
  have B2 : Below w.heap.size w u2 := B1'.trans (S4.below _ (by omega))
  clear O4 S4 K1' B1' L1' ol
  rw [rounds_succ]
  have L2 := K2.lt
  obtain ⟨xc, xf, xl⟩ := block_cells K2.X
  obtain ⟨yc, yf, yl⟩ := block_cells K2.Y
  obtain ⟨oc, of, ol⟩ := block_cells K2.O
  go_wp2_with fail
  refine Flow.wp_region_below 9 (by kernel_rfl) (by kernel_rfl) (fun R hRc hRt => ?_)
  simp only [List.take_succ_cons, List.take_zero, List.drop_succ_cons, List.drop_zero]
  iterate 9
    first
      | refine Flow.flow_skip rfl ?_
      | (apply Flow.flow_step; rfl; (intro w1 hb; have hc := hRc.out w1 hb; go_simp; (first | with_reducible exact ⟨rfl, hb⟩)))
    simp only [Act.put, List.setIfInBounds_toArray, List.set_cons_zero, List.set_cons_succ]
  apply Flow.flow_nil
  clear hRc hRt
  intro w1 hb
  obtain ⟨hc, hf⟩ := Flow.bcell hb
  have hz := hb.size
  (try simp only [World.size_alloc, World.size_setCell, World.size_drew] at hz)
  have K2' := K2.step hb
  have B2' : Below w.heap.size w w1 := B2.trans (hb.mono (by omega))
  have L2' := K2'.lt
  clear hb hc hf xc xf yc yf oc of xl yl ol K2 B2 L2
  obtain ⟨oc, of, ol⟩ := block_cells K2'.O
  obtain ⟨u3, e4, O4, S4⟩ := store1 K2'.O 2 (uv (x.c ||| y.c))
  go_wp2_with fail
  clear oc of e4
  have K3 : L7 w.heap.size x y ⟨x.a ||| y.a, x.b ||| y.b, x.c ||| y.c, 0#32⟩ u3 := K2'.store S4 O4
  have B3 : Below w.heap.size w u3 := B2'.trans (S4.below _ (by omega))
  clear O4 S4 K2' B2' L2' ol
  rw [rounds_succ]
  have L3 := K3.lt
  obtain ⟨xc, xf, xl⟩ := block_cells K3.X
  obtain ⟨yc, yf, yl⟩ := block_cells K3.Y
  obtain ⟨oc, of, ol⟩ := block_cells K3.O
  go_wp2_with fail
  refine Flow.wp_region_below 9 (by kernel_rfl) (by kernel_rfl) (fun R hRc hRt => ?_)
  simp only [List.take_succ_cons, List.take_zero, List.drop_succ_cons, List.drop_zero]
  iterate 9
    first
      | refine Flow.flow_skip rfl ?_
      | (apply Flow.flow_step; rfl; (intro w1 hb; have hc := hRc.out w1 hb; go_simp; (first | with_reducible exact ⟨rfl, hb⟩)))
    simp only [Act.put, List.setIfInBounds_toArray, List.set_cons_zero, List.set_cons_succ]
  apply Flow.flow_nil
  clear hRc hRt
  intro w1 hb
  obtain ⟨hc, hf⟩ := Flow.bcell hb
  have hz := hb.size
  (try simp only [World.size_alloc, World.size_setCell, World.size_drew] at hz)
  have K3' := K3.step hb
  have B3' : Below w.heap.size w w1 := B3.trans (hb.mono (by omega))
  have L3' := K3'.lt
  clear hb hc hf xc xf yc yf oc of xl yl ol K3 B3 L3
  obtain ⟨oc, of, ol⟩ := block_cells K3'.O
  obtain ⟨u4, e4, O4, S4⟩ := store1 K3'.O 3 (uv (x.d ||| y.d))
  go_wp2_with fail
  clear oc of e4
  have K4 : L7 w.heap.size x y ⟨x.a ||| y.a, x.b ||| y.b, x.c ||| y.c, x.d ||| y.d⟩ u4 := K3'.store S4 O4
  have B4 : Below w.heap.size w u4 := B3'.trans (S4.below _ (by omega))
  clear O4 S4 K3' B3' L3' ol
  rw [rounds_succ]
  obtain ⟨oc, of, ol⟩ := block_cells K4.O
  obtain ⟨rc, rf, rl⟩ := block_cells K4.R
  go_wp2_with fail
  refine Flow.bodyPost_k rfl (fun K hK => ?_)
  simp only [results, Tryz.results95]
  go_simp
  refine hK _ ⟨?_, ?_⟩
  · rfl
  · have hle : w.heap.size ≤ w.heap.size + 1 + 1 := by omega
    exact (((B4.setCell hle _).setCell hle _).setCell hle _).setCell hle _
set_option maxRecDepth 100000 in
theorem lanes7_56 (x y : V) (w : World) : Calls Tryz.prog 95 #[iv (56 : Int), iv (0 : Int), vv x, vv y] w fun e w' => e = .returned (.tuple #[vv ⟨x.a ^^^ y.a, x.b ^^^ y.b, x.c ^^^ y.c, x.d ^^^ y.d⟩, .bool true]) ∧ Below w.heap.size w w' := by
  obtain ⟨X0, Y0, R0, O0⟩ := heap_alloc4 w (vcell x) (vcell y) (vcell V.zero) (vcell V.zero)
  go_enter Tryz.func95, Tryz.ntmps95
  go_wp2_with fail
  generalize hu : World.alloc _ _ = u0
  have K0 : L7 w.heap.size x y ⟨0#32, 0#32, 0#32, 0#32⟩ u0 := by rw [← hu]; exact ⟨X0, Y0, R0, O0⟩
  have B0 : Below w.heap.size w u0 := by rw [← hu]; (repeat (first | exact Below.refl _ _ | refine Below.setCell ?_ (by first | omega | (simp <;> omega)) _ | refine Below.alloc ?_ (by first | omega | (simp <;> omega)) _ | refine Below.drew ?_ | refine Below.trans ?_ (Below.mono (by assumption) (by first | omega | (simp <;> omega)))))
  clear hu X0 Y0 R0 O0
  refine wp_loop_rounds 5 ?_
  rw [rounds_succ]
  have L0 := K0.lt
  obtain ⟨xc, xf, xl⟩ := block_cells K0.X
  obtain ⟨yc, yf, yl⟩ := block_cells K0.Y
  obtain ⟨oc, of, ol⟩ := block_cells K0.O
  go_wp2_with fail
  refine Flow.wp_region_below 9 (by kernel_rfl) (by kernel_rfl) (fun R hRc hRt => ?_)
  simp only [List.take_succ_cons, List.take_zero, List.drop_succ_cons, List.drop_zero]
  iterate 9
    first
      | refine Flow.flow_skip rfl ?_
      | (apply Flow.flow_step; rfl; (intro w1 hb; have hc := hRc.out w1 hb; go_simp; (first | with_reducible exact ⟨rfl, hb⟩)))
    simp only [Act.put, List.setIfInBounds_toArray, List.set_cons_zero, List.set_cons_succ]
  apply Flow.flow_nil
  clear hRc hRt
  intro w1 hb
  obtain ⟨hc, hf⟩ := Flow.bcell hb
  have hz := hb.size
  (try simp only [World.size_alloc, World.size_setCell, World.size_drew] at hz)
  have K0' := K0.step hb
  have B0' : Below w.heap.size w w1 := B0.trans (hb.mono (by omega))
  have L0' := K0'.lt
  clear hb hc hf xc xf yc yf oc of xl yl ol K0 B0 L0
  obtain ⟨oc, of, ol⟩ := block_cells K0'.O
  obtain ⟨u1, e4, O4, S4⟩ := store1 K0'.O 0 (uv (x.a ^^^ y.a))
  go_wp2_with fail
  clear oc of e4
  have K1 : L7 w.heap.size x y ⟨x.a ^^^ y.a, 0#32, 0#32, 0#32⟩ u1 := K0'.store S4 O4
  have B1 : Below w.heap.size w u1 := B0'.trans (S4.below _ (by omega))
  clear O4 S4 K0' B0' L0' ol
  rw [rounds_succ]
  have L1 := K1.lt
  obtain ⟨xc, xf, xl⟩ := block_cells K1.X
  obtain ⟨yc, yf, yl⟩ := block_cells K1.Y
  obtain ⟨oc, of, ol⟩ := block_cells K1.O
  go_wp2_with fail
  refine Flow.wp_region_below 9 (by kernel_rfl) (by kernel_rfl) (fun R hRc hRt => ?_)
  simp only [List.take_succ_cons, List.take_zero, List.drop_succ_cons, List.drop_zero]
  iterate 9
    first
      | refine Flow.flow_skip rfl ?_
      | (apply Flow.flow_step; rfl; (intro w1 hb; have hc := hRc.out w1 hb; go_simp; (first | with_reducible exact ⟨rfl, hb⟩)))
    simp only [Act.put, List.setIfInBounds_toArray, List.set_cons_zero, List.set_cons_succ]
  apply Flow.flow_nil
  clear hRc hRt
  intro w1 hb
  obtain ⟨hc, hf⟩ := Flow.bcell hb
  have hz := hb.size
  (try simp only [World.size_alloc, World.size_setCell, World.size_drew] at hz)
  have K1' := K1.step hb
  have B1' : Below w.heap.size w w1 := B1.trans (hb.mono (by omega))
  have L1' := K1'.lt
  clear hb hc hf xc xf yc yf oc of xl yl ol K1 B1 L1
  obtain ⟨oc, of, ol⟩ := block_cells K1'.O
  obtain ⟨u2, e4, O4, S4⟩ := store1 K1'.O 1 (uv (x.b ^^^ y.b))
  go_wp2_with fail
  clear oc of e4
  have K2 : L7 w.heap.size x y ⟨x.a ^^^ y.a, x.b ^^^ y.b, 0#32, 0#32⟩ u2 := K1'.store S4 O4
  have B2 : Below w.heap.size w u2 := B1'.trans (S4.below _ (by omega))
  clear O4 S4 K1' B1' L1' ol
  rw [rounds_succ]
  have L2 := K2.lt
  obtain ⟨xc, xf, xl⟩ := block_cells K2.X
  obtain ⟨yc, yf, yl⟩ := block_cells K2.Y
  obtain ⟨oc, of, ol⟩ := block_cells K2.O
  go_wp2_with fail
  refine Flow.wp_region_below 9 (by kernel_rfl) (by kernel_rfl) (fun R hRc hRt => ?_)
  simp only [List.take_succ_cons, List.take_zero, List.drop_succ_cons, List.drop_zero]
  iterate 9
    first
      | refine Flow.flow_skip rfl ?_
      | (apply Flow.flow_step; rfl; (intro w1 hb; have hc := hRc.out w1 hb; go_simp; (first | with_reducible exact ⟨rfl, hb⟩)))
    simp only [Act.put, List.setIfInBounds_toArray, List.set_cons_zero, List.set_cons_succ]
  apply Flow.flow_nil
  clear hRc hRt
  intro w1 hb
  obtain ⟨hc, hf⟩ := Flow.bcell hb
  have hz := hb.size
  (try simp only [World.size_alloc, World.size_setCell, World.size_drew] at hz)
  have K2' := K2.step hb
  have B2' : Below w.heap.size w w1 := B2.trans (hb.mono (by omega))
  have L2' := K2'.lt
  clear hb hc hf xc xf yc yf oc of xl yl ol K2 B2 L2
  obtain ⟨oc, of, ol⟩ := block_cells K2'.O
  obtain ⟨u3, e4, O4, S4⟩ := store1 K2'.O 2 (uv (x.c ^^^ y.c))
  go_wp2_with fail
  clear oc of e4
  have K3 : L7 w.heap.size x y ⟨x.a ^^^ y.a, x.b ^^^ y.b, x.c ^^^ y.c, 0#32⟩ u3 := K2'.store S4 O4
  have B3 : Below w.heap.size w u3 := B2'.trans (S4.below _ (by omega))
  clear O4 S4 K2' B2' L2' ol
  rw [rounds_succ]
  have L3 := K3.lt
  obtain ⟨xc, xf, xl⟩ := block_cells K3.X
  obtain ⟨yc, yf, yl⟩ := block_cells K3.Y
  obtain ⟨oc, of, ol⟩ := block_cells K3.O
  go_wp2_with fail
  refine Flow.wp_region_below 9 (by kernel_rfl) (by kernel_rfl) (fun R hRc hRt => ?_)
  simp only [List.take_succ_cons, List.take_zero, List.drop_succ_cons, List.drop_zero]
  iterate 9
    first
      | refine Flow.flow_skip rfl ?_
      | (apply Flow.flow_step; rfl; (intro w1 hb; have hc := hRc.out w1 hb; go_simp; (first | with_reducible exact ⟨rfl, hb⟩)))
    simp only [Act.put, List.setIfInBounds_toArray, List.set_cons_zero, List.set_cons_succ]
  apply Flow.flow_nil
  clear hRc hRt
  intro w1 hb
  obtain ⟨hc, hf⟩ := Flow.bcell hb
  have hz := hb.size
  (try simp only [World.size_alloc, World.size_setCell, World.size_drew] at hz)
  have K3' := K3.step hb
  have B3' : Below w.heap.size w w1 := B3.trans (hb.mono (by omega))
  have L3' := K3'.lt
  clear hb hc hf xc xf yc yf oc of xl yl ol K3 B3 L3
  obtain ⟨oc, of, ol⟩ := block_cells K3'.O
  obtain ⟨u4, e4, O4, S4⟩ := store1 K3'.O 3 (uv (x.d ^^^ y.d))
  go_wp2_with fail
  clear oc of e4
  have K4 : L7 w.heap.size x y ⟨x.a ^^^ y.a, x.b ^^^ y.b, x.c ^^^ y.c, x.d ^^^ y.d⟩ u4 := K3'.store S4 O4
  have B4 : Below w.heap.size w u4 := B3'.trans (S4.below _ (by omega))
  clear O4 S4 K3' B3' L3' ol
  rw [rounds_succ]
  obtain ⟨oc, of, ol⟩ := block_cells K4.O
  obtain ⟨rc, rf, rl⟩ := block_cells K4.R
  go_wp2_with fail
  refine Flow.bodyPost_k rfl (fun K hK => ?_)
  simp only [results, Tryz.results95]
  go_simp
  refine hK _ ⟨?_, ?_⟩
  · rfl
  · have hle : w.heap.size ≤ w.heap.size + 1 + 1 := by omega
    exact (((B4.setCell hle _).setCell hle _).setCell hle _).setCell hle _
end Go.Proofs.YtboknfppecgjmaaGreat
