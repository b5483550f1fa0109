/- Part 28 of the proof's texts: SevenB. -/
import Derived.Test.YtboknfppecgjmaaGreatExa25
set_option maxHeartbeats 16000000
namespace Go.Proofs.YtboknfppecgjmaaGreat
set_option linter.unusedVariables false
set_option linter.unusedSimpArgs false
open Go.RowKit Go.Shelf
set_option maxRecDepth 100000 in
theorem lanes7_52_0 (x y : V) (w : World) : Calls Tryz.prog 95 #[iv (52 : Int), iv (0 : Int), vv x, vv y] w fun e w' => e = .returned (.tuple #[vv (Rf.sev Rf.f52 8 255#32 4 x y), .bool true]) ∧ Below w.heap.size w w' := by
  obtain ⟨X0, Y0, R0, O0⟩ := heap_alloc4 w (vcell x) (vcell y) (vcell V.zero) (vcell V.zero)
  go_enter Tryz.func95, Tryz.ntmps95
  go_wp2_with fail
  generalize hu : World.alloc _ _ = u
  have K : L7 w.heap.size x y ⟨0#32, 0#32, 0#32, 0#32⟩ u := by rw [← hu]; exact ⟨X0, Y0, R0, O0⟩
  have B : Below w.heap.size w u := by rw [← hu]; (repeat (first | exact Below.refl _ _ | refine Below.setCell ?_ (by first | omega | (simp <;> omega)) _ | refine Below.alloc ?_ (by first | omega | (simp <;> omega)) _ | refine Below.drew ?_ | refine Below.trans ?_ (Below.mono (by assumption) (by first | omega | (simp <;> omega)))))
  clear hu X0 Y0 R0 O0
  refine wp_loop_rounds 5 ?_
  rw [rounds_succ]
  go_wp2_with fail
  go_loopg [18, 19, 20, 21] 4 (fun k p _ _ _ wr => ∃ j : Nat, j + k = 4 ∧ p = .int .i64 ((8 : Int) * (j : Int)) ∧ L7 w.heap.size x y ⟨Rf.sevTo Rf.f52 8 255#32 x.a y.a j, 0#32, 0#32, 0#32⟩ wr ∧ Below w.heap.size w wr)
  case atStart => exact ⟨0, by omega, rfl, K, B⟩
  clear K B
  obtain ⟨j, hjk, rfl, K, B⟩ := hrel
  rcases (show j = 0 ∨ j = 1 ∨ j = 2 ∨ j = 3 ∨ j = 4 by omega) with rfl | rfl | rfl | rfl | rfl
  · have L0 := K.lt
    obtain ⟨xc, xf, xl⟩ := block_cells K.X
    obtain ⟨yc, yf, yl⟩ := block_cells K.Y
    go_wp2_with fail
    refine (l7_8_0 _ _).mono ?_
    rintro e u1 ⟨rfl, hb⟩
    have K1 := K.step hb
    have B1 : Below w.heap.size w u1 := B.trans (hb.mono (by omega))
    have L1 := K1.lt
    clear hb xc xf yc yf xl yl K B
    obtain ⟨yc, yf, yl⟩ := block_cells K1.Y
    go_wp2_with fail
    refine (l7_8_0 _ _).mono ?_
    rintro e u2 ⟨rfl, hb⟩
    have K2 := K1.step hb
    have B2 : Below w.heap.size w u2 := B1.trans (hb.mono (by omega))
    have L2 := K2.lt
    clear hb yc yf yl K1 B1 L1
    obtain ⟨oc, of, ol⟩ := block_cells K2.O
    go_wp2_with fail
    refine Flow.wp_region_below 11 (by kernel_rfl) (by kernel_rfl) (fun R hRc hRt => ?_)
    simp only [List.take_succ_cons, List.take_zero, List.drop_succ_cons, List.drop_zero]
    iterate 11
      first
        | refine Flow.flow_skip rfl ?_
        | (apply Flow.flow_step; rfl; (intro w1 hb; have hc := hRc.out w1 hb; go_simp; (first | with_reducible exact ⟨rfl, hb⟩ | (go_at_call 136; refine (l7_8_0 _ _).mono ?_; rintro e w2 ⟨rfl, hb2⟩; exact ⟨_, rfl, rfl, hRt.out _ _ hb hb2⟩))))
      simp only [Act.put, List.setIfInBounds_toArray, List.set_cons_zero, List.set_cons_succ]
    apply Flow.flow_nil
    clear hRc hRt
    intro w1 hb
    obtain ⟨hc, hf⟩ := Flow.bcell hb
    have hz := hb.size
    (try simp only [World.size_alloc, World.size_setCell, World.size_drew] at hz)
    have K3 := K2.step hb
    have B3 : Below w.heap.size w w1 := B2.trans (hb.mono (by omega))
    have L3 := K3.lt
    clear hb hc hf oc of ol K2 B2 L2
    obtain ⟨oc, of, ol⟩ := block_cells K3.O
    have hs : (Rf.sevTo Rf.f52 8 255#32 x.a y.a 0) ||| (((x.a &&& 255#32) - (y.a &&& 255#32)) &&& 255#32) = Rf.sevTo Rf.f52 8 255#32 x.a y.a 1 := sev_first Rf.f52 8 255#32 x.a y.a
    obtain ⟨u4, e4, O4, S4⟩ := store1 K3.O 0 (uv (Rf.sevTo Rf.f52 8 255#32 x.a y.a 1))
    go_wp2_with fail
    clear oc of e4 hs
    go_roundg (gk - 1)
    case measure => omega
    case rel => exact ⟨1, by omega, by first | rfl | simp, K3.store S4 O4, B3.trans (S4.below _ (by omega))⟩
  · have L0 := K.lt
    obtain ⟨xc, xf, xl⟩ := block_cells K.X
    obtain ⟨yc, yf, yl⟩ := block_cells K.Y
    go_wp2_with fail
    refine (l7_8_8 _ _).mono ?_
    rintro e u1 ⟨rfl, hb⟩
    have K1 := K.step hb
    have B1 : Below w.heap.size w u1 := B.trans (hb.mono (by omega))
    have L1 := K1.lt
    clear hb xc xf yc yf xl yl K B
    obtain ⟨yc, yf, yl⟩ := block_cells K1.Y
    go_wp2_with fail
    refine (l7_8_8 _ _).mono ?_
    rintro e u2 ⟨rfl, hb⟩
    have K2 := K1.step hb
    have B2 : Below w.heap.size w u2 := B1.trans (hb.mono (by omega))
    have L2 := K2.lt
    clear hb yc yf yl K1 B1 L1
    obtain ⟨oc, of, ol⟩ := block_cells K2.O
    go_wp2_with fail
    refine Flow.wp_region_below 11 (by kernel_rfl) (by kernel_rfl) (fun R hRc hRt => ?_)
    simp only [List.take_succ_cons, List.take_zero, List.drop_succ_cons, List.drop_zero]
    iterate 11
      first
        | refine Flow.flow_skip rfl ?_
        | (apply Flow.flow_step; rfl; (intro w1 hb; have hc := hRc.out w1 hb; go_simp; (first | with_reducible exact ⟨rfl, hb⟩ | (go_at_call 136; refine (l7_8_0 _ _).mono ?_; rintro e w2 ⟨rfl, hb2⟩; exact ⟨_, rfl, rfl, hRt.out _ _ hb hb2⟩))))
      simp only [Act.put, List.setIfInBounds_toArray, List.set_cons_zero, List.set_cons_succ]
    apply Flow.flow_nil
    clear hRc hRt
    intro w1 hb
    obtain ⟨hc, hf⟩ := Flow.bcell hb
    have hz := hb.size
    (try simp only [World.size_alloc, World.size_setCell, World.size_drew] at hz)
    have K3 := K2.step hb
    have B3 : Below w.heap.size w w1 := B2.trans (hb.mono (by omega))
    have L3 := K3.lt
    clear hb hc hf oc of ol K2 B2 L2
    obtain ⟨oc, of, ol⟩ := block_cells K3.O
    have hs : (Rf.sevTo Rf.f52 8 255#32 x.a y.a 1) ||| ((((x.a >>> 8 &&& 255#32) - (y.a >>> 8 &&& 255#32)) &&& 255#32) <<< 8) = Rf.sevTo Rf.f52 8 255#32 x.a y.a 2 := rfl
    obtain ⟨u4, e4, O4, S4⟩ := store1 K3.O 0 (uv (Rf.sevTo Rf.f52 8 255#32 x.a y.a 2))
    go_wp2_with fail
    clear oc of e4 hs
    go_roundg (gk - 1)
    case measure => omega
    case rel => exact ⟨2, by omega, by first | rfl | simp, K3.store S4 O4, B3.trans (S4.below _ (by omega))⟩
  · have L0 := K.lt
    obtain ⟨xc, xf, xl⟩ := block_cells K.X
    obtain ⟨yc, yf, yl⟩ := block_cells K.Y
    go_wp2_with fail
    refine (l7_8_16 _ _).mono ?_
    rintro e u1 ⟨rfl, hb⟩
    have K1 := K.step hb
    have B1 : Below w.heap.size w u1 := B.trans (hb.mono (by omega))
    have L1 := K1.lt
    clear hb xc xf yc yf xl yl K B
    obtain ⟨yc, yf, yl⟩ := block_cells K1.Y
    go_wp2_with fail
    refine (l7_8_16 _ _).mono ?_
    rintro e u2 ⟨rfl, hb⟩
    have K2 := K1.step hb
    have B2 : Below w.heap.size w u2 := B1.trans (hb.mono (by omega))
    have L2 := K2.lt
    clear hb yc yf yl K1 B1 L1
    obtain ⟨oc, of, ol⟩ := block_cells K2.O
    go_wp2_with fail
    refine Flow.wp_region_below 11 (by kernel_rfl) (by kernel_rfl) (fun R hRc hRt => ?_)
    simp only [List.take_succ_cons, List.take_zero, List.drop_succ_cons, List.drop_zero]
    iterate 11
      first
        | refine Flow.flow_skip rfl ?_
        | (apply Flow.flow_step; rfl; (intro w1 hb; have hc := hRc.out w1 hb; go_simp; (first | with_reducible exact ⟨rfl, hb⟩ | (go_at_call 136; refine (l7_8_0 _ _).mono ?_; rintro e w2 ⟨rfl, hb2⟩; exact ⟨_, rfl, rfl, hRt.out _ _ hb hb2⟩))))
      simp only [Act.put, List.setIfInBounds_toArray, List.set_cons_zero, List.set_cons_succ]
    apply Flow.flow_nil
    clear hRc hRt
    intro w1 hb
    obtain ⟨hc, hf⟩ := Flow.bcell hb
    have hz := hb.size
    (try simp only [World.size_alloc, World.size_setCell, World.size_drew] at hz)
    have K3 := K2.step hb
    have B3 : Below w.heap.size w w1 := B2.trans (hb.mono (by omega))
    have L3 := K3.lt
    clear hb hc hf oc of ol K2 B2 L2
    obtain ⟨oc, of, ol⟩ := block_cells K3.O
    have hs : (Rf.sevTo Rf.f52 8 255#32 x.a y.a 2) ||| ((((x.a >>> 16 &&& 255#32) - (y.a >>> 16 &&& 255#32)) &&& 255#32) <<< 16) = Rf.sevTo Rf.f52 8 255#32 x.a y.a 3 := rfl
    obtain ⟨u4, e4, O4, S4⟩ := store1 K3.O 0 (uv (Rf.sevTo Rf.f52 8 255#32 x.a y.a 3))
    go_wp2_with fail
    clear oc of e4 hs
    go_roundg (gk - 1)
    case measure => omega
    case rel => exact ⟨3, by omega, by first | rfl | simp, K3.store S4 O4, B3.trans (S4.below _ (by omega))⟩
  · have L0 := K.lt
    obtain ⟨xc, xf, xl⟩ := block_cells K.X
    obtain ⟨yc, yf, yl⟩ := block_cells K.Y
    go_wp2_with fail
    refine (l7_8_24 _ _).mono ?_
    rintro e u1 ⟨rfl, hb⟩
    have K1 := K.step hb
    have B1 : Below w.heap.size w u1 := B.trans (hb.mono (by omega))
    have L1 := K1.lt
    clear hb xc xf yc yf xl yl K B
    obtain ⟨yc, yf, yl⟩ := block_cells K1.Y
    go_wp2_with fail
    refine (l7_8_24 _ _).mono ?_
    rintro e u2 ⟨rfl, hb⟩
    have K2 := K1.step hb
    have B2 : Below w.heap.size w u2 := B1.trans (hb.mono (by omega))
    have L2 := K2.lt
    clear hb yc yf yl K1 B1 L1
    obtain ⟨oc, of, ol⟩ := block_cells K2.O
    go_wp2_with fail
    refine Flow.wp_region_below 11 (by kernel_rfl) (by kernel_rfl) (fun R hRc hRt => ?_)
    simp only [List.take_succ_cons, List.take_zero, List.drop_succ_cons, List.drop_zero]
    iterate 11
      first
        | refine Flow.flow_skip rfl ?_
        | (apply Flow.flow_step; rfl; (intro w1 hb; have hc := hRc.out w1 hb; go_simp; (first | with_reducible exact ⟨rfl, hb⟩ | (go_at_call 136; refine (l7_8_0 _ _).mono ?_; rintro e w2 ⟨rfl, hb2⟩; exact ⟨_, rfl, rfl, hRt.out _ _ hb hb2⟩))))
      simp only [Act.put, List.setIfInBounds_toArray, List.set_cons_zero, List.set_cons_succ]
    apply Flow.flow_nil
    clear hRc hRt
    intro w1 hb
    obtain ⟨hc, hf⟩ := Flow.bcell hb
    have hz := hb.size
    (try simp only [World.size_alloc, World.size_setCell, World.size_drew] at hz)
    have K3 := K2.step hb
    have B3 : Below w.heap.size w w1 := B2.trans (hb.mono (by omega))
    have L3 := K3.lt
    clear hb hc hf oc of ol K2 B2 L2
    obtain ⟨oc, of, ol⟩ := block_cells K3.O
    have hs : (Rf.sevTo Rf.f52 8 255#32 x.a y.a 3) ||| ((((x.a >>> 24 &&& 255#32) - (y.a >>> 24 &&& 255#32)) &&& 255#32) <<< 24) = Rf.sevTo Rf.f52 8 255#32 x.a y.a 4 := rfl
    obtain ⟨u4, e4, O4, S4⟩ := store1 K3.O 0 (uv (Rf.sevTo Rf.f52 8 255#32 x.a y.a 4))
    go_wp2_with fail
    clear oc of e4 hs
    go_roundg (gk - 1)
    case measure => omega
    case rel => exact ⟨4, by omega, by first | rfl | simp, K3.store S4 O4, B3.trans (S4.below _ (by omega))⟩
  have L := K.lt
  go_wp2_with fail
  rw [rounds_succ]
  go_wp2_with fail
  go_loopg [18, 19, 20, 21] 4 (fun k p _ _ _ wr => ∃ j : Nat, j + k = 4 ∧ p = .int .i64 ((8 : Int) * (j : Int)) ∧ L7 w.heap.size x y ⟨Rf.sevTo Rf.f52 8 255#32 x.a y.a 4, Rf.sevTo Rf.f52 8 255#32 x.b y.b j, 0#32, 0#32⟩ wr ∧ Below w.heap.size w wr)
  case atStart => exact ⟨0, by omega, rfl, K, B⟩
  clear K B
  obtain ⟨j, hjk, rfl, K, B⟩ := hrel
  rcases (show j = 0 ∨ j = 1 ∨ j = 2 ∨ j = 3 ∨ j = 4 by omega) with rfl | rfl | rfl | rfl | rfl
  · have L0 := K.lt
    obtain ⟨xc, xf, xl⟩ := block_cells K.X
    obtain ⟨yc, yf, yl⟩ := block_cells K.Y
    go_wp2_with fail
    refine (l7_8_0 _ _).mono ?_
    rintro e u1 ⟨rfl, hb⟩
    have K1 := K.step hb
    have B1 : Below w.heap.size w u1 := B.trans (hb.mono (by omega))
    have L1 := K1.lt
    clear hb xc xf yc yf xl yl K B
    obtain ⟨yc, yf, yl⟩ := block_cells K1.Y
    go_wp2_with fail
    refine (l7_8_0 _ _).mono ?_
    rintro e u2 ⟨rfl, hb⟩
    have K2 := K1.step hb
    have B2 : Below w.heap.size w u2 := B1.trans (hb.mono (by omega))
    have L2 := K2.lt
    clear hb yc yf yl K1 B1 L1
    obtain ⟨oc, of, ol⟩ := block_cells K2.O
    go_wp2_with fail
    refine Flow.wp_region_below 11 (by kernel_rfl) (by kernel_rfl) (fun R hRc hRt => ?_)
    simp only [List.take_succ_cons, List.take_zero, List.drop_succ_cons, List.drop_zero]
    iterate 11
      first
        | refine Flow.flow_skip rfl ?_
        | (apply Flow.flow_step; rfl; (intro w1 hb; have hc := hRc.out w1 hb; go_simp; (first | with_reducible exact ⟨rfl, hb⟩ | (go_at_call 136; refine (l7_8_0 _ _).mono ?_; rintro e w2 ⟨rfl, hb2⟩; exact ⟨_, rfl, rfl, hRt.out _ _ hb hb2⟩))))
      simp only [Act.put, List.setIfInBounds_toArray, List.set_cons_zero, List.set_cons_succ]
    apply Flow.flow_nil
    clear hRc hRt
    intro w1 hb
    obtain ⟨hc, hf⟩ := Flow.bcell hb
    have hz := hb.size
    (try simp only [World.size_alloc, World.size_setCell, World.size_drew] at hz)
    have K3 := K2.step hb
    have B3 : Below w.heap.size w w1 := B2.trans (hb.mono (by omega))
    have L3 := K3.lt
    clear hb hc hf oc of ol K2 B2 L2
    obtain ⟨oc, of, ol⟩ := block_cells K3.O
    have hs : (Rf.sevTo Rf.f52 8 255#32 x.b y.b 0) ||| (((x.b &&& 255#32) - (y.b &&& 255#32)) &&& 255#32) = Rf.sevTo Rf.f52 8 255#32 x.b y.b 1 := sev_first Rf.f52 8 255#32 x.b y.b
    obtain ⟨u4, e4, O4, S4⟩ := store1 K3.O 1 (uv (Rf.sevTo Rf.f52 8 255#32 x.b y.b 1))
    go_wp2_with fail
    clear oc of e4 hs
    go_roundg (gk - 1)
    case measure => omega
    case rel => exact ⟨1, by omega, by first | rfl | simp, K3.store S4 O4, B3.trans (S4.below _ (by omega))⟩
  · have L0 := K.lt
    obtain ⟨xc, xf, xl⟩ := block_cells K.X
    obtain ⟨yc, yf, yl⟩ := block_cells K.Y
    go_wp2_with fail
    refine (l7_8_8 _ _).mono ?_
    rintro e u1 ⟨rfl, hb⟩
    have K1 := K.step hb
    have B1 : Below w.heap.size w u1 := B.trans (hb.mono (by omega))
    have L1 := K1.lt
    clear hb xc xf yc yf xl yl K B
    obtain ⟨yc, yf, yl⟩ := block_cells K1.Y
    go_wp2_with fail
    refine (l7_8_8 _ _).mono ?_
    rintro e u2 ⟨rfl, hb⟩
    have K2 := K1.step hb
    have B2 : Below w.heap.size w u2 := B1.trans (hb.mono (by omega))
    have L2 := K2.lt
    clear hb yc yf yl K1 B1 L1
    obtain ⟨oc, of, ol⟩ := block_cells K2.O
    go_wp2_with fail
    refine Flow.wp_region_below 11 (by kernel_rfl) (by kernel_rfl) (fun R hRc hRt => ?_)
    simp only [List.take_succ_cons, List.take_zero, List.drop_succ_cons, List.drop_zero]
    iterate 11
      first
        | refine Flow.flow_skip rfl ?_
        | (apply Flow.flow_step; rfl; (intro w1 hb; have hc := hRc.out w1 hb; go_simp; (first | with_reducible exact ⟨rfl, hb⟩ | (go_at_call 136; refine (l7_8_0 _ _).mono ?_; rintro e w2 ⟨rfl, hb2⟩; exact ⟨_, rfl, rfl, hRt.out _ _ hb hb2⟩))))
      simp only [Act.put, List.setIfInBounds_toArray, List.set_cons_zero, List.set_cons_succ]
    apply Flow.flow_nil
    clear hRc hRt
    intro w1 hb
    obtain ⟨hc, hf⟩ := Flow.bcell hb
    have hz := hb.size
    (try simp only [World.size_alloc, World.size_setCell, World.size_drew] at hz)
    have K3 := K2.step hb
    have B3 : Below w.heap.size w w1 := B2.trans (hb.mono (by omega))
    have L3 := K3.lt
    clear hb hc hf oc of ol K2 B2 L2
    obtain ⟨oc, of, ol⟩ := block_cells K3.O
    have hs : (Rf.sevTo Rf.f52 8 255#32 x.b y.b 1) ||| ((((x.b >>> 8 &&& 255#32) - (y.b >>> 8 &&& 255#32)) &&& 255#32) <<< 8) = Rf.sevTo Rf.f52 8 255#32 x.b y.b 2 := rfl
    obtain ⟨u4, e4, O4, S4⟩ := store1 K3.O 1 (uv (Rf.sevTo Rf.f52 8 255#32 x.b y.b 2))
    go_wp2_with fail
    clear oc of e4 hs
    go_roundg (gk - 1)
    case measure => omega
    case rel => exact ⟨2, by omega, by first | rfl | simp, K3.store S4 O4, B3.trans (S4.below _ (by omega))⟩
  · have L0 := K.lt
    obtain ⟨xc, xf, xl⟩ := block_cells K.X
    obtain ⟨yc, yf, yl⟩ := block_cells K.Y
    go_wp2_with fail
    refine (l7_8_16 _ _).mono ?_
    rintro e u1 ⟨rfl, hb⟩
    have K1 := K.step hb
    have B1 : Below w.heap.size w u1 := B.trans (hb.mono (by omega))
    have L1 := K1.lt
    clear hb xc xf yc yf xl yl K B
    obtain ⟨yc, yf, yl⟩ := block_cells K1.Y
    go_wp2_with fail
    refine (l7_8_16 _ _).mono ?_
    rintro e u2 ⟨rfl, hb⟩
    have K2 := K1.step hb
    have B2 : Below w.heap.size w u2 := B1.trans (hb.mono (by omega))
    have L2 := K2.lt
    clear hb yc yf yl K1 B1 L1
    obtain ⟨oc, of, ol⟩ := block_cells K2.O
    go_wp2_with fail
    refine Flow.wp_region_below 11 (by kernel_rfl) (by kernel_rfl) (fun R hRc hRt => ?_)
    simp only [List.take_succ_cons, List.take_zero, List.drop_succ_cons, List.drop_zero]
    iterate 11
      first
        | refine Flow.flow_skip rfl ?_
        | (apply Flow.flow_step; rfl; (intro w1 hb; have hc := hRc.out w1 hb; go_simp; (first | with_reducible exact ⟨rfl, hb⟩ | (go_at_call 136; refine (l7_8_0 _ _).mono ?_; rintro e w2 ⟨rfl, hb2⟩; exact ⟨_, rfl, rfl, hRt.out _ _ hb hb2⟩))))
      simp only [Act.put, List.setIfInBounds_toArray, List.set_cons_zero, List.set_cons_succ]
    apply Flow.flow_nil
    clear hRc hRt
    intro w1 hb
    obtain ⟨hc, hf⟩ := Flow.bcell hb
    have hz := hb.size
    (try simp only [World.size_alloc, World.size_setCell, World.size_drew] at hz)
    have K3 := K2.step hb
    have B3 : Below w.heap.size w w1 := B2.trans (hb.mono (by omega))
    have L3 := K3.lt
    clear hb hc hf oc of ol K2 B2 L2
    obtain ⟨oc, of, ol⟩ := block_cells K3.O
    have hs : (Rf.sevTo Rf.f52 8 255#32 x.b y.b 2) ||| ((((x.b >>> 16 &&& 255#32) - (y.b >>> 16 &&& 255#32)) &&& 255#32) <<< 16) = Rf.sevTo Rf.f52 8 255#32 x.b y.b 3 := rfl
    obtain ⟨u4, e4, O4, S4⟩ := store1 K3.O 1 (uv (Rf.sevTo Rf.f52 8 255#32 x.b y.b 3))
    go_wp2_with fail
    clear oc of e4 hs
    go_roundg (gk - 1)
    case measure => omega
    case rel => exact ⟨3, by omega, by first | rfl | simp, K3.store S4 O4, B3.trans (S4.below _ (by omega))⟩
  · have L0 := K.lt
    obtain ⟨xc, xf, xl⟩ := block_cells K.X
    obtain ⟨yc, yf, yl⟩ := block_cells K.Y
    go_wp2_with fail
    refine (l7_8_24 _ _).mono ?_
    rintro e u1 ⟨rfl, hb⟩
    have K1 := K.step hb
    have B1 : Below w.heap.size w u1 := B.trans (hb.mono (by omega))
    have L1 := K1.lt
    clear hb xc xf yc yf xl yl K B
    obtain ⟨yc, yf, yl⟩ := block_cells K1.Y
    go_wp2_with fail
    refine (l7_8_24 _ _).mono ?_
    rintro e u2 ⟨rfl, hb⟩
    have K2 := K1.step hb
    have B2 : Below w.heap.size w u2 := B1.trans (hb.mono (by omega))
    have L2 := K2.lt
    clear hb yc yf yl K1 B1 L1
    obtain ⟨oc, of, ol⟩ := block_cells K2.O
    go_wp2_with fail
    refine Flow.wp_region_below 11 (by kernel_rfl) (by kernel_rfl) (fun R hRc hRt => ?_)
    simp only [List.take_succ_cons, List.take_zero, List.drop_succ_cons, List.drop_zero]
    iterate 11
      first
        | refine Flow.flow_skip rfl ?_
        | (apply Flow.flow_step; rfl; (intro w1 hb; have hc := hRc.out w1 hb; go_simp; (first | with_reducible exact ⟨rfl, hb⟩ | (go_at_call 136; refine (l7_8_0 _ _).mono ?_; rintro e w2 ⟨rfl, hb2⟩; exact ⟨_, rfl, rfl, hRt.out _ _ hb hb2⟩))))
      simp only [Act.put, List.setIfInBounds_toArray, List.set_cons_zero, List.set_cons_succ]
    apply Flow.flow_nil
    clear hRc hRt
    intro w1 hb
    obtain ⟨hc, hf⟩ := Flow.bcell hb
    have hz := hb.size
    (try simp only [World.size_alloc, World.size_setCell, World.size_drew] at hz)
    have K3 := K2.step hb
    have B3 : Below w.heap.size w w1 := B2.trans (hb.mono (by omega))
    have L3 := K3.lt
    clear hb hc hf oc of ol K2 B2 L2
    obtain ⟨oc, of, ol⟩ := block_cells K3.O
    have hs : (Rf.sevTo Rf.f52 8 255#32 x.b y.b 3) ||| ((((x.b >>> 24 &&& 255#32) - (y.b >>> 24 &&& 255#32)) &&& 255#32) <<< 24) = Rf.sevTo Rf.f52 8 255#32 x.b y.b 4 := rfl
    obtain ⟨u4, e4, O4, S4⟩ := store1 K3.O 1 (uv (Rf.sevTo Rf.f52 8 255#32 x.b y.b 4))
    go_wp2_with fail
    clear oc of e4 hs
    go_roundg (gk - 1)
    case measure => omega
    case rel => exact ⟨4, by omega, by first | rfl | simp, K3.store S4 O4, B3.trans (S4.below _ (by omega))⟩
  have L := K.lt
  go_wp2_with fail
  rw [rounds_succ]
  go_wp2_with fail
  go_loopg [18, 19, 20, 21] 4 (fun k p _ _ _ wr => ∃ j : Nat, j + k = 4 ∧ p = .int .i64 ((8 : Int) * (j : Int)) ∧ L7 w.heap.size x y ⟨Rf.sevTo Rf.f52 8 255#32 x.a y.a 4, Rf.sevTo Rf.f52 8 255#32 x.b y.b 4, Rf.sevTo Rf.f52 8 255#32 x.c y.c j, 0#32⟩ wr ∧ Below w.heap.size w wr)
  case atStart => exact ⟨0, by omega, rfl, K, B⟩
  clear K B
  obtain ⟨j, hjk, rfl, K, B⟩ := hrel
  rcases (show j = 0 ∨ j = 1 ∨ j = 2 ∨ j = 3 ∨ j = 4 by omega) with rfl | rfl | rfl | rfl | rfl
  · have L0 := K.lt
    obtain ⟨xc, xf, xl⟩ := block_cells K.X
    obtain ⟨yc, yf, yl⟩ := block_cells K.Y
    go_wp2_with fail
    refine (l7_8_0 _ _).mono ?_
    rintro e u1 ⟨rfl, hb⟩
    have K1 := K.step hb
    have B1 : Below w.heap.size w u1 := B.trans (hb.mono (by omega))
    have L1 := K1.lt
    clear hb xc xf yc yf xl yl K B
    obtain ⟨yc, yf, yl⟩ := block_cells K1.Y
    go_wp2_with fail
    refine (l7_8_0 _ _).mono ?_
    rintro e u2 ⟨rfl, hb⟩
    have K2 := K1.step hb
    have B2 : Below w.heap.size w u2 := B1.trans (hb.mono (by omega))
    have L2 := K2.lt
    clear hb yc yf yl K1 B1 L1
    obtain ⟨oc, of, ol⟩ := block_cells K2.O
    go_wp2_with fail
    refine Flow.wp_region_below 11 (by kernel_rfl) (by kernel_rfl) (fun R hRc hRt => ?_)
    simp only [List.take_succ_cons, List.take_zero, List.drop_succ_cons, List.drop_zero]
    iterate 11
      first
        | refine Flow.flow_skip rfl ?_
        | (apply Flow.flow_step; rfl; (intro w1 hb; have hc := hRc.out w1 hb; go_simp; (first | with_reducible exact ⟨rfl, hb⟩ | (go_at_call 136; refine (l7_8_0 _ _).mono ?_; rintro e w2 ⟨rfl, hb2⟩; exact ⟨_, rfl, rfl, hRt.out _ _ hb hb2⟩))))
      simp only [Act.put, List.setIfInBounds_toArray, List.set_cons_zero, List.set_cons_succ]
    apply Flow.flow_nil
    clear hRc hRt
    intro w1 hb
    obtain ⟨hc, hf⟩ := Flow.bcell hb
    have hz := hb.size
    (try simp only [World.size_alloc, World.size_setCell, World.size_drew] at hz)
    have K3 := K2.step hb
    have B3 : Below w.heap.size w w1 := B2.trans (hb.mono (by omega))
    have L3 := K3.lt
    clear hb hc hf oc of ol K2 B2 L2
    obtain ⟨oc, of, ol⟩ := block_cells K3.O
    have hs : (Rf.sevTo Rf.f52 8 255#32 x.c y.c 0) ||| (((x.c &&& 255#32) - (y.c &&& 255#32)) &&& 255#32) = Rf.sevTo Rf.f52 8 255#32 x.c y.c 1 := sev_first Rf.f52 8 255#32 x.c y.c
    obtain ⟨u4, e4, O4, S4⟩ := store1 K3.O 2 (uv (Rf.sevTo Rf.f52 8 255#32 x.c y.c 1))
    go_wp2_with fail
    clear oc of e4 hs
    go_roundg (gk - 1)
    case measure => omega
    case rel => exact ⟨1, by omega, by first | rfl | simp, K3.store S4 O4, B3.trans (S4.below _ (by omega))⟩
  · have L0 := K.lt
    obtain ⟨xc, xf, xl⟩ := block_cells K.X
    obtain ⟨yc, yf, yl⟩ := block_cells K.Y
    go_wp2_with fail
    refine (l7_8_8 _ _).mono ?_
    rintro e u1 ⟨rfl, hb⟩
    have K1 := K.step hb
    have B1 : Below w.heap.size w u1 := B.trans (hb.mono (by omega))
    have L1 := K1.lt
    clear hb xc xf yc yf xl yl K B
    obtain ⟨yc, yf, yl⟩ := block_cells K1.Y
    go_wp2_with fail
    refine (l7_8_8 _ _).mono ?_
    rintro e u2 ⟨rfl, hb⟩
    have K2 := K1.step hb
    have B2 : Below w.heap.size w u2 := B1.trans (hb.mono (by omega))
    have L2 := K2.lt
    clear hb yc yf yl K1 B1 L1
    obtain ⟨oc, of, ol⟩ := block_cells K2.O
    go_wp2_with fail
    refine Flow.wp_region_below 11 (by kernel_rfl) (by kernel_rfl) (fun R hRc hRt => ?_)
    simp only [List.take_succ_cons, List.take_zero, List.drop_succ_cons, List.drop_zero]
    iterate 11
      first
        | refine Flow.flow_skip rfl ?_
        | (apply Flow.flow_step; rfl; (intro w1 hb; have hc := hRc.out w1 hb; go_simp; (first | with_reducible exact ⟨rfl, hb⟩ | (go_at_call 136; refine (l7_8_0 _ _).mono ?_; rintro e w2 ⟨rfl, hb2⟩; exact ⟨_, rfl, rfl, hRt.out _ _ hb hb2⟩))))
      simp only [Act.put, List.setIfInBounds_toArray, List.set_cons_zero, List.set_cons_succ]
    apply Flow.flow_nil
    clear hRc hRt
    intro w1 hb
    obtain ⟨hc, hf⟩ := Flow.bcell hb
    have hz := hb.size
    (try simp only [World.size_alloc, World.size_setCell, World.size_drew] at hz)
    have K3 := K2.step hb
    have B3 : Below w.heap.size w w1 := B2.trans (hb.mono (by omega))
    have L3 := K3.lt
    clear hb hc hf oc of ol K2 B2 L2
    obtain ⟨oc, of, ol⟩ := block_cells K3.O
    have hs : (Rf.sevTo Rf.f52 8 255#32 x.c y.c 1) ||| ((((x.c >>> 8 &&& 255#32) - (y.c >>> 8 &&& 255#32)) &&& 255#32) <<< 8) = Rf.sevTo Rf.f52 8 255#32 x.c y.c 2 := rfl
    obtain ⟨u4, e4, O4, S4⟩ := store1 K3.O 2 (uv (Rf.sevTo Rf.f52 8 255#32 x.c y.c 2))
    go_wp2_with fail
    clear oc of e4 hs
    go_roundg (gk - 1)
    case measure => omega
    case rel => exact ⟨2, by omega, by first | rfl | simp, K3.store S4 O4, B3.trans (S4.below _ (by omega))⟩
  · have L0 := K.lt
    obtain ⟨xc, xf, xl⟩ := block_cells K.X
    obtain ⟨yc, yf, yl⟩ := block_cells K.Y
    go_wp2_with fail
    refine (l7_8_16 _ _).mono ?_
    rintro e u1 ⟨rfl, hb⟩
    have K1 := K.step hb
    have B1 : Below w.heap.size w u1 := B.trans (hb.mono (by omega))
    have L1 := K1.lt
    clear hb xc xf yc yf xl yl K B
    obtain ⟨yc, yf, yl⟩ := block_cells K1.Y
    go_wp2_with fail
    refine (l7_8_16 _ _).mono ?_
    rintro e u2 ⟨rfl, hb⟩
    have K2 := K1.step hb
    have B2 : Below w.heap.size w u2 := B1.trans (hb.mono (by omega))
    have L2 := K2.lt
    clear hb yc yf yl K1 B1 L1
    obtain ⟨oc, of, ol⟩ := block_cells K2.O
    go_wp2_with fail
    refine Flow.wp_region_below 11 (by kernel_rfl) (by kernel_rfl) (fun R hRc hRt => ?_)
    simp only [List.take_succ_cons, List.take_zero, List.drop_succ_cons, List.drop_zero]
    iterate 11
      first
        | refine Flow.flow_skip rfl ?_
        | (apply Flow.flow_step; rfl; (intro w1 hb; have hc := hRc.out w1 hb; go_simp; (first | with_reducible exact ⟨rfl, hb⟩ | (go_at_call 136; refine (l7_8_0 _ _).mono ?_; rintro e w2 ⟨rfl, hb2⟩; exact ⟨_, rfl, rfl, hRt.out _ _ hb hb2⟩))))
      simp only [Act.put, List.setIfInBounds_toArray, List.set_cons_zero, List.set_cons_succ]
    apply Flow.flow_nil
    clear hRc hRt
    intro w1 hb
    obtain ⟨hc, hf⟩ := Flow.bcell hb
    have hz := hb.size
    (try simp only [World.size_alloc, World.size_setCell, World.size_drew] at hz)
    have K3 := K2.step hb
    have B3 : Below w.heap.size w w1 := B2.trans (hb.mono (by omega))
    have L3 := K3.lt
    clear hb hc hf oc of ol K2 B2 L2
    obtain ⟨oc, of, ol⟩ := block_cells K3.O
    have hs : (Rf.sevTo Rf.f52 8 255#32 x.c y.c 2) ||| ((((x.c >>> 16 &&& 255#32) - (y.c >>> 16 &&& 255#32)) &&& 255#32) <<< 16) = Rf.sevTo Rf.f52 8 255#32 x.c y.c 3 := rfl
    obtain ⟨u4, e4, O4, S4⟩ := store1 K3.O 2 (uv (Rf.sevTo Rf.f52 8 255#32 x.c y.c 3))
    go_wp2_with fail
    clear oc of e4 hs
    go_roundg (gk - 1)
    case measure => omega
    case rel => exact ⟨3, by omega, by first | rfl | simp, K3.store S4 O4, B3.trans (S4.below _ (by omega))⟩
  · have L0 := K.lt
    obtain ⟨xc, xf, xl⟩ := block_cells K.X
    obtain ⟨yc, yf, yl⟩ := block_cells K.Y
    go_wp2_with fail
    refine (l7_8_24 _ _).mono ?_
    rintro e u1 ⟨rfl, hb⟩
    have K1 := K.step hb
    have B1 : Below w.heap.size w u1 := B.trans (hb.mono (by omega))
    have L1 := K1.lt
    clear hb xc xf yc yf xl yl K B
    obtain ⟨yc, yf, yl⟩ := block_cells K1.Y
    go_wp2_with fail
    refine (l7_8_24 _ _).mono ?_
    rintro e u2 ⟨rfl, hb⟩
    have K2 := K1.step hb
    have B2 : Below w.heap.size w u2 := B1.trans (hb.mono (by omega))
    have L2 := K2.lt
    clear hb yc yf yl K1 B1 L1
    obtain ⟨oc, of, ol⟩ := block_cells K2.O
    go_wp2_with fail
    refine Flow.wp_region_below 11 (by kernel_rfl) (by kernel_rfl) (fun R hRc hRt => ?_)
    simp only [List.take_succ_cons, List.take_zero, List.drop_succ_cons, List.drop_zero]
    iterate 11
      first
        | refine Flow.flow_skip rfl ?_
        | (apply Flow.flow_step; rfl; (intro w1 hb; have hc := hRc.out w1 hb; go_simp; (first | with_reducible exact ⟨rfl, hb⟩ | (go_at_call 136; refine (l7_8_0 _ _).mono ?_; rintro e w2 ⟨rfl, hb2⟩; exact ⟨_, rfl, rfl, hRt.out _ _ hb hb2⟩))))
      simp only [Act.put, List.setIfInBounds_toArray, List.set_cons_zero, List.set_cons_succ]
    apply Flow.flow_nil
    clear hRc hRt
    intro w1 hb
    obtain ⟨hc, hf⟩ := Flow.bcell hb
    have hz := hb.size
    (try simp only [World.size_alloc, World.size_setCell, World.size_drew] at hz)
    have K3 := K2.step hb
    have B3 : Below w.heap.size w w1 := B2.trans (hb.mono (by omega))
    have L3 := K3.lt
    clear hb hc hf oc of ol K2 B2 L2
    obtain ⟨oc, of, ol⟩ := block_cells K3.O
    have hs : (Rf.sevTo Rf.f52 8 255#32 x.c y.c 3) ||| ((((x.c >>> 24 &&& 255#32) - (y.c >>> 24 &&& 255#32)) &&& 255#32) <<< 24) = Rf.sevTo Rf.f52 8 255#32 x.c y.c 4 := rfl
    obtain ⟨u4, e4, O4, S4⟩ := store1 K3.O 2 (uv (Rf.sevTo Rf.f52 8 255#32 x.c y.c 4))
    go_wp2_with fail
    clear oc of e4 hs
    go_roundg (gk - 1)
    case measure => omega
    case rel => exact ⟨4, by omega, by first | rfl | simp, K3.store S4 O4, B3.trans (S4.below _ (by omega))⟩
  have L := K.lt
  go_wp2_with fail
  rw [rounds_succ]
  go_wp2_with fail
  go_loopg [18, 19, 20, 21] 4 (fun k p _ _ _ wr => ∃ j : Nat, j + k = 4 ∧ p = .int .i64 ((8 : Int) * (j : Int)) ∧ L7 w.heap.size x y ⟨Rf.sevTo Rf.f52 8 255#32 x.a y.a 4, Rf.sevTo Rf.f52 8 255#32 x.b y.b 4, Rf.sevTo Rf.f52 8 255#32 x.c y.c 4, Rf.sevTo Rf.f52 8 255#32 x.d y.d j⟩ wr ∧ Below w.heap.size w wr)
  case atStart => exact ⟨0, by omega, rfl, K, B⟩
  clear K B
  obtain ⟨j, hjk, rfl, K, B⟩ := hrel
  rcases (show j = 0 ∨ j = 1 ∨ j = 2 ∨ j = 3 ∨ j = 4 by omega) with rfl | rfl | rfl | rfl | rfl
  · have L0 := K.lt
    obtain ⟨xc, xf, xl⟩ := block_cells K.X
    obtain ⟨yc, yf, yl⟩ := block_cells K.Y
    go_wp2_with fail
    refine (l7_8_0 _ _).mono ?_
    rintro e u1 ⟨rfl, hb⟩
    have K1 := K.step hb
    have B1 : Below w.heap.size w u1 := B.trans (hb.mono (by omega))
    have L1 := K1.lt
    clear hb xc xf yc yf xl yl K B
    obtain ⟨yc, yf, yl⟩ := block_cells K1.Y
    go_wp2_with fail
    refine (l7_8_0 _ _).mono ?_
    rintro e u2 ⟨rfl, hb⟩
    have K2 := K1.step hb
    have B2 : Below w.heap.size w u2 := B1.trans (hb.mono (by omega))
    have L2 := K2.lt
    clear hb yc yf yl K1 B1 L1
    obtain ⟨oc, of, ol⟩ := block_cells K2.O
    go_wp2_with fail
    refine Flow.wp_region_below 11 (by kernel_rfl) (by kernel_rfl) (fun R hRc hRt => ?_)
    simp only [List.take_succ_cons, List.take_zero, List.drop_succ_cons, List.drop_zero]
    iterate 11
      first
        | refine Flow.flow_skip rfl ?_
        | (apply Flow.flow_step; rfl; (intro w1 hb; have hc := hRc.out w1 hb; go_simp; (first | with_reducible exact ⟨rfl, hb⟩ | (go_at_call 136; refine (l7_8_0 _ _).mono ?_; rintro e w2 ⟨rfl, hb2⟩; exact ⟨_, rfl, rfl, hRt.out _ _ hb hb2⟩))))
      simp only [Act.put, List.setIfInBounds_toArray, List.set_cons_zero, List.set_cons_succ]
    apply Flow.flow_nil
    clear hRc hRt
    intro w1 hb
    obtain ⟨hc, hf⟩ := Flow.bcell hb
    have hz := hb.size
    (try simp only [World.size_alloc, World.size_setCell, World.size_drew] at hz)
    have K3 := K2.step hb
    have B3 : Below w.heap.size w w1 := B2.trans (hb.mono (by omega))
    have L3 := K3.lt
    clear hb hc hf oc of ol K2 B2 L2
    obtain ⟨oc, of, ol⟩ := block_cells K3.O
    have hs : (Rf.sevTo Rf.f52 8 255#32 x.d y.d 0) ||| (((x.d &&& 255#32) - (y.d &&& 255#32)) &&& 255#32) = Rf.sevTo Rf.f52 8 255#32 x.d y.d 1 := sev_first Rf.f52 8 255#32 x.d y.d
    obtain ⟨u4, e4, O4, S4⟩ := store1 K3.O 3 (uv (Rf.sevTo Rf.f52 8 255#32 x.d y.d 1))
    go_wp2_with fail
    clear oc of e4 hs
    go_roundg (gk - 1)
    case measure => omega
    case rel => exact ⟨1, by omega, by first | rfl | simp, K3.store S4 O4, B3.trans (S4.below _ (by omega))⟩
  · have L0 := K.lt
    obtain ⟨xc, xf, xl⟩ := block_cells K.X
    obtain ⟨yc, yf, yl⟩ := block_cells K.Y
    go_wp2_with fail
    refine (l7_8_8 _ _).mono ?_
    rintro e u1 ⟨rfl, hb⟩
    have K1 := K.step hb
    have B1 : Below w.heap.size w u1 := B.trans (hb.mono (by omega))
    have L1 := K1.lt
    clear hb xc xf yc yf xl yl K B
    obtain ⟨yc, yf, yl⟩ := block_cells K1.Y
    go_wp2_with fail
    refine (l7_8_8 _ _).mono ?_
    rintro e u2 ⟨rfl, hb⟩
    have K2 := K1.step hb
    have B2 : Below w.heap.size w u2 := B1.trans (hb.mono (by omega))
    have L2 := K2.lt
    clear hb yc yf yl K1 B1 L1
    obtain ⟨oc, of, ol⟩ := block_cells K2.O
    go_wp2_with fail
    refine Flow.wp_region_below 11 (by kernel_rfl) (by kernel_rfl) (fun R hRc hRt => ?_)
    simp only [List.take_succ_cons, List.take_zero, List.drop_succ_cons, List.drop_zero]
    iterate 11
      first
        | refine Flow.flow_skip rfl ?_
        | (apply Flow.flow_step; rfl; (intro w1 hb; have hc := hRc.out w1 hb; go_simp; (first | with_reducible exact ⟨rfl, hb⟩ | (go_at_call 136; refine (l7_8_0 _ _).mono ?_; rintro e w2 ⟨rfl, hb2⟩; exact ⟨_, rfl, rfl, hRt.out _ _ hb hb2⟩))))
      simp only [Act.put, List.setIfInBounds_toArray, List.set_cons_zero, List.set_cons_succ]
    apply Flow.flow_nil
    clear hRc hRt
    intro w1 hb
    obtain ⟨hc, hf⟩ := Flow.bcell hb
    have hz := hb.size
    (try simp only [World.size_alloc, World.size_setCell, World.size_drew] at hz)
    have K3 := K2.step hb
    have B3 : Below w.heap.size w w1 := B2.trans (hb.mono (by omega))
    have L3 := K3.lt
    clear hb hc hf oc of ol K2 B2 L2
    obtain ⟨oc, of, ol⟩ := block_cells K3.O
    have hs : (Rf.sevTo Rf.f52 8 255#32 x.d y.d 1) ||| ((((x.d >>> 8 &&& 255#32) - (y.d >>> 8 &&& 255#32)) &&& 255#32) <<< 8) = Rf.sevTo Rf.f52 8 255#32 x.d y.d 2 := rfl
    obtain ⟨u4, e4, O4, S4⟩ := store1 K3.O 3 (uv (Rf.sevTo Rf.f52 8 255#32 x.d y.d 2))
    go_wp2_with fail
    clear oc of e4 hs
    go_roundg (gk - 1)
    case measure => omega
    case rel => exact ⟨2, by omega, by first | rfl | simp, K3.store S4 O4, B3.trans (S4.below _ (by omega))⟩
  · have L0 := K.lt
    obtain ⟨xc, xf, xl⟩ := block_cells K.X
    obtain ⟨yc, yf, yl⟩ := block_cells K.Y
    go_wp2_with fail
    refine (l7_8_16 _ _).mono ?_
    rintro e u1 ⟨rfl, hb⟩
    have K1 := K.step hb
    have B1 : Below w.heap.size w u1 := B.trans (hb.mono (by omega))
    have L1 := K1.lt
    clear hb xc xf yc yf xl yl K B
    obtain ⟨yc, yf, yl⟩ := block_cells K1.Y
    go_wp2_with fail
    refine (l7_8_16 _ _).mono ?_
    rintro e u2 ⟨rfl, hb⟩
    have K2 := K1.step hb
    have B2 : Below w.heap.size w u2 := B1.trans (hb.mono (by omega))
    have L2 := K2.lt
    clear hb yc yf yl K1 B1 L1
    obtain ⟨oc, of, ol⟩ := block_cells K2.O
    go_wp2_with fail
    refine Flow.wp_region_below 11 (by kernel_rfl) (by kernel_rfl) (fun R hRc hRt => ?_)
    simp only [List.take_succ_cons, List.take_zero, List.drop_succ_cons, List.drop_zero]
    iterate 11
      first
        | refine Flow.flow_skip rfl ?_
        | (apply Flow.flow_step; rfl; (intro w1 hb; have hc := hRc.out w1 hb; go_simp; (first | with_reducible exact ⟨rfl, hb⟩ | (go_at_call 136; refine (l7_8_0 _ _).mono ?_; rintro e w2 ⟨rfl, hb2⟩; exact ⟨_, rfl, rfl, hRt.out _ _ hb hb2⟩))))
      simp only [Act.put, List.setIfInBounds_toArray, List.set_cons_zero, List.set_cons_succ]
    apply Flow.flow_nil
    clear hRc hRt
    intro w1 hb
    obtain ⟨hc, hf⟩ := Flow.bcell hb
    have hz := hb.size
    (try simp only [World.size_alloc, World.size_setCell, World.size_drew] at hz)
    have K3 := K2.step hb
    have B3 : Below w.heap.size w w1 := B2.trans (hb.mono (by omega))
    have L3 := K3.lt
    clear hb hc hf oc of ol K2 B2 L2
    obtain ⟨oc, of, ol⟩ := block_cells K3.O
    have hs : (Rf.sevTo Rf.f52 8 255#32 x.d y.d 2) ||| ((((x.d >>> 16 &&& 255#32) - (y.d >>> 16 &&& 255#32)) &&& 255#32) <<< 16) = Rf.sevTo Rf.f52 8 255#32 x.d y.d 3 := rfl
    obtain ⟨u4, e4, O4, S4⟩ := store1 K3.O 3 (uv (Rf.sevTo Rf.f52 8 255#32 x.d y.d 3))
    go_wp2_with fail
    clear oc of e4 hs
    go_roundg (gk - 1)
    case measure => omega
    case rel => exact ⟨3, by omega, by first | rfl | simp, K3.store S4 O4, B3.trans (S4.below _ (by omega))⟩
  · have L0 := K.lt
    obtain ⟨xc, xf, xl⟩ := block_cells K.X
    obtain ⟨yc, yf, yl⟩ := block_cells K.Y
    go_wp2_with fail
    refine (l7_8_24 _ _).mono ?_
    rintro e u1 ⟨rfl, hb⟩
    have K1 := K.step hb
    have B1 : Below w.heap.size w u1 := B.trans (hb.mono (by omega))
    have L1 := K1.lt
    clear hb xc xf yc yf xl yl K B
    obtain ⟨yc, yf, yl⟩ := block_cells K1.Y
    go_wp2_with fail
    refine (l7_8_24 _ _).mono ?_
    rintro e u2 ⟨rfl, hb⟩
    have K2 := K1.step hb
    have B2 : Below w.heap.size w u2 := B1.trans (hb.mono (by omega))
    have L2 := K2.lt
    clear hb yc yf yl K1 B1 L1
    obtain ⟨oc, of, ol⟩ := block_cells K2.O
    go_wp2_with fail
    refine Flow.wp_region_below 11 (by kernel_rfl) (by kernel_rfl) (fun R hRc hRt => ?_)
    simp only [List.take_succ_cons, List.take_zero, List.drop_succ_cons, List.drop_zero]
    iterate 11
      first
        | refine Flow.flow_skip rfl ?_
        | (apply Flow.flow_step; rfl; (intro w1 hb; have hc := hRc.out w1 hb; go_simp; (first | with_reducible exact ⟨rfl, hb⟩ | (go_at_call 136; refine (l7_8_0 _ _).mono ?_; rintro e w2 ⟨rfl, hb2⟩; exact ⟨_, rfl, rfl, hRt.out _ _ hb hb2⟩))))
      simp only [Act.put, List.setIfInBounds_toArray, List.set_cons_zero, List.set_cons_succ]
    apply Flow.flow_nil
    clear hRc hRt
    intro w1 hb
    obtain ⟨hc, hf⟩ := Flow.bcell hb
    have hz := hb.size
    (try simp only [World.size_alloc, World.size_setCell, World.size_drew] at hz)
    have K3 := K2.step hb
    have B3 : Below w.heap.size w w1 := B2.trans (hb.mono (by omega))
    have L3 := K3.lt
    clear hb hc hf oc of ol K2 B2 L2
    obtain ⟨oc, of, ol⟩ := block_cells K3.O
    have hs : (Rf.sevTo Rf.f52 8 255#32 x.d y.d 3) ||| ((((x.d >>> 24 &&& 255#32) - (y.d >>> 24 &&& 255#32)) &&& 255#32) <<< 24) = Rf.sevTo Rf.f52 8 255#32 x.d y.d 4 := rfl
    obtain ⟨u4, e4, O4, S4⟩ := store1 K3.O 3 (uv (Rf.sevTo Rf.f52 8 255#32 x.d y.d 4))
    go_wp2_with fail
    clear oc of e4 hs
    go_roundg (gk - 1)
    case measure => omega
    case rel => exact ⟨4, by omega, by first | rfl | simp, K3.store S4 O4, B3.trans (S4.below _ (by omega))⟩
  have L := K.lt
  go_wp2_with fail
  rw [rounds_succ]
  obtain ⟨oc, of, ol⟩ := block_cells K.O
  obtain ⟨rc, rf, rl⟩ := block_cells K.R
  go_wp2_with fail
  refine Flow.bodyPost_k rfl (fun K hK => ?_)
  simp only [results, Tryz.results95]
  go_simp
  refine hK _ ⟨?_, ?_⟩
  · rfl
  · have hle : w.heap.size ≤ w.heap.size + 1 + 1 := by omega
    exact (((B.setCell hle _).setCell hle _).setCell hle _).setCell hle _
set_option maxRecDepth 100000 in
theorem lanes7_52_1 (x y : V) (w : World) : Calls Tryz.prog 95 #[iv (52 : Int), iv (1 : Int), vv x, vv y] w fun e w' => e = .returned (.tuple #[vv (Rf.sev Rf.f52 16 65535#32 2 x y), .bool true]) ∧ Below w.heap.size w w' := by
  obtain ⟨X0, Y0, R0, O0⟩ := heap_alloc4 w (vcell x) (vcell y) (vcell V.zero) (vcell V.zero)
  go_enter Tryz.func95, Tryz.ntmps95
  go_wp2_with fail
  generalize hu : World.alloc _ _ = u
  have K : L7 w.heap.size x y ⟨0#32, 0#32, 0#32, 0#32⟩ u := by rw [← hu]; exact ⟨X0, Y0, R0, O0⟩
  have B : Below w.heap.size w u := by rw [← hu]; (repeat (first | exact Below.refl _ _ | refine Below.setCell ?_ (by first | omega | (simp <;> omega)) _ | refine Below.alloc ?_ (by first | omega | (simp <;> omega)) _ | refine Below.drew ?_ | refine Below.trans ?_ (Below.mono (by assumption) (by first | omega | (simp <;> omega)))))
  clear hu X0 Y0 R0 O0
  refine wp_loop_rounds 5 ?_
  rw [rounds_succ]
  go_wp2_with fail
  go_loopg [18, 19, 20, 21] 2 (fun k p _ _ _ wr => ∃ j : Nat, j + k = 2 ∧ p = .int .i64 ((16 : Int) * (j : Int)) ∧ L7 w.heap.size x y ⟨Rf.sevTo Rf.f52 16 65535#32 x.a y.a j, 0#32, 0#32, 0#32⟩ wr ∧ Below w.heap.size w wr)
  case atStart => exact ⟨0, by omega, rfl, K, B⟩
  clear K B
  obtain ⟨j, hjk, rfl, K, B⟩ := hrel
  rcases (show j = 0 ∨ j = 1 ∨ j = 2 by omega) with rfl | rfl | rfl
  · have L0 := K.lt
    obtain ⟨xc, xf, xl⟩ := block_cells K.X
    obtain ⟨yc, yf, yl⟩ := block_cells K.Y
    go_wp2_with fail
    refine (l7_16_0 _ _).mono ?_
    rintro e u1 ⟨rfl, hb⟩
    have K1 := K.step hb
    have B1 : Below w.heap.size w u1 := B.trans (hb.mono (by omega))
    have L1 := K1.lt
    clear hb xc xf yc yf xl yl K B
    obtain ⟨yc, yf, yl⟩ := block_cells K1.Y
    go_wp2_with fail
    refine (l7_16_0 _ _).mono ?_
    rintro e u2 ⟨rfl, hb⟩
    have K2 := K1.step hb
    have B2 : Below w.heap.size w u2 := B1.trans (hb.mono (by omega))
    have L2 := K2.lt
    clear hb yc yf yl K1 B1 L1
    obtain ⟨oc, of, ol⟩ := block_cells K2.O
    go_wp2_with fail
    refine Flow.wp_region_below 11 (by kernel_rfl) (by kernel_rfl) (fun R hRc hRt => ?_)
    simp only [List.take_succ_cons, List.take_zero, List.drop_succ_cons, List.drop_zero]
    iterate 11
      first
        | refine Flow.flow_skip rfl ?_
        | (apply Flow.flow_step; rfl; (intro w1 hb; have hc := hRc.out w1 hb; go_simp; (first | with_reducible exact ⟨rfl, hb⟩ | (go_at_call 136; refine (l7_16_0 _ _).mono ?_; rintro e w2 ⟨rfl, hb2⟩; exact ⟨_, rfl, rfl, hRt.out _ _ hb hb2⟩))))
      simp only [Act.put, List.setIfInBounds_toArray, List.set_cons_zero, List.set_cons_succ]
    apply Flow.flow_nil
    clear hRc hRt
    intro w1 hb
    obtain ⟨hc, hf⟩ := Flow.bcell hb
    have hz := hb.size
    (try simp only [World.size_alloc, World.size_setCell, World.size_drew] at hz)
    have K3 := K2.step hb
    have B3 : Below w.heap.size w w1 := B2.trans (hb.mono (by omega))
    have L3 := K3.lt
    clear hb hc hf oc of ol K2 B2 L2
    obtain ⟨oc, of, ol⟩ := block_cells K3.O
    have hs : (Rf.sevTo Rf.f52 16 65535#32 x.a y.a 0) ||| (((x.a &&& 65535#32) - (y.a &&& 65535#32)) &&& 65535#32) = Rf.sevTo Rf.f52 16 65535#32 x.a y.a 1 := sev_first Rf.f52 16 65535#32 x.a y.a
    obtain ⟨u4, e4, O4, S4⟩ := store1 K3.O 0 (uv (Rf.sevTo Rf.f52 16 65535#32 x.a y.a 1))
    go_wp2_with fail
    clear oc of e4 hs
    go_roundg (gk - 1)
    case measure => omega
    case rel => exact ⟨1, by omega, by first | rfl | simp, K3.store S4 O4, B3.trans (S4.below _ (by omega))⟩
  · have L0 := K.lt
    obtain ⟨xc, xf, xl⟩ := block_cells K.X
    obtain ⟨yc, yf, yl⟩ := block_cells K.Y
    go_wp2_with fail
    refine (l7_16_16 _ _).mono ?_
    rintro e u1 ⟨rfl, hb⟩
    have K1 := K.step hb
    have B1 : Below w.heap.size w u1 := B.trans (hb.mono (by omega))
    have L1 := K1.lt
    clear hb xc xf yc yf xl yl K B
    obtain ⟨yc, yf, yl⟩ := block_cells K1.Y
    go_wp2_with fail
    refine (l7_16_16 _ _).mono ?_
    rintro e u2 ⟨rfl, hb⟩
    have K2 := K1.step hb
    have B2 : Below w.heap.size w u2 := B1.trans (hb.mono (by omega))
    have L2 := K2.lt
    clear hb yc yf yl K1 B1 L1
    obtain ⟨oc, of, ol⟩ := block_cells K2.O
    go_wp2_with fail
    refine Flow.wp_region_below 11 (by kernel_rfl) (by kernel_rfl) (fun R hRc hRt => ?_)
    simp only [List.take_succ_cons, List.take_zero, List.drop_succ_cons, List.drop_zero]
    iterate 11
      first
        | refine Flow.flow_skip rfl ?_
        | (apply Flow.flow_step; rfl; (intro w1 hb; have hc := hRc.out w1 hb; go_simp; (first | with_reducible exact ⟨rfl, hb⟩ | (go_at_call 136; refine (l7_16_0 _ _).mono ?_; rintro e w2 ⟨rfl, hb2⟩; exact ⟨_, rfl, rfl, hRt.out _ _ hb hb2⟩))))
      simp only [Act.put, List.setIfInBounds_toArray, List.set_cons_zero, List.set_cons_succ]
    apply Flow.flow_nil
    clear hRc hRt
    intro w1 hb
    obtain ⟨hc, hf⟩ := Flow.bcell hb
    have hz := hb.size
    (try simp only [World.size_alloc, World.size_setCell, World.size_drew] at hz)
    have K3 := K2.step hb
    have B3 : Below w.heap.size w w1 := B2.trans (hb.mono (by omega))
    have L3 := K3.lt
    clear hb hc hf oc of ol K2 B2 L2
    obtain ⟨oc, of, ol⟩ := block_cells K3.O
    have hs : (Rf.sevTo Rf.f52 16 65535#32 x.a y.a 1) ||| ((((x.a >>> 16 &&& 65535#32) - (y.a >>> 16 &&& 65535#32)) &&& 65535#32) <<< 16) = Rf.sevTo Rf.f52 16 65535#32 x.a y.a 2 := rfl
    obtain ⟨u4, e4, O4, S4⟩ := store1 K3.O 0 (uv (Rf.sevTo Rf.f52 16 65535#32 x.a y.a 2))
    go_wp2_with fail
    clear oc of e4 hs
    go_roundg (gk - 1)
    case measure => omega
    case rel => exact ⟨2, by omega, by first | rfl | simp, K3.store S4 O4, B3.trans (S4.below _ (by omega))⟩
  have L := K.lt
  go_wp2_with fail
  rw [rounds_succ]
  go_wp2_with fail
  go_loopg [18, 19, 20, 21] 2 (fun k p _ _ _ wr => ∃ j : Nat, j + k = 2 ∧ p = .int .i64 ((16 : Int) * (j : Int)) ∧ L7 w.heap.size x y ⟨Rf.sevTo Rf.f52 16 65535#32 x.a y.a 2, Rf.sevTo Rf.f52 16 65535#32 x.b y.b j, 0#32, 0#32⟩ wr ∧ Below w.heap.size w wr)
  case atStart => exact ⟨0, by omega, rfl, K, B⟩
  clear K B
  obtain ⟨j, hjk, rfl, K, B⟩ := hrel
  rcases (show j = 0 ∨ j = 1 ∨ j = 2 by omega) with rfl | rfl | rfl
  · have L0 := K.lt
    obtain ⟨xc, xf, xl⟩ := block_cells K.X
    obtain ⟨yc, yf, yl⟩ := block_cells K.Y
    go_wp2_with fail
    refine (l7_16_0 _ _).mono ?_
    rintro e u1 ⟨rfl, hb⟩
    have K1 := K.step hb
    have B1 : Below w.heap.size w u1 := B.trans (hb.mono (by omega))
    have L1 := K1.lt
    clear hb xc xf yc yf xl yl K B
    obtain ⟨yc, yf, yl⟩ := block_cells K1.Y
    go_wp2_with fail
    refine (l7_16_0 _ _).mono ?_
    rintro e u2 ⟨rfl, hb⟩
    have K2 := K1.step hb
    have B2 : Below w.heap.size w u2 := B1.trans (hb.mono (by omega))
    have L2 := K2.lt
    clear hb yc yf yl K1 B1 L1
    obtain ⟨oc, of, ol⟩ := block_cells K2.O
    go_wp2_with fail
    refine Flow.wp_region_below 11 (by kernel_rfl) (by kernel_rfl) (fun R hRc hRt => ?_)
    simp only [List.take_succ_cons, List.take_zero, List.drop_succ_cons, List.drop_zero]
    iterate 11
      first
        | refine Flow.flow_skip rfl ?_
        | (apply Flow.flow_step; rfl; (intro w1 hb; have hc := hRc.out w1 hb; go_simp; (first | with_reducible exact ⟨rfl, hb⟩ | (go_at_call 136; refine (l7_16_0 _ _).mono ?_; rintro e w2 ⟨rfl, hb2⟩; exact ⟨_, rfl, rfl, hRt.out _ _ hb hb2⟩))))
      simp only [Act.put, List.setIfInBounds_toArray, List.set_cons_zero, List.set_cons_succ]
    apply Flow.flow_nil
    clear hRc hRt
    intro w1 hb
    obtain ⟨hc, hf⟩ := Flow.bcell hb
    have hz := hb.size
    (try simp only [World.size_alloc, World.size_setCell, World.size_drew] at hz)
    have K3 := K2.step hb
    have B3 : Below w.heap.size w w1 := B2.trans (hb.mono (by omega))
    have L3 := K3.lt
    clear hb hc hf oc of ol K2 B2 L2
    obtain ⟨oc, of, ol⟩ := block_cells K3.O
    have hs : (Rf.sevTo Rf.f52 16 65535#32 x.b y.b 0) ||| (((x.b &&& 65535#32) - (y.b &&& 65535#32)) &&& 65535#32) = Rf.sevTo Rf.f52 16 65535#32 x.b y.b 1 := sev_first Rf.f52 16 65535#32 x.b y.b
    obtain ⟨u4, e4, O4, S4⟩ := store1 K3.O 1 (uv (Rf.sevTo Rf.f52 16 65535#32 x.b y.b 1))
    go_wp2_with fail
    clear oc of e4 hs
    go_roundg (gk - 1)
    case measure => omega
    case rel => exact ⟨1, by omega, by first | rfl | simp, K3.store S4 O4, B3.trans (S4.below _ (by omega))⟩
  · have L0 := K.lt
    obtain ⟨xc, xf, xl⟩ := block_cells K.X
    obtain ⟨yc, yf, yl⟩ := block_cells K.Y
    go_wp2_with fail
    refine (l7_16_16 _ _).mono ?_
    rintro e u1 ⟨rfl, hb⟩
    have K1 := K.step hb
    have B1 : Below w.heap.size w u1 := B.trans (hb.mono (by omega))
    have L1 := K1.lt
    clear hb xc xf yc yf xl yl K B
    obtain ⟨yc, yf, yl⟩ := block_cells K1.Y
    go_wp2_with fail
    refine (l7_16_16 _ _).mono ?_
    rintro e u2 ⟨rfl, hb⟩
    have K2 := K1.step hb
    have B2 : Below w.heap.size w u2 := B1.trans (hb.mono (by omega))
    have L2 := K2.lt
    clear hb yc yf yl K1 B1 L1
    obtain ⟨oc, of, ol⟩ := block_cells K2.O
    go_wp2_with fail
    refine Flow.wp_region_below 11 (by kernel_rfl) (by kernel_rfl) (fun R hRc hRt => ?_)
    simp only [List.take_succ_cons, List.take_zero, List.drop_succ_cons, List.drop_zero]
    iterate 11
      first
        | refine Flow.flow_skip rfl ?_
        | (apply Flow.flow_step; rfl; (intro w1 hb; have hc := hRc.out w1 hb; go_simp; (first | with_reducible exact ⟨rfl, hb⟩ | (go_at_call 136; refine (l7_16_0 _ _).mono ?_; rintro e w2 ⟨rfl, hb2⟩; exact ⟨_, rfl, rfl, hRt.out _ _ hb hb2⟩))))
      simp only [Act.put, List.setIfInBounds_toArray, List.set_cons_zero, List.set_cons_succ]
    apply Flow.flow_nil
    clear hRc hRt
    intro w1 hb
    obtain ⟨hc, hf⟩ := Flow.bcell hb
    have hz := hb.size
    (try simp only [World.size_alloc, World.size_setCell, World.size_drew] at hz)
    have K3 := K2.step hb
    have B3 : Below w.heap.size w w1 := B2.trans (hb.mono (by omega))
    have L3 := K3.lt
    clear hb hc hf oc of ol K2 B2 L2
    obtain ⟨oc, of, ol⟩ := block_cells K3.O
    have hs : (Rf.sevTo Rf.f52 16 65535#32 x.b y.b 1) ||| ((((x.b >>> 16 &&& 65535#32) - (y.b >>> 16 &&& 65535#32)) &&& 65535#32) <<< 16) = Rf.sevTo Rf.f52 16 65535#32 x.b y.b 2 := rfl
    obtain ⟨u4, e4, O4, S4⟩ := store1 K3.O 1 (uv (Rf.sevTo Rf.f52 16 65535#32 x.b y.b 2))
    go_wp2_with fail
    clear oc of e4 hs
    go_roundg (gk - 1)
    case measure => omega
    case rel => exact ⟨2, by omega, by first | rfl | simp, K3.store S4 O4, B3.trans (S4.below _ (by omega))⟩
  have L := K.lt
  go_wp2_with fail
  rw [rounds_succ]
  go_wp2_with fail
  go_loopg [18, 19, 20, 21] 2 (fun k p _ _ _ wr => ∃ j : Nat, j + k = 2 ∧ p = .int .i64 ((16 : Int) * (j : Int)) ∧ L7 w.heap.size x y ⟨Rf.sevTo Rf.f52 16 65535#32 x.a y.a 2, Rf.sevTo Rf.f52 16 65535#32 x.b y.b 2, Rf.sevTo Rf.f52 16 65535#32 x.c y.c j, 0#32⟩ wr ∧ Below w.heap.size w wr)
  case atStart => exact ⟨0, by omega, rfl, K, B⟩
  clear K B
  obtain ⟨j, hjk, rfl, K, B⟩ := hrel
  rcases (show j = 0 ∨ j = 1 ∨ j = 2 by omega) with rfl | rfl | rfl
  · have L0 := K.lt
    obtain ⟨xc, xf, xl⟩ := block_cells K.X
    obtain ⟨yc, yf, yl⟩ := block_cells K.Y
    go_wp2_with fail
    refine (l7_16_0 _ _).mono ?_
    rintro e u1 ⟨rfl, hb⟩
    have K1 := K.step hb
    have B1 : Below w.heap.size w u1 := B.trans (hb.mono (by omega))
    have L1 := K1.lt
    clear hb xc xf yc yf xl yl K B
    obtain ⟨yc, yf, yl⟩ := block_cells K1.Y
    go_wp2_with fail
    refine (l7_16_0 _ _).mono ?_
    rintro e u2 ⟨rfl, hb⟩
    have K2 := K1.step hb
    have B2 : Below w.heap.size w u2 := B1.trans (hb.mono (by omega))
    have L2 := K2.lt
    clear hb yc yf yl K1 B1 L1
    obtain ⟨oc, of, ol⟩ := block_cells K2.O
    go_wp2_with fail
    refine Flow.wp_region_below 11 (by kernel_rfl) (by kernel_rfl) (fun R hRc hRt => ?_)
    simp only [List.take_succ_cons, List.take_zero, List.drop_succ_cons, List.drop_zero]
    iterate 11
      first
        | refine Flow.flow_skip rfl ?_
        | (apply Flow.flow_step; rfl; (intro w1 hb; have hc := hRc.out w1 hb; go_simp; (first | with_reducible exact ⟨rfl, hb⟩ | (go_at_call 136; refine (l7_16_0 _ _).mono ?_; rintro e w2 ⟨rfl, hb2⟩; exact ⟨_, rfl, rfl, hRt.out _ _ hb hb2⟩))))
      simp only [Act.put, List.setIfInBounds_toArray, List.set_cons_zero, List.set_cons_succ]
    apply Flow.flow_nil
    clear hRc hRt
    intro w1 hb
    obtain ⟨hc, hf⟩ := Flow.bcell hb
    have hz := hb.size
    (try simp only [World.size_alloc, World.size_setCell, World.size_drew] at hz)
    have K3 := K2.step hb
    have B3 : Below w.heap.size w w1 := B2.trans (hb.mono (by omega))
    have L3 := K3.lt
    clear hb hc hf oc of ol K2 B2 L2
    obtain ⟨oc, of, ol⟩ := block_cells K3.O
    have hs : (Rf.sevTo Rf.f52 16 65535#32 x.c y.c 0) ||| (((x.c &&& 65535#32) - (y.c &&& 65535#32)) &&& 65535#32) = Rf.sevTo Rf.f52 16 65535#32 x.c y.c 1 := sev_first Rf.f52 16 65535#32 x.c y.c
    obtain ⟨u4, e4, O4, S4⟩ := store1 K3.O 2 (uv (Rf.sevTo Rf.f52 16 65535#32 x.c y.c 1))
    go_wp2_with fail
    clear oc of e4 hs
    go_roundg (gk - 1)
    case measure => omega
    case rel => exact ⟨1, by omega, by first | rfl | simp, K3.store S4 O4, B3.trans (S4.below _ (by omega))⟩
  · have L0 := K.lt
    obtain ⟨xc, xf, xl⟩ := block_cells K.X
    obtain ⟨yc, yf, yl⟩ := block_cells K.Y
    go_wp2_with fail
    refine (l7_16_16 _ _).mono ?_
    rintro e u1 ⟨rfl, hb⟩
    have K1 := K.step hb
    have B1 : Below w.heap.size w u1 := B.trans (hb.mono (by omega))
    have L1 := K1.lt
    clear hb xc xf yc yf xl yl K B
    obtain ⟨yc, yf, yl⟩ := block_cells K1.Y
    go_wp2_with fail
    refine (l7_16_16 _ _).mono ?_
    rintro e u2 ⟨rfl, hb⟩
    have K2 := K1.step hb
    have B2 : Below w.heap.size w u2 := B1.trans (hb.mono (by omega))
    have L2 := K2.lt
    clear hb yc yf yl K1 B1 L1
    obtain ⟨oc, of, ol⟩ := block_cells K2.O
    go_wp2_with fail
    refine Flow.wp_region_below 11 (by kernel_rfl) (by kernel_rfl) (fun R hRc hRt => ?_)
    simp only [List.take_succ_cons, List.take_zero, List.drop_succ_cons, List.drop_zero]
    iterate 11
      first
        | refine Flow.flow_skip rfl ?_
        | (apply Flow.flow_step; rfl; (intro w1 hb; have hc := hRc.out w1 hb; go_simp; (first | with_reducible exact ⟨rfl, hb⟩ | (go_at_call 136; refine (l7_16_0 _ _).mono ?_; rintro e w2 ⟨rfl, hb2⟩; exact ⟨_, rfl, rfl, hRt.out _ _ hb hb2⟩))))
      simp only [Act.put, List.setIfInBounds_toArray, List.set_cons_zero, List.set_cons_succ]
    apply Flow.flow_nil
    clear hRc hRt
    intro w1 hb
    obtain ⟨hc, hf⟩ := Flow.bcell hb
    have hz := hb.size
    (try simp only [World.size_alloc, World.size_setCell, World.size_drew] at hz)
    have K3 := K2.step hb
    have B3 : Below w.heap.size w w1 := B2.trans (hb.mono (by omega))
    have L3 := K3.lt
    clear hb hc hf oc of ol K2 B2 L2
    obtain ⟨oc, of, ol⟩ := block_cells K3.O
    have hs : (Rf.sevTo Rf.f52 16 65535#32 x.c y.c 1) ||| ((((x.c >>> 16 &&& 65535#32) - (y.c >>> 16 &&& 65535#32)) &&& 65535#32) <<< 16) = Rf.sevTo Rf.f52 16 65535#32 x.c y.c 2 := rfl
    obtain ⟨u4, e4, O4, S4⟩ := store1 K3.O 2 (uv (Rf.sevTo Rf.f52 16 65535#32 x.c y.c 2))
    go_wp2_with fail
    clear oc of e4 hs
    go_roundg (gk - 1)
    case measure => omega
    case rel => exact ⟨2, by omega, by first | rfl | simp, K3.store S4 O4, B3.trans (S4.below _ (by omega))⟩
  have L := K.lt
  go_wp2_with fail
  rw [rounds_succ]
  go_wp2_with fail
  go_loopg [18, 19, 20, 21] 2 (fun k p _ _ _ wr => ∃ j : Nat, j + k = 2 ∧ p = .int .i64 ((16 : Int) * (j : Int)) ∧ L7 w.heap.size x y ⟨Rf.sevTo Rf.f52 16 65535#32 x.a y.a 2, Rf.sevTo Rf.f52 16 65535#32 x.b y.b 2, Rf.sevTo Rf.f52 16 65535#32 x.c y.c 2, Rf.sevTo Rf.f52 16 65535#32 x.d y.d j⟩ wr ∧ Below w.heap.size w wr)
  case atStart => exact ⟨0, by omega, rfl, K, B⟩
  clear K B
  obtain ⟨j, hjk, rfl, K, B⟩ := hrel
  rcases (show j = 0 ∨ j = 1 ∨ j = 2 by omega) with rfl | rfl | rfl
  · have L0 := K.lt
    obtain ⟨xc, xf, xl⟩ := block_cells K.X
    obtain ⟨yc, yf, yl⟩ := block_cells K.Y
    go_wp2_with fail
    refine (l7_16_0 _ _).mono ?_
    rintro e u1 ⟨rfl, hb⟩
    have K1 := K.step hb
    have B1 : Below w.heap.size w u1 := B.trans (hb.mono (by omega))
    have L1 := K1.lt
    clear hb xc xf yc yf xl yl K B
    obtain ⟨yc, yf, yl⟩ := block_cells K1.Y
    go_wp2_with fail
    refine (l7_16_0 _ _).mono ?_
    rintro e u2 ⟨rfl, hb⟩
    have K2 := K1.step hb
    have B2 : Below w.heap.size w u2 := B1.trans (hb.mono (by omega))
    have L2 := K2.lt
    clear hb yc yf yl K1 B1 L1
    obtain ⟨oc, of, ol⟩ := block_cells K2.O
    go_wp2_with fail
    refine Flow.wp_region_below 11 (by kernel_rfl) (by kernel_rfl) (fun R hRc hRt => ?_)
    simp only [List.take_succ_cons, List.take_zero, List.drop_succ_cons, List.drop_zero]
    iterate 11
      first
        | refine Flow.flow_skip rfl ?_
        | (apply Flow.flow_step; rfl; (intro w1 hb; have hc := hRc.out w1 hb; go_simp; (first | with_reducible exact ⟨rfl, hb⟩ | (go_at_call 136; refine (l7_16_0 _ _).mono ?_; rintro e w2 ⟨rfl, hb2⟩; exact ⟨_, rfl, rfl, hRt.out _ _ hb hb2⟩))))
      simp only [Act.put, List.setIfInBounds_toArray, List.set_cons_zero, List.set_cons_succ]
    apply Flow.flow_nil
    clear hRc hRt
    intro w1 hb
    obtain ⟨hc, hf⟩ := Flow.bcell hb
    have hz := hb.size
    (try simp only [World.size_alloc, World.size_setCell, World.size_drew] at hz)
    have K3 := K2.step hb
    have B3 : Below w.heap.size w w1 := B2.trans (hb.mono (by omega))
    have L3 := K3.lt
    clear hb hc hf oc of ol K2 B2 L2
    obtain ⟨oc, of, ol⟩ := block_cells K3.O
    have hs : (Rf.sevTo Rf.f52 16 65535#32 x.d y.d 0) ||| (((x.d &&& 65535#32) - (y.d &&& 65535#32)) &&& 65535#32) = Rf.sevTo Rf.f52 16 65535#32 x.d y.d 1 := sev_first Rf.f52 16 65535#32 x.d y.d
    obtain ⟨u4, e4, O4, S4⟩ := store1 K3.O 3 (uv (Rf.sevTo Rf.f52 16 65535#32 x.d y.d 1))
    go_wp2_with fail
    clear oc of e4 hs
    go_roundg (gk - 1)
    case measure => omega
    case rel => exact ⟨1, by omega, by first | rfl | simp, K3.store S4 O4, B3.trans (S4.below _ (by omega))⟩
  · have L0 := K.lt
    obtain ⟨xc, xf, xl⟩ := block_cells K.X
    obtain ⟨yc, yf, yl⟩ := block_cells K.Y
    go_wp2_with fail
    refine (l7_16_16 _ _).mono ?_
    rintro e u1 ⟨rfl, hb⟩
    have K1 := K.step hb
    have B1 : Below w.heap.size w u1 := B.trans (hb.mono (by omega))
    have L1 := K1.lt
    clear hb xc xf yc yf xl yl K B
    obtain ⟨yc, yf, yl⟩ := block_cells K1.Y
    go_wp2_with fail
    refine (l7_16_16 _ _).mono ?_
    rintro e u2 ⟨rfl, hb⟩
    have K2 := K1.step hb
    have B2 : Below w.heap.size w u2 := B1.trans (hb.mono (by omega))
    have L2 := K2.lt
    clear hb yc yf yl K1 B1 L1
    obtain ⟨oc, of, ol⟩ := block_cells K2.O
    go_wp2_with fail
    refine Flow.wp_region_below 11 (by kernel_rfl) (by kernel_rfl) (fun R hRc hRt => ?_)
    simp only [List.take_succ_cons, List.take_zero, List.drop_succ_cons, List.drop_zero]
    iterate 11
      first
        | refine Flow.flow_skip rfl ?_
        | (apply Flow.flow_step; rfl; (intro w1 hb; have hc := hRc.out w1 hb; go_simp; (first | with_reducible exact ⟨rfl, hb⟩ | (go_at_call 136; refine (l7_16_0 _ _).mono ?_; rintro e w2 ⟨rfl, hb2⟩; exact ⟨_, rfl, rfl, hRt.out _ _ hb hb2⟩))))
      simp only [Act.put, List.setIfInBounds_toArray, List.set_cons_zero, List.set_cons_succ]
    apply Flow.flow_nil
    clear hRc hRt
    intro w1 hb
    obtain ⟨hc, hf⟩ := Flow.bcell hb
    have hz := hb.size
    (try simp only [World.size_alloc, World.size_setCell, World.size_drew] at hz)
    have K3 := K2.step hb
    have B3 : Below w.heap.size w w1 := B2.trans (hb.mono (by omega))
    have L3 := K3.lt
    clear hb hc hf oc of ol K2 B2 L2
    obtain ⟨oc, of, ol⟩ := block_cells K3.O
    have hs : (Rf.sevTo Rf.f52 16 65535#32 x.d y.d 1) ||| ((((x.d >>> 16 &&& 65535#32) - (y.d >>> 16 &&& 65535#32)) &&& 65535#32) <<< 16) = Rf.sevTo Rf.f52 16 65535#32 x.d y.d 2 := rfl
    obtain ⟨u4, e4, O4, S4⟩ := store1 K3.O 3 (uv (Rf.sevTo Rf.f52 16 65535#32 x.d y.d 2))
    go_wp2_with fail
    clear oc of e4 hs
    go_roundg (gk - 1)
    case measure => omega
    case rel => exact ⟨2, by omega, by first | rfl | simp, K3.store S4 O4, B3.trans (S4.below _ (by omega))⟩
  have L := K.lt
  go_wp2_with fail
  rw [rounds_succ]
  obtain ⟨oc, of, ol⟩ := block_cells K.O
  obtain ⟨rc, rf, rl⟩ := block_cells K.R
  go_wp2_with fail
  refine Flow.bodyPost_k rfl (fun K hK => ?_)
  simp only [results, Tryz.results95]
  go_simp
  refine hK _ ⟨?_, ?_⟩
  · rfl
  · have hle : w.heap.size ≤ w.heap.size + 1 + 1 := by omega
    exact (((B.setCell hle _).setCell hle _).setCell hle _).setCell hle _
set_option maxRecDepth 100000 in
theorem lanes7_52_2 (x y : V) (w : World) : Calls Tryz.prog 95 #[iv (52 : Int), iv (2 : Int), vv x, vv y] w fun e w' => e = .returned (.tuple #[vv (Rf.sev Rf.f52 32 4294967295#32 1 x y), .bool true]) ∧ Below w.heap.size w w' := by
  obtain ⟨X0, Y0, R0, O0⟩ := heap_alloc4 w (vcell x) (vcell y) (vcell V.zero) (vcell V.zero)
  go_enter Tryz.func95, Tryz.ntmps95
  go_wp2_with fail
  generalize hu : World.alloc _ _ = u
  have K : L7 w.heap.size x y ⟨0#32, 0#32, 0#32, 0#32⟩ u := by rw [← hu]; exact ⟨X0, Y0, R0, O0⟩
  have B : Below w.heap.size w u := by rw [← hu]; (repeat (first | exact Below.refl _ _ | refine Below.setCell ?_ (by first | omega | (simp <;> omega)) _ | refine Below.alloc ?_ (by first | omega | (simp <;> omega)) _ | refine Below.drew ?_ | refine Below.trans ?_ (Below.mono (by assumption) (by first | omega | (simp <;> omega)))))
  clear hu X0 Y0 R0 O0
  refine wp_loop_rounds 5 ?_
  rw [rounds_succ]
  go_wp2_with fail
  go_loopg [18, 19, 20, 21] 1 (fun k p _ _ _ wr => ∃ j : Nat, j + k = 1 ∧ p = .int .i64 ((32 : Int) * (j : Int)) ∧ L7 w.heap.size x y ⟨Rf.sevTo Rf.f52 32 4294967295#32 x.a y.a j, 0#32, 0#32, 0#32⟩ wr ∧ Below w.heap.size w wr)
  case atStart => exact ⟨0, by omega, rfl, K, B⟩
  clear K B
  obtain ⟨j, hjk, rfl, K, B⟩ := hrel
  rcases (show j = 0 ∨ j = 1 by omega) with rfl | rfl
  · have L0 := K.lt
    obtain ⟨xc, xf, xl⟩ := block_cells K.X
    obtain ⟨yc, yf, yl⟩ := block_cells K.Y
    go_wp2_with fail
    refine (l7_32_0 _ _).mono ?_
    rintro e u1 ⟨rfl, hb⟩
    have K1 := K.step hb
    have B1 : Below w.heap.size w u1 := B.trans (hb.mono (by omega))
    have L1 := K1.lt
    clear hb xc xf yc yf xl yl K B
    obtain ⟨yc, yf, yl⟩ := block_cells K1.Y
    go_wp2_with fail
    refine (l7_32_0 _ _).mono ?_
    rintro e u2 ⟨rfl, hb⟩
    have K2 := K1.step hb
    have B2 : Below w.heap.size w u2 := B1.trans (hb.mono (by omega))
    have L2 := K2.lt
    clear hb yc yf yl K1 B1 L1
    obtain ⟨oc, of, ol⟩ := block_cells K2.O
    go_wp2_with fail
    refine Flow.wp_region_below 11 (by kernel_rfl) (by kernel_rfl) (fun R hRc hRt => ?_)
    simp only [List.take_succ_cons, List.take_zero, List.drop_succ_cons, List.drop_zero]
    iterate 11
      first
        | refine Flow.flow_skip rfl ?_
        | (apply Flow.flow_step; rfl; (intro w1 hb; have hc := hRc.out w1 hb; go_simp; (first | with_reducible exact ⟨rfl, hb⟩ | (go_at_call 136; refine (l7_32_0 _ _).mono ?_; rintro e w2 ⟨rfl, hb2⟩; exact ⟨_, rfl, rfl, hRt.out _ _ hb hb2⟩))))
      simp only [Act.put, List.setIfInBounds_toArray, List.set_cons_zero, List.set_cons_succ]
    apply Flow.flow_nil
    clear hRc hRt
    intro w1 hb
    obtain ⟨hc, hf⟩ := Flow.bcell hb
    have hz := hb.size
    (try simp only [World.size_alloc, World.size_setCell, World.size_drew] at hz)
    have K3 := K2.step hb
    have B3 : Below w.heap.size w w1 := B2.trans (hb.mono (by omega))
    have L3 := K3.lt
    clear hb hc hf oc of ol K2 B2 L2
    obtain ⟨oc, of, ol⟩ := block_cells K3.O
    have hs : (Rf.sevTo Rf.f52 32 4294967295#32 x.a y.a 0) ||| (((x.a &&& 4294967295#32) - (y.a &&& 4294967295#32)) &&& 4294967295#32) = Rf.sevTo Rf.f52 32 4294967295#32 x.a y.a 1 := sev_first Rf.f52 32 4294967295#32 x.a y.a
    obtain ⟨u4, e4, O4, S4⟩ := store1 K3.O 0 (uv (Rf.sevTo Rf.f52 32 4294967295#32 x.a y.a 1))
    go_wp2_with fail
    clear oc of e4 hs
    go_roundg (gk - 1)
    case measure => omega
    case rel => exact ⟨1, by omega, by first | rfl | simp, K3.store S4 O4, B3.trans (S4.below _ (by omega))⟩
  have L := K.lt
  go_wp2_with fail
  rw [rounds_succ]
  go_wp2_with fail
  go_loopg [18, 19, 20, 21] 1 (fun k p _ _ _ wr => ∃ j : Nat, j + k = 1 ∧ p = .int .i64 ((32 : Int) * (j : Int)) ∧ L7 w.heap.size x y ⟨Rf.sevTo Rf.f52 32 4294967295#32 x.a y.a 1, Rf.sevTo Rf.f52 32 4294967295#32 x.b y.b j, 0#32, 0#32⟩ wr ∧ Below w.heap.size w wr)
  case atStart => exact ⟨0, by omega, rfl, K, B⟩
  clear K B
  obtain ⟨j, hjk, rfl, K, B⟩ := hrel
  rcases (show j = 0 ∨ j = 1 by omega) with rfl | rfl
  · have L0 := K.lt
    obtain ⟨xc, xf, xl⟩ := block_cells K.X
    obtain ⟨yc, yf, yl⟩ := block_cells K.Y
    go_wp2_with fail
    refine (l7_32_0 _ _).mono ?_
    rintro e u1 ⟨rfl, hb⟩
    have K1 := K.step hb
    have B1 : Below w.heap.size w u1 := B.trans (hb.mono (by omega))
    have L1 := K1.lt
    clear hb xc xf yc yf xl yl K B
    obtain ⟨yc, yf, yl⟩ := block_cells K1.Y
    go_wp2_with fail
    refine (l7_32_0 _ _).mono ?_
    rintro e u2 ⟨rfl, hb⟩
    have K2 := K1.step hb
    have B2 : Below w.heap.size w u2 := B1.trans (hb.mono (by omega))
    have L2 := K2.lt
    clear hb yc yf yl K1 B1 L1
    obtain ⟨oc, of, ol⟩ := block_cells K2.O
    go_wp2_with fail
    refine Flow.wp_region_below 11 (by kernel_rfl) (by kernel_rfl) (fun R hRc hRt => ?_)
    simp only [List.take_succ_cons, List.take_zero, List.drop_succ_cons, List.drop_zero]
    iterate 11
      first
        | refine Flow.flow_skip rfl ?_
        | (apply Flow.flow_step; rfl; (intro w1 hb; have hc := hRc.out w1 hb; go_simp; (first | with_reducible exact ⟨rfl, hb⟩ | (go_at_call 136; refine (l7_32_0 _ _).mono ?_; rintro e w2 ⟨rfl, hb2⟩; exact ⟨_, rfl, rfl, hRt.out _ _ hb hb2⟩))))
      simp only [Act.put, List.setIfInBounds_toArray, List.set_cons_zero, List.set_cons_succ]
    apply Flow.flow_nil
    clear hRc hRt
    intro w1 hb
    obtain ⟨hc, hf⟩ := Flow.bcell hb
    have hz := hb.size
    (try simp only [World.size_alloc, World.size_setCell, World.size_drew] at hz)
    have K3 := K2.step hb
    have B3 : Below w.heap.size w w1 := B2.trans (hb.mono (by omega))
    have L3 := K3.lt
    clear hb hc hf oc of ol K2 B2 L2
    obtain ⟨oc, of, ol⟩ := block_cells K3.O
    have hs : (Rf.sevTo Rf.f52 32 4294967295#32 x.b y.b 0) ||| (((x.b &&& 4294967295#32) - (y.b &&& 4294967295#32)) &&& 4294967295#32) = Rf.sevTo Rf.f52 32 4294967295#32 x.b y.b 1 := sev_first Rf.f52 32 4294967295#32 x.b y.b
    obtain ⟨u4, e4, O4, S4⟩ := store1 K3.O 1 (uv (Rf.sevTo Rf.f52 32 4294967295#32 x.b y.b 1))
    go_wp2_with fail
    clear oc of e4 hs
    go_roundg (gk - 1)
    case measure => omega
    case rel => exact ⟨1, by omega, by first | rfl | simp, K3.store S4 O4, B3.trans (S4.below _ (by omega))⟩
  have L := K.lt
  go_wp2_with fail
  rw [rounds_succ]
  go_wp2_with fail
  go_loopg [18, 19, 20, 21] 1 (fun k p _ _ _ wr => ∃ j : Nat, j + k = 1 ∧ p = .int .i64 ((32 : Int) * (j : Int)) ∧ L7 w.heap.size x y ⟨Rf.sevTo Rf.f52 32 4294967295#32 x.a y.a 1, Rf.sevTo Rf.f52 32 4294967295#32 x.b y.b 1, Rf.sevTo Rf.f52 32 4294967295#32 x.c y.c j, 0#32⟩ wr ∧ Below w.heap.size w wr)
  case atStart => exact ⟨0, by omega, rfl, K, B⟩
  clear K B
  obtain ⟨j, hjk, rfl, K, B⟩ := hrel
  rcases (show j = 0 ∨ j = 1 by omega) with rfl | rfl
  · have L0 := K.lt
    obtain ⟨xc, xf, xl⟩ := block_cells K.X
    obtain ⟨yc, yf, yl⟩ := block_cells K.Y
    go_wp2_with fail
    refine (l7_32_0 _ _).mono ?_
    rintro e u1 ⟨rfl, hb⟩
    have K1 := K.step hb
    have B1 : Below w.heap.size w u1 := B.trans (hb.mono (by omega))
    have L1 := K1.lt
    clear hb xc xf yc yf xl yl K B
    obtain ⟨yc, yf, yl⟩ := block_cells K1.Y
    go_wp2_with fail
    refine (l7_32_0 _ _).mono ?_
    rintro e u2 ⟨rfl, hb⟩
    have K2 := K1.step hb
    have B2 : Below w.heap.size w u2 := B1.trans (hb.mono (by omega))
    have L2 := K2.lt
    clear hb yc yf yl K1 B1 L1
    obtain ⟨oc, of, ol⟩ := block_cells K2.O
    go_wp2_with fail
    refine Flow.wp_region_below 11 (by kernel_rfl) (by kernel_rfl) (fun R hRc hRt => ?_)
    simp only [List.take_succ_cons, List.take_zero, List.drop_succ_cons, List.drop_zero]
    iterate 11
      first
        | refine Flow.flow_skip rfl ?_
        | (apply Flow.flow_step; rfl; (intro w1 hb; have hc := hRc.out w1 hb; go_simp; (first | with_reducible exact ⟨rfl, hb⟩ | (go_at_call 136; refine (l7_32_0 _ _).mono ?_; rintro e w2 ⟨rfl, hb2⟩; exact ⟨_, rfl, rfl, hRt.out _ _ hb hb2⟩))))
      simp only [Act.put, List.setIfInBounds_toArray, List.set_cons_zero, List.set_cons_succ]
    apply Flow.flow_nil
    clear hRc hRt
    intro w1 hb
    obtain ⟨hc, hf⟩ := Flow.bcell hb
    have hz := hb.size
    (try simp only [World.size_alloc, World.size_setCell, World.size_drew] at hz)
    have K3 := K2.step hb
    have B3 : Below w.heap.size w w1 := B2.trans (hb.mono (by omega))
    have L3 := K3.lt
    clear hb hc hf oc of ol K2 B2 L2
    obtain ⟨oc, of, ol⟩ := block_cells K3.O
    have hs : (Rf.sevTo Rf.f52 32 4294967295#32 x.c y.c 0) ||| (((x.c &&& 4294967295#32) - (y.c &&& 4294967295#32)) &&& 4294967295#32) = Rf.sevTo Rf.f52 32 4294967295#32 x.c y.c 1 := sev_first Rf.f52 32 4294967295#32 x.c y.c
    obtain ⟨u4, e4, O4, S4⟩ := store1 K3.O 2 (uv (Rf.sevTo Rf.f52 32 4294967295#32 x.c y.c 1))
    go_wp2_with fail
    clear oc of e4 hs
    go_roundg (gk - 1)
    case measure => omega
    case rel => exact ⟨1, by omega, by first | rfl | simp, K3.store S4 O4, B3.trans (S4.below _ (by omega))⟩
  have L := K.lt
  go_wp2_with fail
  rw [rounds_succ]
  go_wp2_with fail
  go_loopg [18, 19, 20, 21] 1 (fun k p _ _ _ wr => ∃ j : Nat, j + k = 1 ∧ p = .int .i64 ((32 : Int) * (j : Int)) ∧ L7 w.heap.size x y ⟨Rf.sevTo Rf.f52 32 4294967295#32 x.a y.a 1, Rf.sevTo Rf.f52 32 4294967295#32 x.b y.b 1, Rf.sevTo Rf.f52 32 4294967295#32 x.c y.c 1, Rf.sevTo Rf.f52 32 4294967295#32 x.d y.d j⟩ wr ∧ Below w.heap.size w wr)
  case atStart => exact ⟨0, by omega, rfl, K, B⟩
  clear K B
  obtain ⟨j, hjk, rfl, K, B⟩ := hrel
  rcases (show j = 0 ∨ j = 1 by omega) with rfl | rfl
  · have L0 := K.lt
    obtain ⟨xc, xf, xl⟩ := block_cells K.X
    obtain ⟨yc, yf, yl⟩ := block_cells K.Y
    go_wp2_with fail
    refine (l7_32_0 _ _).mono ?_
    rintro e u1 ⟨rfl, hb⟩
    have K1 := K.step hb
    have B1 : Below w.heap.size w u1 := B.trans (hb.mono (by omega))
    have L1 := K1.lt
    clear hb xc xf yc yf xl yl K B
    obtain ⟨yc, yf, yl⟩ := block_cells K1.Y
    go_wp2_with fail
    refine (l7_32_0 _ _).mono ?_
    rintro e u2 ⟨rfl, hb⟩
    have K2 := K1.step hb
    have B2 : Below w.heap.size w u2 := B1.trans (hb.mono (by omega))
    have L2 := K2.lt
    clear hb yc yf yl K1 B1 L1
    obtain ⟨oc, of, ol⟩ := block_cells K2.O
    go_wp2_with fail
    refine Flow.wp_region_below 11 (by kernel_rfl) (by kernel_rfl) (fun R hRc hRt => ?_)
    simp only [List.take_succ_cons, List.take_zero, List.drop_succ_cons, List.drop_zero]
    iterate 11
      first
        | refine Flow.flow_skip rfl ?_
        | (apply Flow.flow_step; rfl; (intro w1 hb; have hc := hRc.out w1 hb; go_simp; (first | with_reducible exact ⟨rfl, hb⟩ | (go_at_call 136; refine (l7_32_0 _ _).mono ?_; rintro e w2 ⟨rfl, hb2⟩; exact ⟨_, rfl, rfl, hRt.out _ _ hb hb2⟩))))
      simp only [Act.put, List.setIfInBounds_toArray, List.set_cons_zero, List.set_cons_succ]
    apply Flow.flow_nil
    clear hRc hRt
    intro w1 hb
    obtain ⟨hc, hf⟩ := Flow.bcell hb
    have hz := hb.size
    (try simp only [World.size_alloc, World.size_setCell, World.size_drew] at hz)
    have K3 := K2.step hb
    have B3 : Below w.heap.size w w1 := B2.trans (hb.mono (by omega))
    have L3 := K3.lt
    clear hb hc hf oc of ol K2 B2 L2
    obtain ⟨oc, of, ol⟩ := block_cells K3.O
    have hs : (Rf.sevTo Rf.f52 32 4294967295#32 x.d y.d 0) ||| (((x.d &&& 4294967295#32) - (y.d &&& 4294967295#32)) &&& 4294967295#32) = Rf.sevTo Rf.f52 32 4294967295#32 x.d y.d 1 := sev_first Rf.f52 32 4294967295#32 x.d y.d
    obtain ⟨u4, e4, O4, S4⟩ := store1 K3.O 3 (uv (Rf.sevTo Rf.f52 32 4294967295#32 x.d y.d 1))
    go_wp2_with fail
    clear oc of e4 hs
    go_roundg (gk - 1)
    case measure => omega
    case rel => exact ⟨1, by omega, by first | rfl | simp, K3.store S4 O4, B3.trans (S4.below _ (by omega))⟩
  have L := K.lt
  go_wp2_with fail
  rw [rounds_succ]
  obtain ⟨oc, of, ol⟩ := block_cells K.O
  obtain ⟨rc, rf, rl⟩ := block_cells K.R
  go_wp2_with fail
  refine Flow.bodyPost_k rfl (fun K hK => ?_)
  simp only [results, Tryz.results95]
  go_simp
  refine hK _ ⟨?_, ?_⟩
  · rfl
  · have hle : w.heap.size ≤ w.heap.size + 1 + 1 := by omega
    exact (((B.setCell hle _).setCell hle _).setCell hle _).setCell hle _
end Go.Proofs.YtboknfppecgjmaaGreat
