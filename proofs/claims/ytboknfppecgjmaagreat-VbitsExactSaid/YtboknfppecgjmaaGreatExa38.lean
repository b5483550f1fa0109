/- Part 38 of the proof's texts: SevenF. -/
import Derived.Test.YtboknfppecgjmaaGreatExa26
import Derived.Test.YtboknfppecgjmaaGreatExa33
set_option maxHeartbeats 16000000
namespace Go.Proofs.YtboknfppecgjmaaGreat
set_option linter.unusedVariables false
set_option linter.unusedSimpArgs false
open Go.RowKit Go.Shelf
theorem U_15 (z : BitVec 32) : 0 ≤ U (z &&& 15#32) ∧ U (z &&& 15#32) ≤ 15 := by
  unfold U
  rw [BitVec.toNat_and, show (15#32).toNat = 15 from rfl]
  have := @Nat.and_le_right z.toNat 15
  omega
theorem byteOf_sel (a : V) (z : BitVec 32) (w : World) : Calls Tryz.prog 96 #[vv a, iv (U (z &&& 15#32))] w fun e w' => e = .returned (.int .u8 (U ((a.get ((z &&& 15#32).toNat / 4) >>> (8 * ((z &&& 15#32).toNat % 4))) &&& 255#32))) ∧ Below w.heap.size w w' := by
  have h := U_15 z
  have e : U (z &&& 15#32) = ((z &&& 15#32).toNat : Int) := rfl
  rw [e] at h ⊢
  clear e
  generalize (z &&& 15#32).toNat = k at *
  have hn : k < 16 := by omega
  clear h
  rcases (show k = 0 ∨ k = 1 ∨ k = 2 ∨ k = 3 ∨ k = 4 ∨ k = 5 ∨ k = 6 ∨ k = 7 ∨ k = 8 ∨ k = 9 ∨ k = 10 ∨ k = 11 ∨ k = 12 ∨ k = 13 ∨ k = 14 ∨ k = 15 by omega) with rfl | rfl | rfl | rfl | rfl | rfl | rfl | rfl | rfl | rfl | rfl | rfl | rfl | rfl | rfl | rfl
  · exact byteOf_0 a w
  · exact byteOf_1 a w
  · exact byteOf_2 a w
  · exact byteOf_3 a w
  · exact byteOf_4 a w
  · exact byteOf_5 a w
  · exact byteOf_6 a w
  · exact byteOf_7 a w
  · exact byteOf_8 a w
  · exact byteOf_9 a w
  · exact byteOf_10 a w
  · exact byteOf_11 a w
  · exact byteOf_12 a w
  · exact byteOf_13 a w
  · exact byteOf_14 a w
  · exact byteOf_15 a w
theorem bits_u8_15 (z : BitVec 32) : bits .and .u8 (U (z &&& 255#32)) 15 = U (z &&& 15#32) := by
  show IntKind.u8.wrap (((BitVec.ofInt 8 (U (z &&& 255#32)) &&& BitVec.ofInt 8 15).toNat : Nat) : Int) = _
  have h1 : (BitVec.ofInt 8 (U (z &&& 255#32))).toNat = z.toNat % 256 := by
    rw [BitVec.toNat_ofInt]
    unfold U
    rw [BitVec.toNat_and, show (255#32).toNat = 2 ^ 8 - 1 from rfl, Nat.and_two_pow_sub_one_eq_mod]
    omega
  have h2 : (BitVec.ofInt 8 15).toNat = 2 ^ 4 - 1 := rfl
  rw [IntKind.wrap_u8', BitVec.toNat_and, h1, h2, Nat.and_two_pow_sub_one_eq_mod]
  unfold U
  rw [BitVec.toNat_and, show (15#32).toNat = 2 ^ 4 - 1 from rfl, Nat.and_two_pow_sub_one_eq_mod]
  omega
attribute [go_sem] bits_u8_15
theorem shufByte_z (x y : V) (i : Nat) : Vb.shufByte x y V.zero i = ((x.get (((y.get (i / 4)) >>> (8 * (i % 4)) &&& 15#32).toNat / 4)) >>> (8 * (((y.get (i / 4)) >>> (8 * (i % 4)) &&& 15#32).toNat % 4))) &&& 255#32 := by
  have hz : (V.zero.get (i / 4)) >>> (8 * (i % 4)) &&& 15 = 0#32 := by rw [get_z]; simp
  unfold Vb.shufByte
  simp only [hz, ne_eq]
  rw [if_neg (by decide)]
  rfl
def Rf.selb (x y : V) (i : Nat) : BitVec 32 := Vb.shufByte x y V.zero i
theorem sel7_0 (x y : V) (w : World) : Calls Tryz.prog 96 #[vv x, iv (U (y.a &&& 15#32))] w fun e w' => e = .returned (.int .u8 (U (Rf.selb x y 0))) ∧ Below w.heap.size w w' := by
  unfold Rf.selb
  rw [shufByte_z]
  exact byteOf_sel x y.a w
theorem sel7_1 (x y : V) (w : World) : Calls Tryz.prog 96 #[vv x, iv (U ((y.a >>> 8) &&& 15#32))] w fun e w' => e = .returned (.int .u8 (U (Rf.selb x y 1))) ∧ Below w.heap.size w w' := by
  unfold Rf.selb
  rw [shufByte_z]
  exact byteOf_sel x (y.a >>> 8) w
theorem sel7_2 (x y : V) (w : World) : Calls Tryz.prog 96 #[vv x, iv (U ((y.a >>> 16) &&& 15#32))] w fun e w' => e = .returned (.int .u8 (U (Rf.selb x y 2))) ∧ Below w.heap.size w w' := by
  unfold Rf.selb
  rw [shufByte_z]
  exact byteOf_sel x (y.a >>> 16) w
theorem sel7_3 (x y : V) (w : World) : Calls Tryz.prog 96 #[vv x, iv (U ((y.a >>> 24) &&& 15#32))] w fun e w' => e = .returned (.int .u8 (U (Rf.selb x y 3))) ∧ Below w.heap.size w w' := by
  unfold Rf.selb
  rw [shufByte_z]
  exact byteOf_sel x (y.a >>> 24) w
theorem sel7_4 (x y : V) (w : World) : Calls Tryz.prog 96 #[vv x, iv (U (y.b &&& 15#32))] w fun e w' => e = .returned (.int .u8 (U (Rf.selb x y 4))) ∧ Below w.heap.size w w' := by
  unfold Rf.selb
  rw [shufByte_z]
  exact byteOf_sel x y.b w
theorem sel7_5 (x y : V) (w : World) : Calls Tryz.prog 96 #[vv x, iv (U ((y.b >>> 8) &&& 15#32))] w fun e w' => e = .returned (.int .u8 (U (Rf.selb x y 5))) ∧ Below w.heap.size w w' := by
  unfold Rf.selb
  rw [shufByte_z]
  exact byteOf_sel x (y.b >>> 8) w
theorem sel7_6 (x y : V) (w : World) : Calls Tryz.prog 96 #[vv x, iv (U ((y.b >>> 16) &&& 15#32))] w fun e w' => e = .returned (.int .u8 (U (Rf.selb x y 6))) ∧ Below w.heap.size w w' := by
  unfold Rf.selb
  rw [shufByte_z]
  exact byteOf_sel x (y.b >>> 16) w
theorem sel7_7 (x y : V) (w : World) : Calls Tryz.prog 96 #[vv x, iv (U ((y.b >>> 24) &&& 15#32))] w fun e w' => e = .returned (.int .u8 (U (Rf.selb x y 7))) ∧ Below w.heap.size w w' := by
  unfold Rf.selb
  rw [shufByte_z]
  exact byteOf_sel x (y.b >>> 24) w
theorem sel7_8 (x y : V) (w : World) : Calls Tryz.prog 96 #[vv x, iv (U (y.c &&& 15#32))] w fun e w' => e = .returned (.int .u8 (U (Rf.selb x y 8))) ∧ Below w.heap.size w w' := by
  unfold Rf.selb
  rw [shufByte_z]
  exact byteOf_sel x y.c w
theorem sel7_9 (x y : V) (w : World) : Calls Tryz.prog 96 #[vv x, iv (U ((y.c >>> 8) &&& 15#32))] w fun e w' => e = .returned (.int .u8 (U (Rf.selb x y 9))) ∧ Below w.heap.size w w' := by
  unfold Rf.selb
  rw [shufByte_z]
  exact byteOf_sel x (y.c >>> 8) w
theorem sel7_10 (x y : V) (w : World) : Calls Tryz.prog 96 #[vv x, iv (U ((y.c >>> 16) &&& 15#32))] w fun e w' => e = .returned (.int .u8 (U (Rf.selb x y 10))) ∧ Below w.heap.size w w' := by
  unfold Rf.selb
  rw [shufByte_z]
  exact byteOf_sel x (y.c >>> 16) w
theorem sel7_11 (x y : V) (w : World) : Calls Tryz.prog 96 #[vv x, iv (U ((y.c >>> 24) &&& 15#32))] w fun e w' => e = .returned (.int .u8 (U (Rf.selb x y 11))) ∧ Below w.heap.size w w' := by
  unfold Rf.selb
  rw [shufByte_z]
  exact byteOf_sel x (y.c >>> 24) w
theorem sel7_12 (x y : V) (w : World) : Calls Tryz.prog 96 #[vv x, iv (U (y.d &&& 15#32))] w fun e w' => e = .returned (.int .u8 (U (Rf.selb x y 12))) ∧ Below w.heap.size w w' := by
  unfold Rf.selb
  rw [shufByte_z]
  exact byteOf_sel x y.d w
theorem sel7_13 (x y : V) (w : World) : Calls Tryz.prog 96 #[vv x, iv (U ((y.d >>> 8) &&& 15#32))] w fun e w' => e = .returned (.int .u8 (U (Rf.selb x y 13))) ∧ Below w.heap.size w w' := by
  unfold Rf.selb
  rw [shufByte_z]
  exact byteOf_sel x (y.d >>> 8) w
theorem sel7_14 (x y : V) (w : World) : Calls Tryz.prog 96 #[vv x, iv (U ((y.d >>> 16) &&& 15#32))] w fun e w' => e = .returned (.int .u8 (U (Rf.selb x y 14))) ∧ Below w.heap.size w w' := by
  unfold Rf.selb
  rw [shufByte_z]
  exact byteOf_sel x (y.d >>> 16) w
theorem sel7_15 (x y : V) (w : World) : Calls Tryz.prog 96 #[vv x, iv (U ((y.d >>> 24) &&& 15#32))] w fun e w' => e = .returned (.int .u8 (U (Rf.selb x y 15))) ∧ Below w.heap.size w w' := by
  unfold Rf.selb
  rw [shufByte_z]
  exact byteOf_sel x (y.d >>> 24) w
set_option maxRecDepth 100000 in
theorem lanes7_57 (x y : V) (w : World) : Calls Tryz.prog 95 #[iv (57 : Int), iv (0 : Int), vv x, vv y] w fun e w' => e = .returned (.tuple #[vv (Rf.shuf7 x y), .bool true]) ∧ Below w.heap.size w w' := by
  obtain ⟨X0, Y0, R0, O0⟩ := heap_alloc4 w (vcell x) (vcell y) (vcell V.zero) (vcell V.zero)
  go_enter Tryz.func95, Tryz.ntmps95
  go_wp2_with fail
  generalize hu : World.alloc _ _ = u0
  have K0 : L7 w.heap.size x y ⟨0#32, 0#32, 0#32, 0#32⟩ u0 := by rw [← hu]; exact ⟨X0, Y0, R0, O0⟩
  have B0 : Below w.heap.size w u0 := by rw [← hu]; (repeat (first | exact Below.refl _ _ | refine Below.setCell ?_ (by first | omega | (simp <;> omega)) _ | refine Below.alloc ?_ (by first | omega | (simp <;> omega)) _ | refine Below.drew ?_ | refine Below.trans ?_ (Below.mono (by assumption) (by first | omega | (simp <;> omega)))))
  clear hu X0 Y0 R0 O0
  refine wp_loop_rounds 17 ?_
  rw [rounds_succ]
  have L0 := K0.lt
  obtain ⟨xc, xf, xl⟩ := block_cells K0.X
  obtain ⟨yc, yf, yl⟩ := block_cells K0.Y
  go_wp2_with fail
  refine Flow.wp_region_below 8 (by kernel_rfl) (by kernel_rfl) (fun R hRc hRt => ?_)
  simp only [List.take_succ_cons, List.take_zero, List.drop_succ_cons, List.drop_zero]
  iterate 8
    first
      | refine Flow.flow_skip rfl ?_
      | (apply Flow.flow_step; rfl; (intro w1 hb; have hc := hRc.out w1 hb; go_simp; (first | with_reducible exact ⟨rfl, hb⟩ | (go_at_call 96; (with_reducible refine (byteOf_0 y _ ).mono ?_); rintro e w2 ⟨rfl, hb2⟩; exact ⟨_, rfl, rfl, hRt.out _ _ hb hb2⟩) | (go_at_call 96; (with_reducible refine (sel7_0 x y _ ).mono ?_); rintro e w2 ⟨rfl, hb2⟩; exact ⟨_, rfl, rfl, hRt.out _ _ hb hb2⟩))))
    simp only [Act.put, List.setIfInBounds_toArray, List.set_cons_zero, List.set_cons_succ]
  apply Flow.flow_nil
  clear hRc hRt
  intro w1 hb
  obtain ⟨hc, hf⟩ := Flow.bcell hb
  have hz := hb.size
  (try simp only [World.size_alloc, World.size_setCell, World.size_drew] at hz)
  have K0' := K0.step hb
  have B0' : Below w.heap.size w w1 := B0.trans (hb.mono (by omega))
  have L0' := K0'.lt
  clear hb hc hf xc xf yc yf xl yl K0 B0 L0
  obtain ⟨oc, of, ol⟩ := block_cells K0'.O
  obtain ⟨u1, e4, O4, S4⟩ := store1 K0'.O 0 (uv (Rf.selb x y 0))
  go_wp2_with fail
  clear oc of e4
  have K1 : L7 w.heap.size x y ⟨Rf.selb x y 0, 0#32, 0#32, 0#32⟩ u1 := K0'.store S4 O4
  have B1 : Below w.heap.size w u1 := B0'.trans (S4.below _ (by omega))
  clear O4 S4 K0' B0' L0' ol
  rw [rounds_succ]
  have L1 := K1.lt
  obtain ⟨xc, xf, xl⟩ := block_cells K1.X
  obtain ⟨yc, yf, yl⟩ := block_cells K1.Y
  go_wp2_with fail
  refine Flow.wp_region_below 8 (by kernel_rfl) (by kernel_rfl) (fun R hRc hRt => ?_)
  simp only [List.take_succ_cons, List.take_zero, List.drop_succ_cons, List.drop_zero]
  iterate 8
    first
      | refine Flow.flow_skip rfl ?_
      | (apply Flow.flow_step; rfl; (intro w1 hb; have hc := hRc.out w1 hb; go_simp; (first | with_reducible exact ⟨rfl, hb⟩ | (go_at_call 96; (with_reducible refine (byteOf_1 y _ ).mono ?_); rintro e w2 ⟨rfl, hb2⟩; exact ⟨_, rfl, rfl, hRt.out _ _ hb hb2⟩) | (go_at_call 96; (with_reducible refine (sel7_1 x y _ ).mono ?_); rintro e w2 ⟨rfl, hb2⟩; exact ⟨_, rfl, rfl, hRt.out _ _ hb hb2⟩))))
    simp only [Act.put, List.setIfInBounds_toArray, List.set_cons_zero, List.set_cons_succ]
  apply Flow.flow_nil
  clear hRc hRt
  intro w1 hb
  obtain ⟨hc, hf⟩ := Flow.bcell hb
  have hz := hb.size
  (try simp only [World.size_alloc, World.size_setCell, World.size_drew] at hz)
  have K1' := K1.step hb
  have B1' : Below w.heap.size w w1 := B1.trans (hb.mono (by omega))
  have L1' := K1'.lt
  clear hb hc hf xc xf yc yf xl yl K1 B1 L1
  obtain ⟨oc, of, ol⟩ := block_cells K1'.O
  obtain ⟨u2, e4, O4, S4⟩ := store1 K1'.O 0 (uv ((Rf.selb x y 0) ||| ((Rf.selb x y 1) <<< 8)))
  go_wp2_with fail
  clear oc of e4
  have K2 : L7 w.heap.size x y ⟨(Rf.selb x y 0) ||| ((Rf.selb x y 1) <<< 8), 0#32, 0#32, 0#32⟩ u2 := K1'.store S4 O4
  have B2 : Below w.heap.size w u2 := B1'.trans (S4.below _ (by omega))
  clear O4 S4 K1' B1' L1' ol
  rw [rounds_succ]
  have L2 := K2.lt
  obtain ⟨xc, xf, xl⟩ := block_cells K2.X
  obtain ⟨yc, yf, yl⟩ := block_cells K2.Y
  go_wp2_with fail
  refine Flow.wp_region_below 8 (by kernel_rfl) (by kernel_rfl) (fun R hRc hRt => ?_)
  simp only [List.take_succ_cons, List.take_zero, List.drop_succ_cons, List.drop_zero]
  iterate 8
    first
      | refine Flow.flow_skip rfl ?_
      | (apply Flow.flow_step; rfl; (intro w1 hb; have hc := hRc.out w1 hb; go_simp; (first | with_reducible exact ⟨rfl, hb⟩ | (go_at_call 96; (with_reducible refine (byteOf_2 y _ ).mono ?_); rintro e w2 ⟨rfl, hb2⟩; exact ⟨_, rfl, rfl, hRt.out _ _ hb hb2⟩) | (go_at_call 96; (with_reducible refine (sel7_2 x y _ ).mono ?_); rintro e w2 ⟨rfl, hb2⟩; exact ⟨_, rfl, rfl, hRt.out _ _ hb hb2⟩))))
    simp only [Act.put, List.setIfInBounds_toArray, List.set_cons_zero, List.set_cons_succ]
  apply Flow.flow_nil
  clear hRc hRt
  intro w1 hb
  obtain ⟨hc, hf⟩ := Flow.bcell hb
  have hz := hb.size
  (try simp only [World.size_alloc, World.size_setCell, World.size_drew] at hz)
  have K2' := K2.step hb
  have B2' : Below w.heap.size w w1 := B2.trans (hb.mono (by omega))
  have L2' := K2'.lt
  clear hb hc hf xc xf yc yf xl yl K2 B2 L2
  obtain ⟨oc, of, ol⟩ := block_cells K2'.O
  obtain ⟨u3, e4, O4, S4⟩ := store1 K2'.O 0 (uv (((Rf.selb x y 0) ||| ((Rf.selb x y 1) <<< 8)) ||| ((Rf.selb x y 2) <<< 16)))
  go_wp2_with fail
  clear oc of e4
  have K3 : L7 w.heap.size x y ⟨((Rf.selb x y 0) ||| ((Rf.selb x y 1) <<< 8)) ||| ((Rf.selb x y 2) <<< 16), 0#32, 0#32, 0#32⟩ u3 := K2'.store S4 O4
  have B3 : Below w.heap.size w u3 := B2'.trans (S4.below _ (by omega))
  clear O4 S4 K2' B2' L2' ol
  rw [rounds_succ]
  have L3 := K3.lt
  obtain ⟨xc, xf, xl⟩ := block_cells K3.X
  obtain ⟨yc, yf, yl⟩ := block_cells K3.Y
  go_wp2_with fail
  refine Flow.wp_region_below 8 (by kernel_rfl) (by kernel_rfl) (fun R hRc hRt => ?_)
  simp only [List.take_succ_cons, List.take_zero, List.drop_succ_cons, List.drop_zero]
  iterate 8
    first
      | refine Flow.flow_skip rfl ?_
      | (apply Flow.flow_step; rfl; (intro w1 hb; have hc := hRc.out w1 hb; go_simp; (first | with_reducible exact ⟨rfl, hb⟩ | (go_at_call 96; (with_reducible refine (byteOf_3 y _ ).mono ?_); rintro e w2 ⟨rfl, hb2⟩; exact ⟨_, rfl, rfl, hRt.out _ _ hb hb2⟩) | (go_at_call 96; (with_reducible refine (sel7_3 x y _ ).mono ?_); rintro e w2 ⟨rfl, hb2⟩; exact ⟨_, rfl, rfl, hRt.out _ _ hb hb2⟩))))
    simp only [Act.put, List.setIfInBounds_toArray, List.set_cons_zero, List.set_cons_succ]
  apply Flow.flow_nil
  clear hRc hRt
  intro w1 hb
  obtain ⟨hc, hf⟩ := Flow.bcell hb
  have hz := hb.size
  (try simp only [World.size_alloc, World.size_setCell, World.size_drew] at hz)
  have K3' := K3.step hb
  have B3' : Below w.heap.size w w1 := B3.trans (hb.mono (by omega))
  have L3' := K3'.lt
  clear hb hc hf xc xf yc yf xl yl K3 B3 L3
  obtain ⟨oc, of, ol⟩ := block_cells K3'.O
  obtain ⟨u4, e4, O4, S4⟩ := store1 K3'.O 0 (uv ((((Rf.selb x y 0) ||| ((Rf.selb x y 1) <<< 8)) ||| ((Rf.selb x y 2) <<< 16)) ||| ((Rf.selb x y 3) <<< 24)))
  go_wp2_with fail
  clear oc of e4
  have K4 : L7 w.heap.size x y ⟨(((Rf.selb x y 0) ||| ((Rf.selb x y 1) <<< 8)) ||| ((Rf.selb x y 2) <<< 16)) ||| ((Rf.selb x y 3) <<< 24), 0#32, 0#32, 0#32⟩ u4 := K3'.store S4 O4
  have B4 : Below w.heap.size w u4 := B3'.trans (S4.below _ (by omega))
  clear O4 S4 K3' B3' L3' ol
  rw [rounds_succ]
  have L4 := K4.lt
  obtain ⟨xc, xf, xl⟩ := block_cells K4.X
  obtain ⟨yc, yf, yl⟩ := block_cells K4.Y
  go_wp2_with fail
  refine Flow.wp_region_below 8 (by kernel_rfl) (by kernel_rfl) (fun R hRc hRt => ?_)
  simp only [List.take_succ_cons, List.take_zero, List.drop_succ_cons, List.drop_zero]
  iterate 8
    first
      | refine Flow.flow_skip rfl ?_
      | (apply Flow.flow_step; rfl; (intro w1 hb; have hc := hRc.out w1 hb; go_simp; (first | with_reducible exact ⟨rfl, hb⟩ | (go_at_call 96; (with_reducible refine (byteOf_4 y _ ).mono ?_); rintro e w2 ⟨rfl, hb2⟩; exact ⟨_, rfl, rfl, hRt.out _ _ hb hb2⟩) | (go_at_call 96; (with_reducible refine (sel7_4 x y _ ).mono ?_); rintro e w2 ⟨rfl, hb2⟩; exact ⟨_, rfl, rfl, hRt.out _ _ hb hb2⟩))))
    simp only [Act.put, List.setIfInBounds_toArray, List.set_cons_zero, List.set_cons_succ]
  apply Flow.flow_nil
  clear hRc hRt
  intro w1 hb
  obtain ⟨hc, hf⟩ := Flow.bcell hb
  have hz := hb.size
  (try simp only [World.size_alloc, World.size_setCell, World.size_drew] at hz)
  have K4' := K4.step hb
  have B4' : Below w.heap.size w w1 := B4.trans (hb.mono (by omega))
  have L4' := K4'.lt
  clear hb hc hf xc xf yc yf xl yl K4 B4 L4
  obtain ⟨oc, of, ol⟩ := block_cells K4'.O
  obtain ⟨u5, e4, O4, S4⟩ := store1 K4'.O 1 (uv (Rf.selb x y 4))
  go_wp2_with fail
  clear oc of e4
  have K5 : L7 w.heap.size x y ⟨(((Rf.selb x y 0) ||| ((Rf.selb x y 1) <<< 8)) ||| ((Rf.selb x y 2) <<< 16)) ||| ((Rf.selb x y 3) <<< 24), Rf.selb x y 4, 0#32, 0#32⟩ u5 := K4'.store S4 O4
  have B5 : Below w.heap.size w u5 := B4'.trans (S4.below _ (by omega))
  clear O4 S4 K4' B4' L4' ol
  rw [rounds_succ]
  have L5 := K5.lt
  obtain ⟨xc, xf, xl⟩ := block_cells K5.X
  obtain ⟨yc, yf, yl⟩ := block_cells K5.Y
  go_wp2_with fail
  refine Flow.wp_region_below 8 (by kernel_rfl) (by kernel_rfl) (fun R hRc hRt => ?_)
  simp only [List.take_succ_cons, List.take_zero, List.drop_succ_cons, List.drop_zero]
  iterate 8
    first
      | refine Flow.flow_skip rfl ?_
      | (apply Flow.flow_step; rfl; (intro w1 hb; have hc := hRc.out w1 hb; go_simp; (first | with_reducible exact ⟨rfl, hb⟩ | (go_at_call 96; (with_reducible refine (byteOf_5 y _ ).mono ?_); rintro e w2 ⟨rfl, hb2⟩; exact ⟨_, rfl, rfl, hRt.out _ _ hb hb2⟩) | (go_at_call 96; (with_reducible refine (sel7_5 x y _ ).mono ?_); rintro e w2 ⟨rfl, hb2⟩; exact ⟨_, rfl, rfl, hRt.out _ _ hb hb2⟩))))
    simp only [Act.put, List.setIfInBounds_toArray, List.set_cons_zero, List.set_cons_succ]
  apply Flow.flow_nil
  clear hRc hRt
  intro w1 hb
  obtain ⟨hc, hf⟩ := Flow.bcell hb
  have hz := hb.size
  (try simp only [World.size_alloc, World.size_setCell, World.size_drew] at hz)
  have K5' := K5.step hb
  have B5' : Below w.heap.size w w1 := B5.trans (hb.mono (by omega))
  have L5' := K5'.lt
  clear hb hc hf xc xf yc yf xl yl K5 B5 L5
  obtain ⟨oc, of, ol⟩ := block_cells K5'.O
  obtain ⟨u6, e4, O4, S4⟩ := store1 K5'.O 1 (uv ((Rf.selb x y 4) ||| ((Rf.selb x y 5) <<< 8)))
  go_wp2_with fail
  clear oc of e4
  have K6 : L7 w.heap.size x y ⟨(((Rf.selb x y 0) ||| ((Rf.selb x y 1) <<< 8)) ||| ((Rf.selb x y 2) <<< 16)) ||| ((Rf.selb x y 3) <<< 24), (Rf.selb x y 4) ||| ((Rf.selb x y 5) <<< 8), 0#32, 0#32⟩ u6 := K5'.store S4 O4
  have B6 : Below w.heap.size w u6 := B5'.trans (S4.below _ (by omega))
  clear O4 S4 K5' B5' L5' ol
  rw [rounds_succ]
  have L6 := K6.lt
  obtain ⟨xc, xf, xl⟩ := block_cells K6.X
  obtain ⟨yc, yf, yl⟩ := block_cells K6.Y
  go_wp2_with fail
  refine Flow.wp_region_below 8 (by kernel_rfl) (by kernel_rfl) (fun R hRc hRt => ?_)
  simp only [List.take_succ_cons, List.take_zero, List.drop_succ_cons, List.drop_zero]
  iterate 8
    first
      | refine Flow.flow_skip rfl ?_
      | (apply Flow.flow_step; rfl; (intro w1 hb; have hc := hRc.out w1 hb; go_simp; (first | with_reducible exact ⟨rfl, hb⟩ | (go_at_call 96; (with_reducible refine (byteOf_6 y _ ).mono ?_); rintro e w2 ⟨rfl, hb2⟩; exact ⟨_, rfl, rfl, hRt.out _ _ hb hb2⟩) | (go_at_call 96; (with_reducible refine (sel7_6 x y _ ).mono ?_); rintro e w2 ⟨rfl, hb2⟩; exact ⟨_, rfl, rfl, hRt.out _ _ hb hb2⟩))))
    simp only [Act.put, List.setIfInBounds_toArray, List.set_cons_zero, List.set_cons_succ]
  apply Flow.flow_nil
  clear hRc hRt
  intro w1 hb
  obtain ⟨hc, hf⟩ := Flow.bcell hb
  have hz := hb.size
  (try simp only [World.size_alloc, World.size_setCell, World.size_drew] at hz)
  have K6' := K6.step hb
  have B6' : Below w.heap.size w w1 := B6.trans (hb.mono (by omega))
  have L6' := K6'.lt
  clear hb hc hf xc xf yc yf xl yl K6 B6 L6
  obtain ⟨oc, of, ol⟩ := block_cells K6'.O
  obtain ⟨u7, e4, O4, S4⟩ := store1 K6'.O 1 (uv (((Rf.selb x y 4) ||| ((Rf.selb x y 5) <<< 8)) ||| ((Rf.selb x y 6) <<< 16)))
  go_wp2_with fail
  clear oc of e4
  have K7 : L7 w.heap.size x y ⟨(((Rf.selb x y 0) ||| ((Rf.selb x y 1) <<< 8)) ||| ((Rf.selb x y 2) <<< 16)) ||| ((Rf.selb x y 3) <<< 24), ((Rf.selb x y 4) ||| ((Rf.selb x y 5) <<< 8)) ||| ((Rf.selb x y 6) <<< 16), 0#32, 0#32⟩ u7 := K6'.store S4 O4
  have B7 : Below w.heap.size w u7 := B6'.trans (S4.below _ (by omega))
  clear O4 S4 K6' B6' L6' ol
  rw [rounds_succ]
  have L7 := K7.lt
  obtain ⟨xc, xf, xl⟩ := block_cells K7.X
  obtain ⟨yc, yf, yl⟩ := block_cells K7.Y
  go_wp2_with fail
  refine Flow.wp_region_below 8 (by kernel_rfl) (by kernel_rfl) (fun R hRc hRt => ?_)
  simp only [List.take_succ_cons, List.take_zero, List.drop_succ_cons, List.drop_zero]
  iterate 8
    first
      | refine Flow.flow_skip rfl ?_
      | (apply Flow.flow_step; rfl; (intro w1 hb; have hc := hRc.out w1 hb; go_simp; (first | with_reducible exact ⟨rfl, hb⟩ | (go_at_call 96; (with_reducible refine (byteOf_7 y _ ).mono ?_); rintro e w2 ⟨rfl, hb2⟩; exact ⟨_, rfl, rfl, hRt.out _ _ hb hb2⟩) | (go_at_call 96; (with_reducible refine (sel7_7 x y _ ).mono ?_); rintro e w2 ⟨rfl, hb2⟩; exact ⟨_, rfl, rfl, hRt.out _ _ hb hb2⟩))))
    simp only [Act.put, List.setIfInBounds_toArray, List.set_cons_zero, List.set_cons_succ]
  apply Flow.flow_nil
  clear hRc hRt
  intro w1 hb
  obtain ⟨hc, hf⟩ := Flow.bcell hb
  have hz := hb.size
  (try simp only [World.size_alloc, World.size_setCell, World.size_drew] at hz)
  have K7' := K7.step hb
  have B7' : Below w.heap.size w w1 := B7.trans (hb.mono (by omega))
  have L7' := K7'.lt
  clear hb hc hf xc xf yc yf xl yl K7 B7 L7
  obtain ⟨oc, of, ol⟩ := block_cells K7'.O
  obtain ⟨u8, e4, O4, S4⟩ := store1 K7'.O 1 (uv ((((Rf.selb x y 4) ||| ((Rf.selb x y 5) <<< 8)) ||| ((Rf.selb x y 6) <<< 16)) ||| ((Rf.selb x y 7) <<< 24)))
  go_wp2_with fail
  clear oc of e4
  have K8 : L7 w.heap.size x y ⟨(((Rf.selb x y 0) ||| ((Rf.selb x y 1) <<< 8)) ||| ((Rf.selb x y 2) <<< 16)) ||| ((Rf.selb x y 3) <<< 24), (((Rf.selb x y 4) ||| ((Rf.selb x y 5) <<< 8)) ||| ((Rf.selb x y 6) <<< 16)) ||| ((Rf.selb x y 7) <<< 24), 0#32, 0#32⟩ u8 := K7'.store S4 O4
  have B8 : Below w.heap.size w u8 := B7'.trans (S4.below _ (by omega))
  clear O4 S4 K7' B7' L7' ol
  rw [rounds_succ]
  have L8 := K8.lt
  obtain ⟨xc, xf, xl⟩ := block_cells K8.X
  obtain ⟨yc, yf, yl⟩ := block_cells K8.Y
  go_wp2_with fail
  refine Flow.wp_region_below 8 (by kernel_rfl) (by kernel_rfl) (fun R hRc hRt => ?_)
  simp only [List.take_succ_cons, List.take_zero, List.drop_succ_cons, List.drop_zero]
  iterate 8
    first
      | refine Flow.flow_skip rfl ?_
      | (apply Flow.flow_step; rfl; (intro w1 hb; have hc := hRc.out w1 hb; go_simp; (first | with_reducible exact ⟨rfl, hb⟩ | (go_at_call 96; (with_reducible refine (byteOf_8 y _ ).mono ?_); rintro e w2 ⟨rfl, hb2⟩; exact ⟨_, rfl, rfl, hRt.out _ _ hb hb2⟩) | (go_at_call 96; (with_reducible refine (sel7_8 x y _ ).mono ?_); rintro e w2 ⟨rfl, hb2⟩; exact ⟨_, rfl, rfl, hRt.out _ _ hb hb2⟩))))
    simp only [Act.put, List.setIfInBounds_toArray, List.set_cons_zero, List.set_cons_succ]
  apply Flow.flow_nil
  clear hRc hRt
  intro w1 hb
  obtain ⟨hc, hf⟩ := Flow.bcell hb
  have hz := hb.size
  (try simp only [World.size_alloc, World.size_setCell, World.size_drew] at hz)
  have K8' := K8.step hb
  have B8' : Below w.heap.size w w1 := B8.trans (hb.mono (by omega))
  have L8' := K8'.lt
  clear hb hc hf xc xf yc yf xl yl K8 B8 L8
  obtain ⟨oc, of, ol⟩ := block_cells K8'.O
  obtain ⟨u9, e4, O4, S4⟩ := store1 K8'.O 2 (uv (Rf.selb x y 8))
  go_wp2_with fail
  clear oc of e4
  have K9 : L7 w.heap.size x y ⟨(((Rf.selb x y 0) ||| ((Rf.selb x y 1) <<< 8)) ||| ((Rf.selb x y 2) <<< 16)) ||| ((Rf.selb x y 3) <<< 24), (((Rf.selb x y 4) ||| ((Rf.selb x y 5) <<< 8)) ||| ((Rf.selb x y 6) <<< 16)) ||| ((Rf.selb x y 7) <<< 24), Rf.selb x y 8, 0#32⟩ u9 := K8'.store S4 O4
  have B9 : Below w.heap.size w u9 := B8'.trans (S4.below _ (by omega))
  clear O4 S4 K8' B8' L8' ol
  rw [rounds_succ]
  have L9 := K9.lt
  obtain ⟨xc, xf, xl⟩ := block_cells K9.X
  obtain ⟨yc, yf, yl⟩ := block_cells K9.Y
  go_wp2_with fail
  refine Flow.wp_region_below 8 (by kernel_rfl) (by kernel_rfl) (fun R hRc hRt => ?_)
  simp only [List.take_succ_cons, List.take_zero, List.drop_succ_cons, List.drop_zero]
  iterate 8
    first
      | refine Flow.flow_skip rfl ?_
      | (apply Flow.flow_step; rfl; (intro w1 hb; have hc := hRc.out w1 hb; go_simp; (first | with_reducible exact ⟨rfl, hb⟩ | (go_at_call 96; (with_reducible refine (byteOf_9 y _ ).mono ?_); rintro e w2 ⟨rfl, hb2⟩; exact ⟨_, rfl, rfl, hRt.out _ _ hb hb2⟩) | (go_at_call 96; (with_reducible refine (sel7_9 x y _ ).mono ?_); rintro e w2 ⟨rfl, hb2⟩; exact ⟨_, rfl, rfl, hRt.out _ _ hb hb2⟩))))
    simp only [Act.put, List.setIfInBounds_toArray, List.set_cons_zero, List.set_cons_succ]
  apply Flow.flow_nil
  clear hRc hRt
  intro w1 hb
  obtain ⟨hc, hf⟩ := Flow.bcell hb
  have hz := hb.size
  (try simp only [World.size_alloc, World.size_setCell, World.size_drew] at hz)
  have K9' := K9.step hb
  have B9' : Below w.heap.size w w1 := B9.trans (hb.mono (by omega))
  have L9' := K9'.lt
  clear hb hc hf xc xf yc yf xl yl K9 B9 L9
  obtain ⟨oc, of, ol⟩ := block_cells K9'.O
  obtain ⟨u10, e4, O4, S4⟩ := store1 K9'.O 2 (uv ((Rf.selb x y 8) ||| ((Rf.selb x y 9) <<< 8)))
  go_wp2_with fail
  clear oc of e4
  have K10 : L7 w.heap.size x y ⟨(((Rf.selb x y 0) ||| ((Rf.selb x y 1) <<< 8)) ||| ((Rf.selb x y 2) <<< 16)) ||| ((Rf.selb x y 3) <<< 24), (((Rf.selb x y 4) ||| ((Rf.selb x y 5) <<< 8)) ||| ((Rf.selb x y 6) <<< 16)) ||| ((Rf.selb x y 7) <<< 24), (Rf.selb x y 8) ||| ((Rf.selb x y 9) <<< 8), 0#32⟩ u10 := K9'.store S4 O4
  have B10 : Below w.heap.size w u10 := B9'.trans (S4.below _ (by omega))
  clear O4 S4 K9' B9' L9' ol
  rw [rounds_succ]
  have L10 := K10.lt
  obtain ⟨xc, xf, xl⟩ := block_cells K10.X
  obtain ⟨yc, yf, yl⟩ := block_cells K10.Y
  go_wp2_with fail
  refine Flow.wp_region_below 8 (by kernel_rfl) (by kernel_rfl) (fun R hRc hRt => ?_)
  simp only [List.take_succ_cons, List.take_zero, List.drop_succ_cons, List.drop_zero]
  iterate 8
    first
      | refine Flow.flow_skip rfl ?_
      | (apply Flow.flow_step; rfl; (intro w1 hb; have hc := hRc.out w1 hb; go_simp; (first | with_reducible exact ⟨rfl, hb⟩ | (go_at_call 96; (with_reducible refine (byteOf_10 y _ ).mono ?_); rintro e w2 ⟨rfl, hb2⟩; exact ⟨_, rfl, rfl, hRt.out _ _ hb hb2⟩) | (go_at_call 96; (with_reducible refine (sel7_10 x y _ ).mono ?_); rintro e w2 ⟨rfl, hb2⟩; exact ⟨_, rfl, rfl, hRt.out _ _ hb hb2⟩))))
    simp only [Act.put, List.setIfInBounds_toArray, List.set_cons_zero, List.set_cons_succ]
  apply Flow.flow_nil
  clear hRc hRt
  intro w1 hb
  obtain ⟨hc, hf⟩ := Flow.bcell hb
  have hz := hb.size
  (try simp only [World.size_alloc, World.size_setCell, World.size_drew] at hz)
  have K10' := K10.step hb
  have B10' : Below w.heap.size w w1 := B10.trans (hb.mono (by omega))
  have L10' := K10'.lt
  clear hb hc hf xc xf yc yf xl yl K10 B10 L10
  obtain ⟨oc, of, ol⟩ := block_cells K10'.O
  obtain ⟨u11, e4, O4, S4⟩ := store1 K10'.O 2 (uv (((Rf.selb x y 8) ||| ((Rf.selb x y 9) <<< 8)) ||| ((Rf.selb x y 10) <<< 16)))
  go_wp2_with fail
  clear oc of e4
  have K11 : L7 w.heap.size x y ⟨(((Rf.selb x y 0) ||| ((Rf.selb x y 1) <<< 8)) ||| ((Rf.selb x y 2) <<< 16)) ||| ((Rf.selb x y 3) <<< 24), (((Rf.selb x y 4) ||| ((Rf.selb x y 5) <<< 8)) ||| ((Rf.selb x y 6) <<< 16)) ||| ((Rf.selb x y 7) <<< 24), ((Rf.selb x y 8) ||| ((Rf.selb x y 9) <<< 8)) ||| ((Rf.selb x y 10) <<< 16), 0#32⟩ u11 := K10'.store S4 O4
  have B11 : Below w.heap.size w u11 := B10'.trans (S4.below _ (by omega))
  clear O4 S4 K10' B10' L10' ol
  rw [rounds_succ]
  have L11 := K11.lt
  obtain ⟨xc, xf, xl⟩ := block_cells K11.X
  obtain ⟨yc, yf, yl⟩ := block_cells K11.Y
  go_wp2_with fail
  refine Flow.wp_region_below 8 (by kernel_rfl) (by kernel_rfl) (fun R hRc hRt => ?_)
  simp only [List.take_succ_cons, List.take_zero, List.drop_succ_cons, List.drop_zero]
  iterate 8
    first
      | refine Flow.flow_skip rfl ?_
      | (apply Flow.flow_step; rfl; (intro w1 hb; have hc := hRc.out w1 hb; go_simp; (first | with_reducible exact ⟨rfl, hb⟩ | (go_at_call 96; (with_reducible refine (byteOf_11 y _ ).mono ?_); rintro e w2 ⟨rfl, hb2⟩; exact ⟨_, rfl, rfl, hRt.out _ _ hb hb2⟩) | (go_at_call 96; (with_reducible refine (sel7_11 x y _ ).mono ?_); rintro e w2 ⟨rfl, hb2⟩; exact ⟨_, rfl, rfl, hRt.out _ _ hb hb2⟩))))
    simp only [Act.put, List.setIfInBounds_toArray, List.set_cons_zero, List.set_cons_succ]
  apply Flow.flow_nil
  clear hRc hRt
  intro w1 hb
  obtain ⟨hc, hf⟩ := Flow.bcell hb
  have hz := hb.size
  (try simp only [World.size_alloc, World.size_setCell, World.size_drew] at hz)
  have K11' := K11.step hb
  have B11' : Below w.heap.size w w1 := B11.trans (hb.mono (by omega))
  have L11' := K11'.lt
  clear hb hc hf xc xf yc yf xl yl K11 B11 L11
  obtain ⟨oc, of, ol⟩ := block_cells K11'.O
  obtain ⟨u12, e4, O4, S4⟩ := store1 K11'.O 2 (uv ((((Rf.selb x y 8) ||| ((Rf.selb x y 9) <<< 8)) ||| ((Rf.selb x y 10) <<< 16)) ||| ((Rf.selb x y 11) <<< 24)))
  go_wp2_with fail
  clear oc of e4
  have K12 : L7 w.heap.size x y ⟨(((Rf.selb x y 0) ||| ((Rf.selb x y 1) <<< 8)) ||| ((Rf.selb x y 2) <<< 16)) ||| ((Rf.selb x y 3) <<< 24), (((Rf.selb x y 4) ||| ((Rf.selb x y 5) <<< 8)) ||| ((Rf.selb x y 6) <<< 16)) ||| ((Rf.selb x y 7) <<< 24), (((Rf.selb x y 8) ||| ((Rf.selb x y 9) <<< 8)) ||| ((Rf.selb x y 10) <<< 16)) ||| ((Rf.selb x y 11) <<< 24), 0#32⟩ u12 := K11'.store S4 O4
  have B12 : Below w.heap.size w u12 := B11'.trans (S4.below _ (by omega))
  clear O4 S4 K11' B11' L11' ol
  rw [rounds_succ]
  have L12 := K12.lt
  obtain ⟨xc, xf, xl⟩ := block_cells K12.X
  obtain ⟨yc, yf, yl⟩ := block_cells K12.Y
  go_wp2_with fail
  refine Flow.wp_region_below 8 (by kernel_rfl) (by kernel_rfl) (fun R hRc hRt => ?_)
  simp only [List.take_succ_cons, List.take_zero, List.drop_succ_cons, List.drop_zero]
  iterate 8
    first
      | refine Flow.flow_skip rfl ?_
      | (apply Flow.flow_step; rfl; (intro w1 hb; have hc := hRc.out w1 hb; go_simp; (first | with_reducible exact ⟨rfl, hb⟩ | (go_at_call 96; (with_reducible refine (byteOf_12 y _ ).mono ?_); rintro e w2 ⟨rfl, hb2⟩; exact ⟨_, rfl, rfl, hRt.out _ _ hb hb2⟩) | (go_at_call 96; (with_reducible refine (sel7_12 x y _ ).mono ?_); rintro e w2 ⟨rfl, hb2⟩; exact ⟨_, rfl, rfl, hRt.out _ _ hb hb2⟩))))
    simp only [Act.put, List.setIfInBounds_toArray, List.set_cons_zero, List.set_cons_succ]
  apply Flow.flow_nil
  clear hRc hRt
  intro w1 hb
  obtain ⟨hc, hf⟩ := Flow.bcell hb
  have hz := hb.size
  (try simp only [World.size_alloc, World.size_setCell, World.size_drew] at hz)
  have K12' := K12.step hb
  have B12' : Below w.heap.size w w1 := B12.trans (hb.mono (by omega))
  have L12' := K12'.lt
  clear hb hc hf xc xf yc yf xl yl K12 B12 L12
  obtain ⟨oc, of, ol⟩ := block_cells K12'.O
  obtain ⟨u13, e4, O4, S4⟩ := store1 K12'.O 3 (uv (Rf.selb x y 12))
  go_wp2_with fail
  clear oc of e4
  have K13 : L7 w.heap.size x y ⟨(((Rf.selb x y 0) ||| ((Rf.selb x y 1) <<< 8)) ||| ((Rf.selb x y 2) <<< 16)) ||| ((Rf.selb x y 3) <<< 24), (((Rf.selb x y 4) ||| ((Rf.selb x y 5) <<< 8)) ||| ((Rf.selb x y 6) <<< 16)) ||| ((Rf.selb x y 7) <<< 24), (((Rf.selb x y 8) ||| ((Rf.selb x y 9) <<< 8)) ||| ((Rf.selb x y 10) <<< 16)) ||| ((Rf.selb x y 11) <<< 24), Rf.selb x y 12⟩ u13 := K12'.store S4 O4
  have B13 : Below w.heap.size w u13 := B12'.trans (S4.below _ (by omega))
  clear O4 S4 K12' B12' L12' ol
  rw [rounds_succ]
  have L13 := K13.lt
  obtain ⟨xc, xf, xl⟩ := block_cells K13.X
  obtain ⟨yc, yf, yl⟩ := block_cells K13.Y
  go_wp2_with fail
  refine Flow.wp_region_below 8 (by kernel_rfl) (by kernel_rfl) (fun R hRc hRt => ?_)
  simp only [List.take_succ_cons, List.take_zero, List.drop_succ_cons, List.drop_zero]
  iterate 8
    first
      | refine Flow.flow_skip rfl ?_
      | (apply Flow.flow_step; rfl; (intro w1 hb; have hc := hRc.out w1 hb; go_simp; (first | with_reducible exact ⟨rfl, hb⟩ | (go_at_call 96; (with_reducible refine (byteOf_13 y _ ).mono ?_); rintro e w2 ⟨rfl, hb2⟩; exact ⟨_, rfl, rfl, hRt.out _ _ hb hb2⟩) | (go_at_call 96; (with_reducible refine (sel7_13 x y _ ).mono ?_); rintro e w2 ⟨rfl, hb2⟩; exact ⟨_, rfl, rfl, hRt.out _ _ hb hb2⟩))))
    simp only [Act.put, List.setIfInBounds_toArray, List.set_cons_zero, List.set_cons_succ]
  apply Flow.flow_nil
  clear hRc hRt
  intro w1 hb
  obtain ⟨hc, hf⟩ := Flow.bcell hb
  have hz := hb.size
  (try simp only [World.size_alloc, World.size_setCell, World.size_drew] at hz)
  have K13' := K13.step hb
  have B13' : Below w.heap.size w w1 := B13.trans (hb.mono (by omega))
  have L13' := K13'.lt
  clear hb hc hf xc xf yc yf xl yl K13 B13 L13
  obtain ⟨oc, of, ol⟩ := block_cells K13'.O
  obtain ⟨u14, e4, O4, S4⟩ := store1 K13'.O 3 (uv ((Rf.selb x y 12) ||| ((Rf.selb x y 13) <<< 8)))
  go_wp2_with fail
  clear oc of e4
  have K14 : L7 w.heap.size x y ⟨(((Rf.selb x y 0) ||| ((Rf.selb x y 1) <<< 8)) ||| ((Rf.selb x y 2) <<< 16)) ||| ((Rf.selb x y 3) <<< 24), (((Rf.selb x y 4) ||| ((Rf.selb x y 5) <<< 8)) ||| ((Rf.selb x y 6) <<< 16)) ||| ((Rf.selb x y 7) <<< 24), (((Rf.selb x y 8) ||| ((Rf.selb x y 9) <<< 8)) ||| ((Rf.selb x y 10) <<< 16)) ||| ((Rf.selb x y 11) <<< 24), (Rf.selb x y 12) ||| ((Rf.selb x y 13) <<< 8)⟩ u14 := K13'.store S4 O4
  have B14 : Below w.heap.size w u14 := B13'.trans (S4.below _ (by omega))
  clear O4 S4 K13' B13' L13' ol
  rw [rounds_succ]
  have L14 := K14.lt
  obtain ⟨xc, xf, xl⟩ := block_cells K14.X
  obtain ⟨yc, yf, yl⟩ := block_cells K14.Y
  go_wp2_with fail
  refine Flow.wp_region_below 8 (by kernel_rfl) (by kernel_rfl) (fun R hRc hRt => ?_)
  simp only [List.take_succ_cons, List.take_zero, List.drop_succ_cons, List.drop_zero]
  iterate 8
    first
      | refine Flow.flow_skip rfl ?_
      | (apply Flow.flow_step; rfl; (intro w1 hb; have hc := hRc.out w1 hb; go_simp; (first | with_reducible exact ⟨rfl, hb⟩ | (go_at_call 96; (with_reducible refine (byteOf_14 y _ ).mono ?_); rintro e w2 ⟨rfl, hb2⟩; exact ⟨_, rfl, rfl, hRt.out _ _ hb hb2⟩) | (go_at_call 96; (with_reducible refine (sel7_14 x y _ ).mono ?_); rintro e w2 ⟨rfl, hb2⟩; exact ⟨_, rfl, rfl, hRt.out _ _ hb hb2⟩))))
    simp only [Act.put, List.setIfInBounds_toArray, List.set_cons_zero, List.set_cons_succ]
  apply Flow.flow_nil
  clear hRc hRt
  intro w1 hb
  obtain ⟨hc, hf⟩ := Flow.bcell hb
  have hz := hb.size
  (try simp only [World.size_alloc, World.size_setCell, World.size_drew] at hz)
  have K14' := K14.step hb
  have B14' : Below w.heap.size w w1 := B14.trans (hb.mono (by omega))
  have L14' := K14'.lt
  clear hb hc hf xc xf yc yf xl yl K14 B14 L14
  obtain ⟨oc, of, ol⟩ := block_cells K14'.O
  obtain ⟨u15, e4, O4, S4⟩ := store1 K14'.O 3 (uv (((Rf.selb x y 12) ||| ((Rf.selb x y 13) <<< 8)) ||| ((Rf.selb x y 14) <<< 16)))
  go_wp2_with fail
  clear oc of e4
  have K15 : L7 w.heap.size x y ⟨(((Rf.selb x y 0) ||| ((Rf.selb x y 1) <<< 8)) ||| ((Rf.selb x y 2) <<< 16)) ||| ((Rf.selb x y 3) <<< 24), (((Rf.selb x y 4) ||| ((Rf.selb x y 5) <<< 8)) ||| ((Rf.selb x y 6) <<< 16)) ||| ((Rf.selb x y 7) <<< 24), (((Rf.selb x y 8) ||| ((Rf.selb x y 9) <<< 8)) ||| ((Rf.selb x y 10) <<< 16)) ||| ((Rf.selb x y 11) <<< 24), ((Rf.selb x y 12) ||| ((Rf.selb x y 13) <<< 8)) ||| ((Rf.selb x y 14) <<< 16)⟩ u15 := K14'.store S4 O4
  have B15 : Below w.heap.size w u15 := B14'.trans (S4.below _ (by omega))
  clear O4 S4 K14' B14' L14' ol
  rw [rounds_succ]
  have L15 := K15.lt
  obtain ⟨xc, xf, xl⟩ := block_cells K15.X
  obtain ⟨yc, yf, yl⟩ := block_cells K15.Y
  go_wp2_with fail
  refine Flow.wp_region_below 8 (by kernel_rfl) (by kernel_rfl) (fun R hRc hRt => ?_)
  simp only [List.take_succ_cons, List.take_zero, List.drop_succ_cons, List.drop_zero]
  iterate 8
    first
      | refine Flow.flow_skip rfl ?_
      | (apply Flow.flow_step; rfl; (intro w1 hb; have hc := hRc.out w1 hb; go_simp; (first | with_reducible exact ⟨rfl, hb⟩ | (go_at_call 96; (with_reducible refine (byteOf_15 y _ ).mono ?_); rintro e w2 ⟨rfl, hb2⟩; exact ⟨_, rfl, rfl, hRt.out _ _ hb hb2⟩) | (go_at_call 96; (with_reducible refine (sel7_15 x y _ ).mono ?_); rintro e w2 ⟨rfl, hb2⟩; exact ⟨_, rfl, rfl, hRt.out _ _ hb hb2⟩))))
    simp only [Act.put, List.setIfInBounds_toArray, List.set_cons_zero, List.set_cons_succ]
  apply Flow.flow_nil
  clear hRc hRt
  intro w1 hb
  obtain ⟨hc, hf⟩ := Flow.bcell hb
  have hz := hb.size
  (try simp only [World.size_alloc, World.size_setCell, World.size_drew] at hz)
  have K15' := K15.step hb
  have B15' : Below w.heap.size w w1 := B15.trans (hb.mono (by omega))
  have L15' := K15'.lt
  clear hb hc hf xc xf yc yf xl yl K15 B15 L15
  obtain ⟨oc, of, ol⟩ := block_cells K15'.O
  obtain ⟨u16, e4, O4, S4⟩ := store1 K15'.O 3 (uv ((((Rf.selb x y 12) ||| ((Rf.selb x y 13) <<< 8)) ||| ((Rf.selb x y 14) <<< 16)) ||| ((Rf.selb x y 15) <<< 24)))
  go_wp2_with fail
  clear oc of e4
  have K16 : L7 w.heap.size x y ⟨(((Rf.selb x y 0) ||| ((Rf.selb x y 1) <<< 8)) ||| ((Rf.selb x y 2) <<< 16)) ||| ((Rf.selb x y 3) <<< 24), (((Rf.selb x y 4) ||| ((Rf.selb x y 5) <<< 8)) ||| ((Rf.selb x y 6) <<< 16)) ||| ((Rf.selb x y 7) <<< 24), (((Rf.selb x y 8) ||| ((Rf.selb x y 9) <<< 8)) ||| ((Rf.selb x y 10) <<< 16)) ||| ((Rf.selb x y 11) <<< 24), (((Rf.selb x y 12) ||| ((Rf.selb x y 13) <<< 8)) ||| ((Rf.selb x y 14) <<< 16)) ||| ((Rf.selb x y 15) <<< 24)⟩ u16 := K15'.store S4 O4
  have B16 : Below w.heap.size w u16 := B15'.trans (S4.below _ (by omega))
  clear O4 S4 K15' B15' L15' ol
  rw [rounds_succ]
  obtain ⟨oc, of, ol⟩ := block_cells K16.O
  obtain ⟨rc, rf, rl⟩ := block_cells K16.R
  go_wp2_with fail
  refine Flow.bodyPost_k rfl (fun K hK => ?_)
  simp only [results, Tryz.results95]
  go_simp
  refine hK _ ⟨?_, ?_⟩
  · rfl
  · have hle : w.heap.size ≤ w.heap.size + 1 + 1 := by omega
    exact (((B16.setCell hle _).setCell hle _).setCell hle _).setCell hle _
end Go.Proofs.YtboknfppecgjmaaGreat
