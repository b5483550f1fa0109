/- Part 36 of the proof's texts: R12BinB. -/
import Derived.Test.YtboknfppecgjmaaGreatExa26
import Derived.Test.YtboknfppecgjmaaGreatExa34
set_option maxHeartbeats 16000000
namespace Go.Proofs.YtboknfppecgjmaaGreat
set_option linter.unusedVariables false
set_option linter.unusedSimpArgs false
open Go.RowKit Go.Shelf
set_option maxRecDepth 100000 in
theorem bin12_alu (op cpu : Int) (ty off : Int) (x y z v : V) (HU : Hid (IsBinC op ty off true)) (HC : Hid (ClipB ty x z)) (HD : Hid (ClipB (Rf.secTy op ty) y v)) (HN : Hid (∀ w, Calls Tryz.prog 55 #[iv op] w fun e w' => e = .returned (iv cpu) ∧ Below w.heap.size w w')) (n1 : (cpu == 0) = false) (n2 : (cpu != 0) = true) (r : BitVec 32) (f : Int) (ok : Bool) (HA : Hid (AluC cpu z.a v.a 0 r f ok)) (w : World) : Calls Tryz.prog 22 #[iv (op : Int), iv ty, iv off, vv x, vv y] w fun e w' => e = .returned (.tuple #[vv (V.word r), .bool true]) ∧ Below w.heap.size w w' := by
  obtain ⟨X0, Y0, R0⟩ := heap_alloc3 w (vcell x) (vcell y) (vcell V.zero)
  go_enter Tryz.func22, Tryz.ntmps22
  go_wp2_with fail
  (refine (HU.out _ ).mono ?_; rintro e u1 ⟨rfl, hb⟩; obtain ⟨hc, hf⟩ := Flow.bcell hb; have hz := hb.size; (try simp only [World.size_alloc, World.size_setCell, World.size_drew] at hz); obtain ⟨z0, z1, z2⟩ := Flow.zs3 (show w.heap.size + 3 ≤ u1.heap.size by omega))
  have K1 : L3 w.heap.size x y V.zero u1 := ⟨(hb.block _ (by simp <;> omega)).trans X0, (hb.block _ (by simp <;> omega)).trans Y0, (hb.block _ (by simp)).trans R0⟩
  have B1 : Below w.heap.size w u1 := by (repeat (first | exact Below.refl _ _ | refine Below.setCell ?_ (by first | omega | (simp <;> omega)) _ | refine Below.alloc ?_ (by first | omega | (simp <;> omega)) _ | refine Below.drew ?_ | refine Below.trans ?_ (Below.mono (by assumption) (by first | omega | (simp <;> omega)))))
  have y1 := K1.lt
  clear X0 Y0 R0 hb
  obtain ⟨xc, xf, xl⟩ := block_cells K1.X
  obtain ⟨yc, yf, yl⟩ := block_cells K1.Y
  obtain ⟨rc, rf, rl⟩ := block_cells K1.R
  go_wp2_with fail
  clear hc hf
  (refine (HC.out _ ).mono ?_; rintro e u2 ⟨rfl, hb⟩; obtain ⟨hc, hf⟩ := Flow.bcell hb; have hz := hb.size; (try simp only [World.size_alloc, World.size_setCell, World.size_drew] at hz); obtain ⟨z0, z1, z2⟩ := Flow.zs3 (show w.heap.size + 3 ≤ u2.heap.size by omega))
  have K2 := K1.step hb
  have B2 : Below w.heap.size w u2 := B1.trans (hb.mono (by have := K1.lt; omega))
  have y2 := K2.lt
  clear hb hc hf
  clear xc xf xl yc yf yl rc rf rl
  obtain ⟨xc, xf, xl⟩ := block_cells K2.X
  obtain ⟨yc, yf, yl⟩ := block_cells K2.Y
  obtain ⟨rc, rf, rl⟩ := block_cells K2.R
  obtain ⟨u3, e3, X3, S3⟩ := store4 K2.X 0 1 2 3 (uv z.a) (uv z.b) (uv z.c) (uv z.d)
  have K3 : L3 w.heap.size z y V.zero u3 := K2.storeX S3 X3
  have B3 : Below w.heap.size w u3 := B2.trans (S3.below _ (Nat.le_refl _))
  have y3 := K3.lt
  clear X3 S3
  go_wp2_with fail
  (try rw [e3])
  clear e3
  clear xc xf xl yc yf yl rc rf rl
  obtain ⟨xc, xf, xl⟩ := block_cells K3.X
  obtain ⟨yc, yf, yl⟩ := block_cells K3.Y
  obtain ⟨rc, rf, rl⟩ := block_cells K3.R
  refine Flow.wp_region_below 5 (by kernel_rfl) (by kernel_rfl) (fun R hRc hRt => ?_)
  simp only [List.take_succ_cons, List.take_zero, List.drop_succ_cons, List.drop_zero]
  iterate 5
    first
      | (apply Flow.flow_step; rfl; (intro w1 hb; have hc := hRc.out w1 hb; go_simp; (first | with_reducible exact ⟨rfl, hb⟩ | (go_at_call 54; refine (second12_c _ _ _).mono ?_; rintro e w2 ⟨rfl, hb2⟩; exact ⟨_, rfl, rfl, hRt.out _ _ hb hb2⟩) | (go_at_call 44; refine (HD.out _).mono ?_; rintro e w2 ⟨rfl, hb2⟩; exact ⟨_, rfl, rfl, hRt.out _ _ hb hb2⟩))))
    simp only [Act.put, List.setIfInBounds_toArray, List.set_cons_zero, List.set_cons_succ]
  apply Flow.flow_nil
  clear hRc hRt
  intro u4 hb
  have K4 := K3.step hb
  have B4 : Below w.heap.size w u4 := B3.trans (hb.mono (by have := K3.lt; omega))
  have y4 := K4.lt
  clear hb
  clear xc xf xl yc yf yl rc rf rl
  obtain ⟨xc, xf, xl⟩ := block_cells K4.X
  obtain ⟨yc, yf, yl⟩ := block_cells K4.Y
  obtain ⟨rc, rf, rl⟩ := block_cells K4.R
  obtain ⟨u5, e5, Y5, S5⟩ := store4 K4.Y 0 1 2 3 (uv v.a) (uv v.b) (uv v.c) (uv v.d)
  have K5 : L3 w.heap.size z v V.zero u5 := K4.storeY S5 Y5
  have B5 : Below w.heap.size w u5 := B4.trans (S5.below _ (Nat.le_succ _))
  have y5 := K5.lt
  clear Y5 S5
  go_wp2_with fail
  clear e5
  (refine (HN.out _ ).mono ?_; rintro e u6 ⟨rfl, hb⟩; obtain ⟨hc, hf⟩ := Flow.bcell hb; have hz := hb.size; (try simp only [World.size_alloc, World.size_setCell, World.size_drew] at hz); obtain ⟨z0, z1, z2⟩ := Flow.zs3 (show w.heap.size + 3 ≤ u6.heap.size by omega))
  have K6 := K5.step hb
  have B6 : Below w.heap.size w u6 := B5.trans (hb.mono (by have := K5.lt; omega))
  have y6 := K6.lt
  clear hb hc hf
  clear xc xf xl yc yf yl rc rf rl
  obtain ⟨xc, xf, xl⟩ := block_cells K6.X
  obtain ⟨yc, yf, yl⟩ := block_cells K6.Y
  obtain ⟨rc, rf, rl⟩ := block_cells K6.R
  go_wp2_with fail
  refine Flow.wp_region_below 13 (by kernel_rfl) (by kernel_rfl) (fun R hRc hRt => ?_)
  simp only [List.take_succ_cons, List.take_zero, List.drop_succ_cons, List.drop_zero]
  iterate 13
    first
      | refine Flow.flow_skip rfl ?_
      | (apply Flow.flow_step; rfl; (intro w1 hb; have hc := hRc.out w1 hb; go_simp; (first | with_reducible exact ⟨rfl, hb⟩ | (go_at_call 55; refine (HN.out _ ).mono ?_; rintro e w2 ⟨rfl, hb2⟩; exact ⟨_, rfl, rfl, hRt.out _ _ hb hb2⟩) | (go_at_call 56; refine (HA.out _ ).mono ?_; rintro e w2 ⟨rfl, hb2⟩; exact ⟨_, rfl, rfl, hRt.out _ _ hb hb2⟩))))
    simp only [Act.put, List.setIfInBounds_toArray, List.set_cons_zero, List.set_cons_succ]
  apply Flow.flow_nil
  clear hRc hRt
  intro w1 hb
  obtain ⟨hc, hf⟩ := Flow.bcell hb
  have hz := hb.size
  (try simp only [World.size_alloc, World.size_setCell, World.size_drew] at hz)
  obtain ⟨z0, z1, z2⟩ := Flow.zs3 (show w.heap.size + 3 ≤ w1.heap.size by omega)
  have K8 := K6.step hb
  have B8 : Below w.heap.size w w1 := B6.trans (hb.mono (by have := K6.lt; omega))
  have y8 := K8.lt
  clear hb hc hf
  clear xc xf xl yc yf yl rc rf rl
  obtain ⟨xc, xf, xl⟩ := block_cells K8.X
  obtain ⟨yc, yf, yl⟩ := block_cells K8.Y
  obtain ⟨rc, rf, rl⟩ := block_cells K8.R
  go_wp2_with fail
  (refine (wordv_c r _ ).mono ?_; rintro e u9 ⟨rfl, hb⟩; obtain ⟨hc, hf⟩ := Flow.bcell hb; have hz := hb.size; (try simp only [World.size_alloc, World.size_setCell, World.size_drew] at hz); obtain ⟨z0, z1, z2⟩ := Flow.zs3 (show w.heap.size + 3 ≤ u9.heap.size by omega))
  have K9 := K8.step hb
  have B9 : Below w.heap.size w u9 := B8.trans (hb.mono (by have := K8.lt; omega))
  have y9 := K9.lt
  clear hb hc hf
  clear xc xf xl yc yf yl rc rf rl
  obtain ⟨xc, xf, xl⟩ := block_cells K9.X
  obtain ⟨yc, yf, yl⟩ := block_cells K9.Y
  obtain ⟨rc, rf, rl⟩ := block_cells K9.R
  go_wp2_with fail
  refine Flow.bodyPost_k rfl (fun K hK => ?_)
  simp only [results, Tryz.results22]
  go_simp
  refine hK _ ⟨?_, ?_⟩
  · rfl
  · have hle : w.heap.size ≤ w.heap.size + 1 + 1 := by omega
    exact (((B9.setCell hle _).setCell hle _).setCell hle _).setCell hle _
set_option maxRecDepth 100000 in
theorem bin12_8 (ty off : Int) (x y z v : V) (HU : Hid (IsBinC 8 ty off true)) (HC : Hid (ClipB ty x z)) (HD : Hid (ClipB (Rf.secTy 8 ty) y v)) (r : V) (HL : Hid (LanesC 54 0 z v r)) (w : World) : Calls Tryz.prog 22 #[iv (8 : Int), iv ty, iv off, vv x, vv y] w fun e w' => e = .returned (.tuple #[vv (r), .bool true]) ∧ Below w.heap.size w w' := by
  obtain ⟨X0, Y0, R0⟩ := heap_alloc3 w (vcell x) (vcell y) (vcell V.zero)
  go_enter Tryz.func22, Tryz.ntmps22
  go_wp2_with fail
  (refine (HU.out _ ).mono ?_; rintro e u1 ⟨rfl, hb⟩; obtain ⟨hc, hf⟩ := Flow.bcell hb; have hz := hb.size; (try simp only [World.size_alloc, World.size_setCell, World.size_drew] at hz); obtain ⟨z0, z1, z2⟩ := Flow.zs3 (show w.heap.size + 3 ≤ u1.heap.size by omega))
  have K1 : L3 w.heap.size x y V.zero u1 := ⟨(hb.block _ (by simp <;> omega)).trans X0, (hb.block _ (by simp <;> omega)).trans Y0, (hb.block _ (by simp)).trans R0⟩
  have B1 : Below w.heap.size w u1 := by (repeat (first | exact Below.refl _ _ | refine Below.setCell ?_ (by first | omega | (simp <;> omega)) _ | refine Below.alloc ?_ (by first | omega | (simp <;> omega)) _ | refine Below.drew ?_ | refine Below.trans ?_ (Below.mono (by assumption) (by first | omega | (simp <;> omega)))))
  have y1 := K1.lt
  clear X0 Y0 R0 hb
  obtain ⟨xc, xf, xl⟩ := block_cells K1.X
  obtain ⟨yc, yf, yl⟩ := block_cells K1.Y
  obtain ⟨rc, rf, rl⟩ := block_cells K1.R
  go_wp2_with fail
  clear hc hf
  (refine (HC.out _ ).mono ?_; rintro e u2 ⟨rfl, hb⟩; obtain ⟨hc, hf⟩ := Flow.bcell hb; have hz := hb.size; (try simp only [World.size_alloc, World.size_setCell, World.size_drew] at hz); obtain ⟨z0, z1, z2⟩ := Flow.zs3 (show w.heap.size + 3 ≤ u2.heap.size by omega))
  have K2 := K1.step hb
  have B2 : Below w.heap.size w u2 := B1.trans (hb.mono (by have := K1.lt; omega))
  have y2 := K2.lt
  clear hb hc hf
  clear xc xf xl yc yf yl rc rf rl
  obtain ⟨xc, xf, xl⟩ := block_cells K2.X
  obtain ⟨yc, yf, yl⟩ := block_cells K2.Y
  obtain ⟨rc, rf, rl⟩ := block_cells K2.R
  obtain ⟨u3, e3, X3, S3⟩ := store4 K2.X 0 1 2 3 (uv z.a) (uv z.b) (uv z.c) (uv z.d)
  have K3 : L3 w.heap.size z y V.zero u3 := K2.storeX S3 X3
  have B3 : Below w.heap.size w u3 := B2.trans (S3.below _ (Nat.le_refl _))
  have y3 := K3.lt
  clear X3 S3
  go_wp2_with fail
  (try rw [e3])
  clear e3
  clear xc xf xl yc yf yl rc rf rl
  obtain ⟨xc, xf, xl⟩ := block_cells K3.X
  obtain ⟨yc, yf, yl⟩ := block_cells K3.Y
  obtain ⟨rc, rf, rl⟩ := block_cells K3.R
  refine Flow.wp_region_below 5 (by kernel_rfl) (by kernel_rfl) (fun R hRc hRt => ?_)
  simp only [List.take_succ_cons, List.take_zero, List.drop_succ_cons, List.drop_zero]
  iterate 5
    first
      | (apply Flow.flow_step; rfl; (intro w1 hb; have hc := hRc.out w1 hb; go_simp; (first | with_reducible exact ⟨rfl, hb⟩ | (go_at_call 54; refine (second12_c _ _ _).mono ?_; rintro e w2 ⟨rfl, hb2⟩; exact ⟨_, rfl, rfl, hRt.out _ _ hb hb2⟩) | (go_at_call 44; refine (HD.out _).mono ?_; rintro e w2 ⟨rfl, hb2⟩; exact ⟨_, rfl, rfl, hRt.out _ _ hb hb2⟩))))
    simp only [Act.put, List.setIfInBounds_toArray, List.set_cons_zero, List.set_cons_succ]
  apply Flow.flow_nil
  clear hRc hRt
  intro u4 hb
  have K4 := K3.step hb
  have B4 : Below w.heap.size w u4 := B3.trans (hb.mono (by have := K3.lt; omega))
  have y4 := K4.lt
  clear hb
  clear xc xf xl yc yf yl rc rf rl
  obtain ⟨xc, xf, xl⟩ := block_cells K4.X
  obtain ⟨yc, yf, yl⟩ := block_cells K4.Y
  obtain ⟨rc, rf, rl⟩ := block_cells K4.R
  obtain ⟨u5, e5, Y5, S5⟩ := store4 K4.Y 0 1 2 3 (uv v.a) (uv v.b) (uv v.c) (uv v.d)
  have K5 : L3 w.heap.size z v V.zero u5 := K4.storeY S5 Y5
  have B5 : Below w.heap.size w u5 := B4.trans (S5.below _ (Nat.le_succ _))
  have y5 := K5.lt
  clear Y5 S5
  go_wp2_with fail
  clear e5
  (refine (alu12_8 _ ).mono ?_; rintro e u6 ⟨rfl, hb⟩; obtain ⟨hc, hf⟩ := Flow.bcell hb; have hz := hb.size; (try simp only [World.size_alloc, World.size_setCell, World.size_drew] at hz); obtain ⟨z0, z1, z2⟩ := Flow.zs3 (show w.heap.size + 3 ≤ u6.heap.size by omega))
  have K6 := K5.step hb
  have B6 : Below w.heap.size w u6 := B5.trans (hb.mono (by have := K5.lt; omega))
  have y6 := K6.lt
  clear hb hc hf
  clear xc xf xl yc yf yl rc rf rl
  obtain ⟨xc, xf, xl⟩ := block_cells K6.X
  obtain ⟨yc, yf, yl⟩ := block_cells K6.Y
  obtain ⟨rc, rf, rl⟩ := block_cells K6.R
  go_wp2_with fail
  (refine (bits12_8 z v r HL _ ).mono ?_; rintro e u7 ⟨rfl, hb⟩; obtain ⟨hc, hf⟩ := Flow.bcell hb; have hz := hb.size; (try simp only [World.size_alloc, World.size_setCell, World.size_drew] at hz); obtain ⟨z0, z1, z2⟩ := Flow.zs3 (show w.heap.size + 3 ≤ u7.heap.size by omega))
  have K7 := K6.step hb
  have B7 : Below w.heap.size w u7 := B6.trans (hb.mono (by have := K6.lt; omega))
  have y7 := K7.lt
  clear hb hc hf
  clear xc xf xl yc yf yl rc rf rl
  obtain ⟨xc, xf, xl⟩ := block_cells K7.X
  obtain ⟨yc, yf, yl⟩ := block_cells K7.Y
  obtain ⟨rc, rf, rl⟩ := block_cells K7.R
  go_wp2_with fail
  refine Flow.bodyPost_k rfl (fun K hK => ?_)
  simp only [results, Tryz.results22]
  go_simp
  refine hK _ ⟨?_, ?_⟩
  · rfl
  · have hle : w.heap.size ≤ w.heap.size + 1 + 1 := by omega
    exact (((B7.setCell hle _).setCell hle _).setCell hle _).setCell hle _
set_option maxRecDepth 100000 in
theorem bin12_9 (ty off : Int) (x y z v : V) (HU : Hid (IsBinC 9 ty off true)) (HC : Hid (ClipB ty x z)) (HD : Hid (ClipB (Rf.secTy 9 ty) y v)) (r : V) (HL : Hid (LanesC 55 0 z v r)) (w : World) : Calls Tryz.prog 22 #[iv (9 : Int), iv ty, iv off, vv x, vv y] w fun e w' => e = .returned (.tuple #[vv (r), .bool true]) ∧ Below w.heap.size w w' := by
  obtain ⟨X0, Y0, R0⟩ := heap_alloc3 w (vcell x) (vcell y) (vcell V.zero)
  go_enter Tryz.func22, Tryz.ntmps22
  go_wp2_with fail
  (refine (HU.out _ ).mono ?_; rintro e u1 ⟨rfl, hb⟩; obtain ⟨hc, hf⟩ := Flow.bcell hb; have hz := hb.size; (try simp only [World.size_alloc, World.size_setCell, World.size_drew] at hz); obtain ⟨z0, z1, z2⟩ := Flow.zs3 (show w.heap.size + 3 ≤ u1.heap.size by omega))
  have K1 : L3 w.heap.size x y V.zero u1 := ⟨(hb.block _ (by simp <;> omega)).trans X0, (hb.block _ (by simp <;> omega)).trans Y0, (hb.block _ (by simp)).trans R0⟩
  have B1 : Below w.heap.size w u1 := by (repeat (first | exact Below.refl _ _ | refine Below.setCell ?_ (by first | omega | (simp <;> omega)) _ | refine Below.alloc ?_ (by first | omega | (simp <;> omega)) _ | refine Below.drew ?_ | refine Below.trans ?_ (Below.mono (by assumption) (by first | omega | (simp <;> omega)))))
  have y1 := K1.lt
  clear X0 Y0 R0 hb
  obtain ⟨xc, xf, xl⟩ := block_cells K1.X
  obtain ⟨yc, yf, yl⟩ := block_cells K1.Y
  obtain ⟨rc, rf, rl⟩ := block_cells K1.R
  go_wp2_with fail
  clear hc hf
  (refine (HC.out _ ).mono ?_; rintro e u2 ⟨rfl, hb⟩; obtain ⟨hc, hf⟩ := Flow.bcell hb; have hz := hb.size; (try simp only [World.size_alloc, World.size_setCell, World.size_drew] at hz); obtain ⟨z0, z1, z2⟩ := Flow.zs3 (show w.heap.size + 3 ≤ u2.heap.size by omega))
  have K2 := K1.step hb
  have B2 : Below w.heap.size w u2 := B1.trans (hb.mono (by have := K1.lt; omega))
  have y2 := K2.lt
  clear hb hc hf
  clear xc xf xl yc yf yl rc rf rl
  obtain ⟨xc, xf, xl⟩ := block_cells K2.X
  obtain ⟨yc, yf, yl⟩ := block_cells K2.Y
  obtain ⟨rc, rf, rl⟩ := block_cells K2.R
  obtain ⟨u3, e3, X3, S3⟩ := store4 K2.X 0 1 2 3 (uv z.a) (uv z.b) (uv z.c) (uv z.d)
  have K3 : L3 w.heap.size z y V.zero u3 := K2.storeX S3 X3
  have B3 : Below w.heap.size w u3 := B2.trans (S3.below _ (Nat.le_refl _))
  have y3 := K3.lt
  clear X3 S3
  go_wp2_with fail
  (try rw [e3])
  clear e3
  clear xc xf xl yc yf yl rc rf rl
  obtain ⟨xc, xf, xl⟩ := block_cells K3.X
  obtain ⟨yc, yf, yl⟩ := block_cells K3.Y
  obtain ⟨rc, rf, rl⟩ := block_cells K3.R
  refine Flow.wp_region_below 5 (by kernel_rfl) (by kernel_rfl) (fun R hRc hRt => ?_)
  simp only [List.take_succ_cons, List.take_zero, List.drop_succ_cons, List.drop_zero]
  iterate 5
    first
      | (apply Flow.flow_step; rfl; (intro w1 hb; have hc := hRc.out w1 hb; go_simp; (first | with_reducible exact ⟨rfl, hb⟩ | (go_at_call 54; refine (second12_c _ _ _).mono ?_; rintro e w2 ⟨rfl, hb2⟩; exact ⟨_, rfl, rfl, hRt.out _ _ hb hb2⟩) | (go_at_call 44; refine (HD.out _).mono ?_; rintro e w2 ⟨rfl, hb2⟩; exact ⟨_, rfl, rfl, hRt.out _ _ hb hb2⟩))))
    simp only [Act.put, List.setIfInBounds_toArray, List.set_cons_zero, List.set_cons_succ]
  apply Flow.flow_nil
  clear hRc hRt
  intro u4 hb
  have K4 := K3.step hb
  have B4 : Below w.heap.size w u4 := B3.trans (hb.mono (by have := K3.lt; omega))
  have y4 := K4.lt
  clear hb
  clear xc xf xl yc yf yl rc rf rl
  obtain ⟨xc, xf, xl⟩ := block_cells K4.X
  obtain ⟨yc, yf, yl⟩ := block_cells K4.Y
  obtain ⟨rc, rf, rl⟩ := block_cells K4.R
  obtain ⟨u5, e5, Y5, S5⟩ := store4 K4.Y 0 1 2 3 (uv v.a) (uv v.b) (uv v.c) (uv v.d)
  have K5 : L3 w.heap.size z v V.zero u5 := K4.storeY S5 Y5
  have B5 : Below w.heap.size w u5 := B4.trans (S5.below _ (Nat.le_succ _))
  have y5 := K5.lt
  clear Y5 S5
  go_wp2_with fail
  clear e5
  (refine (alu12_9 _ ).mono ?_; rintro e u6 ⟨rfl, hb⟩; obtain ⟨hc, hf⟩ := Flow.bcell hb; have hz := hb.size; (try simp only [World.size_alloc, World.size_setCell, World.size_drew] at hz); obtain ⟨z0, z1, z2⟩ := Flow.zs3 (show w.heap.size + 3 ≤ u6.heap.size by omega))
  have K6 := K5.step hb
  have B6 : Below w.heap.size w u6 := B5.trans (hb.mono (by have := K5.lt; omega))
  have y6 := K6.lt
  clear hb hc hf
  clear xc xf xl yc yf yl rc rf rl
  obtain ⟨xc, xf, xl⟩ := block_cells K6.X
  obtain ⟨yc, yf, yl⟩ := block_cells K6.Y
  obtain ⟨rc, rf, rl⟩ := block_cells K6.R
  go_wp2_with fail
  (refine (bits12_9 z v r HL _ ).mono ?_; rintro e u7 ⟨rfl, hb⟩; obtain ⟨hc, hf⟩ := Flow.bcell hb; have hz := hb.size; (try simp only [World.size_alloc, World.size_setCell, World.size_drew] at hz); obtain ⟨z0, z1, z2⟩ := Flow.zs3 (show w.heap.size + 3 ≤ u7.heap.size by omega))
  have K7 := K6.step hb
  have B7 : Below w.heap.size w u7 := B6.trans (hb.mono (by have := K6.lt; omega))
  have y7 := K7.lt
  clear hb hc hf
  clear xc xf xl yc yf yl rc rf rl
  obtain ⟨xc, xf, xl⟩ := block_cells K7.X
  obtain ⟨yc, yf, yl⟩ := block_cells K7.Y
  obtain ⟨rc, rf, rl⟩ := block_cells K7.R
  go_wp2_with fail
  refine Flow.bodyPost_k rfl (fun K hK => ?_)
  simp only [results, Tryz.results22]
  go_simp
  refine hK _ ⟨?_, ?_⟩
  · rfl
  · have hle : w.heap.size ≤ w.heap.size + 1 + 1 := by omega
    exact (((B7.setCell hle _).setCell hle _).setCell hle _).setCell hle _
set_option maxRecDepth 100000 in
theorem bin12_10 (ty off : Int) (x y z v : V) (HU : Hid (IsBinC 10 ty off true)) (HC : Hid (ClipB ty x z)) (HD : Hid (ClipB (Rf.secTy 10 ty) y v)) (r : V) (HL : Hid (LanesC 56 0 z v r)) (w : World) : Calls Tryz.prog 22 #[iv (10 : Int), iv ty, iv off, vv x, vv y] w fun e w' => e = .returned (.tuple #[vv (r), .bool true]) ∧ Below w.heap.size w w' := by
  obtain ⟨X0, Y0, R0⟩ := heap_alloc3 w (vcell x) (vcell y) (vcell V.zero)
  go_enter Tryz.func22, Tryz.ntmps22
  go_wp2_with fail
  (refine (HU.out _ ).mono ?_; rintro e u1 ⟨rfl, hb⟩; obtain ⟨hc, hf⟩ := Flow.bcell hb; have hz := hb.size; (try simp only [World.size_alloc, World.size_setCell, World.size_drew] at hz); obtain ⟨z0, z1, z2⟩ := Flow.zs3 (show w.heap.size + 3 ≤ u1.heap.size by omega))
  have K1 : L3 w.heap.size x y V.zero u1 := ⟨(hb.block _ (by simp <;> omega)).trans X0, (hb.block _ (by simp <;> omega)).trans Y0, (hb.block _ (by simp)).trans R0⟩
  have B1 : Below w.heap.size w u1 := by (repeat (first | exact Below.refl _ _ | refine Below.setCell ?_ (by first | omega | (simp <;> omega)) _ | refine Below.alloc ?_ (by first | omega | (simp <;> omega)) _ | refine Below.drew ?_ | refine Below.trans ?_ (Below.mono (by assumption) (by first | omega | (simp <;> omega)))))
  have y1 := K1.lt
  clear X0 Y0 R0 hb
  obtain ⟨xc, xf, xl⟩ := block_cells K1.X
  obtain ⟨yc, yf, yl⟩ := block_cells K1.Y
  obtain ⟨rc, rf, rl⟩ := block_cells K1.R
  go_wp2_with fail
  clear hc hf
  (refine (HC.out _ ).mono ?_; rintro e u2 ⟨rfl, hb⟩; obtain ⟨hc, hf⟩ := Flow.bcell hb; have hz := hb.size; (try simp only [World.size_alloc, World.size_setCell, World.size_drew] at hz); obtain ⟨z0, z1, z2⟩ := Flow.zs3 (show w.heap.size + 3 ≤ u2.heap.size by omega))
  have K2 := K1.step hb
  have B2 : Below w.heap.size w u2 := B1.trans (hb.mono (by have := K1.lt; omega))
  have y2 := K2.lt
  clear hb hc hf
  clear xc xf xl yc yf yl rc rf rl
  obtain ⟨xc, xf, xl⟩ := block_cells K2.X
  obtain ⟨yc, yf, yl⟩ := block_cells K2.Y
  obtain ⟨rc, rf, rl⟩ := block_cells K2.R
  obtain ⟨u3, e3, X3, S3⟩ := store4 K2.X 0 1 2 3 (uv z.a) (uv z.b) (uv z.c) (uv z.d)
  have K3 : L3 w.heap.size z y V.zero u3 := K2.storeX S3 X3
  have B3 : Below w.heap.size w u3 := B2.trans (S3.below _ (Nat.le_refl _))
  have y3 := K3.lt
  clear X3 S3
  go_wp2_with fail
  (try rw [e3])
  clear e3
  clear xc xf xl yc yf yl rc rf rl
  obtain ⟨xc, xf, xl⟩ := block_cells K3.X
  obtain ⟨yc, yf, yl⟩ := block_cells K3.Y
  obtain ⟨rc, rf, rl⟩ := block_cells K3.R
  refine Flow.wp_region_below 5 (by kernel_rfl) (by kernel_rfl) (fun R hRc hRt => ?_)
  simp only [List.take_succ_cons, List.take_zero, List.drop_succ_cons, List.drop_zero]
  iterate 5
    first
      | (apply Flow.flow_step; rfl; (intro w1 hb; have hc := hRc.out w1 hb; go_simp; (first | with_reducible exact ⟨rfl, hb⟩ | (go_at_call 54; refine (second12_c _ _ _).mono ?_; rintro e w2 ⟨rfl, hb2⟩; exact ⟨_, rfl, rfl, hRt.out _ _ hb hb2⟩) | (go_at_call 44; refine (HD.out _).mono ?_; rintro e w2 ⟨rfl, hb2⟩; exact ⟨_, rfl, rfl, hRt.out _ _ hb hb2⟩))))
    simp only [Act.put, List.setIfInBounds_toArray, List.set_cons_zero, List.set_cons_succ]
  apply Flow.flow_nil
  clear hRc hRt
  intro u4 hb
  have K4 := K3.step hb
  have B4 : Below w.heap.size w u4 := B3.trans (hb.mono (by have := K3.lt; omega))
  have y4 := K4.lt
  clear hb
  clear xc xf xl yc yf yl rc rf rl
  obtain ⟨xc, xf, xl⟩ := block_cells K4.X
  obtain ⟨yc, yf, yl⟩ := block_cells K4.Y
  obtain ⟨rc, rf, rl⟩ := block_cells K4.R
  obtain ⟨u5, e5, Y5, S5⟩ := store4 K4.Y 0 1 2 3 (uv v.a) (uv v.b) (uv v.c) (uv v.d)
  have K5 : L3 w.heap.size z v V.zero u5 := K4.storeY S5 Y5
  have B5 : Below w.heap.size w u5 := B4.trans (S5.below _ (Nat.le_succ _))
  have y5 := K5.lt
  clear Y5 S5
  go_wp2_with fail
  clear e5
  (refine (alu12_10 _ ).mono ?_; rintro e u6 ⟨rfl, hb⟩; obtain ⟨hc, hf⟩ := Flow.bcell hb; have hz := hb.size; (try simp only [World.size_alloc, World.size_setCell, World.size_drew] at hz); obtain ⟨z0, z1, z2⟩ := Flow.zs3 (show w.heap.size + 3 ≤ u6.heap.size by omega))
  have K6 := K5.step hb
  have B6 : Below w.heap.size w u6 := B5.trans (hb.mono (by have := K5.lt; omega))
  have y6 := K6.lt
  clear hb hc hf
  clear xc xf xl yc yf yl rc rf rl
  obtain ⟨xc, xf, xl⟩ := block_cells K6.X
  obtain ⟨yc, yf, yl⟩ := block_cells K6.Y
  obtain ⟨rc, rf, rl⟩ := block_cells K6.R
  go_wp2_with fail
  (refine (bits12_10 z v r HL _ ).mono ?_; rintro e u7 ⟨rfl, hb⟩; obtain ⟨hc, hf⟩ := Flow.bcell hb; have hz := hb.size; (try simp only [World.size_alloc, World.size_setCell, World.size_drew] at hz); obtain ⟨z0, z1, z2⟩ := Flow.zs3 (show w.heap.size + 3 ≤ u7.heap.size by omega))
  have K7 := K6.step hb
  have B7 : Below w.heap.size w u7 := B6.trans (hb.mono (by have := K6.lt; omega))
  have y7 := K7.lt
  clear hb hc hf
  clear xc xf xl yc yf yl rc rf rl
  obtain ⟨xc, xf, xl⟩ := block_cells K7.X
  obtain ⟨yc, yf, yl⟩ := block_cells K7.Y
  obtain ⟨rc, rf, rl⟩ := block_cells K7.R
  go_wp2_with fail
  refine Flow.bodyPost_k rfl (fun K hK => ?_)
  simp only [results, Tryz.results22]
  go_simp
  refine hK _ ⟨?_, ?_⟩
  · rfl
  · have hle : w.heap.size ≤ w.heap.size + 1 + 1 := by omega
    exact (((B7.setCell hle _).setCell hle _).setCell hle _).setCell hle _
set_option maxRecDepth 100000 in
theorem bin12_lane (op : Int) (ty off : Int) (x y z v : V) (HU : Hid (IsBinC op ty off true)) (HC : Hid (ClipB ty x z)) (HD : Hid (ClipB (Rf.secTy op ty) y v)) (HN : Hid (∀ w, Calls Tryz.prog 55 #[iv op] w fun e w' => e = .returned (iv 0) ∧ Below w.heap.size w w')) (n8 : (op == 8) = false) (n9 : (op == 9) = false) (n10 : (op == 10) = false) (n14 : (op == 14) = false) (n15 : (op == 15) = false) (n16 : (op == 16) = false) (n17 : (op == 17) = false) (n18 : (op == 18) = false) (n19 : (op == 19) = false) (n30 : (op == 30) = false) (r : V) (HL : Hid (∀ w, Calls Tryz.prog 58 #[iv op, vv z, vv v] w fun e w' => e = .returned (vv r) ∧ Below w.heap.size w w')) (w : World) : Calls Tryz.prog 22 #[iv (op : Int), iv ty, iv off, vv x, vv y] w fun e w' => e = .returned (.tuple #[vv (r), .bool true]) ∧ Below w.heap.size w w' := by
  obtain ⟨X0, Y0, R0⟩ := heap_alloc3 w (vcell x) (vcell y) (vcell V.zero)
  go_enter Tryz.func22, Tryz.ntmps22
  go_wp2_with fail
  (refine (HU.out _ ).mono ?_; rintro e u1 ⟨rfl, hb⟩; obtain ⟨hc, hf⟩ := Flow.bcell hb; have hz := hb.size; (try simp only [World.size_alloc, World.size_setCell, World.size_drew] at hz); obtain ⟨z0, z1, z2⟩ := Flow.zs3 (show w.heap.size + 3 ≤ u1.heap.size by omega))
  have K1 : L3 w.heap.size x y V.zero u1 := ⟨(hb.block _ (by simp <;> omega)).trans X0, (hb.block _ (by simp <;> omega)).trans Y0, (hb.block _ (by simp)).trans R0⟩
  have B1 : Below w.heap.size w u1 := by (repeat (first | exact Below.refl _ _ | refine Below.setCell ?_ (by first | omega | (simp <;> omega)) _ | refine Below.alloc ?_ (by first | omega | (simp <;> omega)) _ | refine Below.drew ?_ | refine Below.trans ?_ (Below.mono (by assumption) (by first | omega | (simp <;> omega)))))
  have y1 := K1.lt
  clear X0 Y0 R0 hb
  obtain ⟨xc, xf, xl⟩ := block_cells K1.X
  obtain ⟨yc, yf, yl⟩ := block_cells K1.Y
  obtain ⟨rc, rf, rl⟩ := block_cells K1.R
  go_wp2_with fail
  clear hc hf
  (refine (HC.out _ ).mono ?_; rintro e u2 ⟨rfl, hb⟩; obtain ⟨hc, hf⟩ := Flow.bcell hb; have hz := hb.size; (try simp only [World.size_alloc, World.size_setCell, World.size_drew] at hz); obtain ⟨z0, z1, z2⟩ := Flow.zs3 (show w.heap.size + 3 ≤ u2.heap.size by omega))
  have K2 := K1.step hb
  have B2 : Below w.heap.size w u2 := B1.trans (hb.mono (by have := K1.lt; omega))
  have y2 := K2.lt
  clear hb hc hf
  clear xc xf xl yc yf yl rc rf rl
  obtain ⟨xc, xf, xl⟩ := block_cells K2.X
  obtain ⟨yc, yf, yl⟩ := block_cells K2.Y
  obtain ⟨rc, rf, rl⟩ := block_cells K2.R
  obtain ⟨u3, e3, X3, S3⟩ := store4 K2.X 0 1 2 3 (uv z.a) (uv z.b) (uv z.c) (uv z.d)
  have K3 : L3 w.heap.size z y V.zero u3 := K2.storeX S3 X3
  have B3 : Below w.heap.size w u3 := B2.trans (S3.below _ (Nat.le_refl _))
  have y3 := K3.lt
  clear X3 S3
  go_wp2_with fail
  (try rw [e3])
  clear e3
  clear xc xf xl yc yf yl rc rf rl
  obtain ⟨xc, xf, xl⟩ := block_cells K3.X
  obtain ⟨yc, yf, yl⟩ := block_cells K3.Y
  obtain ⟨rc, rf, rl⟩ := block_cells K3.R
  refine Flow.wp_region_below 5 (by kernel_rfl) (by kernel_rfl) (fun R hRc hRt => ?_)
  simp only [List.take_succ_cons, List.take_zero, List.drop_succ_cons, List.drop_zero]
  iterate 5
    first
      | (apply Flow.flow_step; rfl; (intro w1 hb; have hc := hRc.out w1 hb; go_simp; (first | with_reducible exact ⟨rfl, hb⟩ | (go_at_call 54; refine (second12_c _ _ _).mono ?_; rintro e w2 ⟨rfl, hb2⟩; exact ⟨_, rfl, rfl, hRt.out _ _ hb hb2⟩) | (go_at_call 44; refine (HD.out _).mono ?_; rintro e w2 ⟨rfl, hb2⟩; exact ⟨_, rfl, rfl, hRt.out _ _ hb hb2⟩))))
    simp only [Act.put, List.setIfInBounds_toArray, List.set_cons_zero, List.set_cons_succ]
  apply Flow.flow_nil
  clear hRc hRt
  intro u4 hb
  have K4 := K3.step hb
  have B4 : Below w.heap.size w u4 := B3.trans (hb.mono (by have := K3.lt; omega))
  have y4 := K4.lt
  clear hb
  clear xc xf xl yc yf yl rc rf rl
  obtain ⟨xc, xf, xl⟩ := block_cells K4.X
  obtain ⟨yc, yf, yl⟩ := block_cells K4.Y
  obtain ⟨rc, rf, rl⟩ := block_cells K4.R
  obtain ⟨u5, e5, Y5, S5⟩ := store4 K4.Y 0 1 2 3 (uv v.a) (uv v.b) (uv v.c) (uv v.d)
  have K5 : L3 w.heap.size z v V.zero u5 := K4.storeY S5 Y5
  have B5 : Below w.heap.size w u5 := B4.trans (S5.below _ (Nat.le_succ _))
  have y5 := K5.lt
  clear Y5 S5
  go_wp2_with fail
  clear e5
  (refine (HN.out _ ).mono ?_; rintro e u6 ⟨rfl, hb⟩; obtain ⟨hc, hf⟩ := Flow.bcell hb; have hz := hb.size; (try simp only [World.size_alloc, World.size_setCell, World.size_drew] at hz); obtain ⟨z0, z1, z2⟩ := Flow.zs3 (show w.heap.size + 3 ≤ u6.heap.size by omega))
  have K6 := K5.step hb
  have B6 : Below w.heap.size w u6 := B5.trans (hb.mono (by have := K5.lt; omega))
  have y6 := K6.lt
  clear hb hc hf
  clear xc xf xl yc yf yl rc rf rl
  obtain ⟨xc, xf, xl⟩ := block_cells K6.X
  obtain ⟨yc, yf, yl⟩ := block_cells K6.Y
  obtain ⟨rc, rf, rl⟩ := block_cells K6.R
  go_wp2_with fail
  (refine (HL.out _ ).mono ?_; rintro e u7 ⟨rfl, hb⟩; obtain ⟨hc, hf⟩ := Flow.bcell hb; have hz := hb.size; (try simp only [World.size_alloc, World.size_setCell, World.size_drew] at hz); obtain ⟨z0, z1, z2⟩ := Flow.zs3 (show w.heap.size + 3 ≤ u7.heap.size by omega))
  have K7 := K6.step hb
  have B7 : Below w.heap.size w u7 := B6.trans (hb.mono (by have := K6.lt; omega))
  have y7 := K7.lt
  clear hb hc hf
  clear xc xf xl yc yf yl rc rf rl
  obtain ⟨xc, xf, xl⟩ := block_cells K7.X
  obtain ⟨yc, yf, yl⟩ := block_cells K7.Y
  obtain ⟨rc, rf, rl⟩ := block_cells K7.R
  go_wp2_with fail
  refine Flow.bodyPost_k rfl (fun K hK => ?_)
  simp only [results, Tryz.results22]
  go_simp
  refine hK _ ⟨?_, ?_⟩
  · rfl
  · have hle : w.heap.size ≤ w.heap.size + 1 + 1 := by omega
    exact (((B7.setCell hle _).setCell hle _).setCell hle _).setCell hle _
end Go.Proofs.YtboknfppecgjmaaGreat
