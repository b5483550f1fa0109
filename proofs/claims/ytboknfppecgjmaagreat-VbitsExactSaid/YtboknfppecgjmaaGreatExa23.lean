/- Part 23 of the proof's texts: R12Un. -/
import Derived.Test.YtboknfppecgjmaaGreatExa22
set_option maxHeartbeats 16000000
namespace Go.Proofs.YtboknfppecgjmaaGreat
set_option linter.unusedVariables false
set_option linter.unusedSimpArgs false
open Go.RowKit Go.Shelf
abbrev ClipC (p : Int) (x z : V) : Prop := ∀ w, Calls Tryz.prog 44 #[iv p, vv x] w fun e w' => e = .returned (vv z) ∧ Below w.heap.size w w'
abbrev IsUnC (op p to off : Int) (b : Bool) : Prop := ∀ w, Calls Tryz.prog 43 #[iv op, iv p, iv to, iv off] w fun e w' => e = .returned (.bool b) ∧ Below w.heap.size w w'
set_option maxRecDepth 100000 in
theorem un12_e (op p to off : Int) (x : V) (HU : Hid (IsUnC op p to off false)) (w : World) : Calls Tryz.prog 19 #[iv op, iv p, iv to, iv off, vv x] w fun e w' => e = .returned (.tuple #[vv V.zero, .bool false]) ∧ Below w.heap.size w w' := by
  go_enter Tryz.func19, Tryz.ntmps19
  go_wp2_with fail
  (refine (HU.out _ ).mono ?_; rintro e u1 ⟨rfl, hb⟩; obtain ⟨hc, hf⟩ := Flow.bcell hb; have hz := hb.size; (try simp only [World.size_alloc, World.size_setCell, World.size_drew] at hz); obtain ⟨z0, z1⟩ := Flow.zs2 (show w.heap.size + 2 ≤ u1.heap.size by omega))
  go_wp2_with fail
  refine Flow.bodyPost_k rfl (fun K hK => ?_)
  simp only [results, Tryz.results19]
  go_simp
  refine hK _ ⟨?_, ?_⟩
  · rfl
  · (repeat (first | exact Below.refl _ _ | refine Below.setCell ?_ (by first | omega | (simp <;> omega)) _ | refine Below.alloc ?_ (by first | omega | (simp <;> omega)) _ | refine Below.drew ?_ | refine Below.trans ?_ (Below.mono (by assumption) (by first | omega | (simp <;> omega)))))
set_option maxRecDepth 100000 in
theorem un12_2 (p to off : Int) (x z : V) (HU : Hid (IsUnC (2 : Int) p to off true)) (HC : Hid (ClipC p x z)) (w : World) : Calls Tryz.prog 19 #[iv (2 : Int), iv p, iv to, iv off, vv x] w fun e w' => e = .returned (.tuple #[vv (z.and (Vb.ones to)), .bool true]) ∧ Below w.heap.size w w' := by
  have X0 := heap_alloc2_old w (vcell x) (vcell V.zero)
  have R0 := heap_alloc_new (w.alloc (vcell x)) (vcell V.zero)
  rw [World.size_alloc] at R0
  go_enter Tryz.func19, Tryz.ntmps19
  go_wp2_with fail
  (refine (HU.out _ ).mono ?_; rintro e u1 ⟨rfl, hb⟩; obtain ⟨hc, hf⟩ := Flow.bcell hb; have hz := hb.size; (try simp only [World.size_alloc, World.size_setCell, World.size_drew] at hz); obtain ⟨z0, z1⟩ := Flow.zs2 (show w.heap.size + 2 ≤ u1.heap.size by omega))
  have X1 := (hb.block w.heap.size (by simp <;> omega)).trans X0
  have R1 := (hb.block (w.heap.size + 1) (by simp)).trans R0
  have B1 : Below w.heap.size w u1 := by (repeat (first | exact Below.refl _ _ | refine Below.setCell ?_ (by first | omega | (simp <;> omega)) _ | refine Below.alloc ?_ (by first | omega | (simp <;> omega)) _ | refine Below.drew ?_ | refine Below.trans ?_ (Below.mono (by assumption) (by first | omega | (simp <;> omega)))))
  have y1 : w.heap.size + 1 < u1.heap.size := by omega
  clear X0 R0
  go_wp2_with fail
  (refine (HC.out _ ).mono ?_; rintro e u2 ⟨rfl, hb⟩; obtain ⟨hc, hf⟩ := Flow.bcell hb; have hz := hb.size; (try simp only [World.size_alloc, World.size_setCell, World.size_drew] at hz); obtain ⟨z0, z1⟩ := Flow.zs2 (show w.heap.size + 2 ≤ u2.heap.size by omega))
  have X2 := (hb.block w.heap.size (by omega)).trans X1
  have R2 := (hb.block (w.heap.size + 1) y1).trans R1
  have B2 : Below w.heap.size w u2 := B1.trans (hb.mono (by omega))
  have y2 : w.heap.size + 1 < u2.heap.size := by omega
  clear hb hc hf X1 R1 B1
  obtain ⟨xc, xf, xl⟩ := block_cells X2
  obtain ⟨u3, e3, X3, S3⟩ := store4 X2 0 1 2 3 (uv z.a) (uv z.b) (uv z.c) (uv z.d)
  have R3 := (S3.other (w.heap.size + 1) (by omega)).trans R2
  have B3 : Below w.heap.size w u3 := B2.trans (S3.below _ (Nat.le_refl _))
  have y3 : w.heap.size + 1 < u3.heap.size := by rw [S3.size]; exact y2
  have y3' : w.heap.size < u3.heap.size := by omega
  replace X3 : u3.heap[w.heap.size]? = some (vcell z) := X3
  clear S3 R2 X2
  obtain ⟨zc, zf, zl⟩ := block_cells X3
  obtain ⟨rc, rf, rl⟩ := block_cells R3
  go_wp2_with fail
  (refine (clip_c to z _ ).mono ?_; rintro e u4 ⟨rfl, hb⟩; obtain ⟨hc, hf⟩ := Flow.bcell hb; have hz := hb.size; (try simp only [World.size_alloc, World.size_setCell, World.size_drew] at hz); obtain ⟨z0, z1⟩ := Flow.zs2 (show w.heap.size + 2 ≤ u4.heap.size by omega))
  have X4 := (hb.block w.heap.size (by omega)).trans X3
  have R4 := (hb.block (w.heap.size + 1) (by omega)).trans R3
  have B4 : Below w.heap.size w u4 := B3.trans (hb.mono (by omega))
  have y4 : w.heap.size + 1 < u4.heap.size := by omega
  have y4' : w.heap.size < u4.heap.size := by omega
  clear hb hc hf xc xf xl zc zf zl rc rf rl
  (try clear e3)
  obtain ⟨zc, zf, zl⟩ := block_cells X4
  obtain ⟨rc, rf, rl⟩ := block_cells R4
  have xc := zc
  have xf := zf
  have xl := zl
  go_wp2_with fail
  refine Flow.bodyPost_k rfl (fun K hK => ?_)
  simp only [results, Tryz.results19]
  go_simp
  refine hK _ ⟨?_, ?_⟩
  · rfl
  · first
      | exact (((B4.setCell (Nat.le_succ _) _).setCell (Nat.le_succ _) _).setCell (Nat.le_succ _) _).setCell (Nat.le_succ _) _
      | (repeat (first | exact Below.refl _ _ | refine Below.setCell ?_ (by first | omega | (simp <;> omega)) _ | refine Below.alloc ?_ (by first | omega | (simp <;> omega)) _ | refine Below.drew ?_ | refine Below.trans ?_ (Below.mono (by assumption) (by first | omega | (simp <;> omega)))))
set_option maxRecDepth 100000 in
theorem un12_4 (p to off : Int) (x z : V) (HU : Hid (IsUnC (4 : Int) p to off true)) (HC : Hid (ClipC p x z)) (w : World) : Calls Tryz.prog 19 #[iv (4 : Int), iv p, iv to, iv off, vv x] w fun e w' => e = .returned (.tuple #[vv (z.and (Vb.ones to)), .bool true]) ∧ Below w.heap.size w w' := by
  have X0 := heap_alloc2_old w (vcell x) (vcell V.zero)
  have R0 := heap_alloc_new (w.alloc (vcell x)) (vcell V.zero)
  rw [World.size_alloc] at R0
  go_enter Tryz.func19, Tryz.ntmps19
  go_wp2_with fail
  (refine (HU.out _ ).mono ?_; rintro e u1 ⟨rfl, hb⟩; obtain ⟨hc, hf⟩ := Flow.bcell hb; have hz := hb.size; (try simp only [World.size_alloc, World.size_setCell, World.size_drew] at hz); obtain ⟨z0, z1⟩ := Flow.zs2 (show w.heap.size + 2 ≤ u1.heap.size by omega))
  have X1 := (hb.block w.heap.size (by simp <;> omega)).trans X0
  have R1 := (hb.block (w.heap.size + 1) (by simp)).trans R0
  have B1 : Below w.heap.size w u1 := by (repeat (first | exact Below.refl _ _ | refine Below.setCell ?_ (by first | omega | (simp <;> omega)) _ | refine Below.alloc ?_ (by first | omega | (simp <;> omega)) _ | refine Below.drew ?_ | refine Below.trans ?_ (Below.mono (by assumption) (by first | omega | (simp <;> omega)))))
  have y1 : w.heap.size + 1 < u1.heap.size := by omega
  clear X0 R0
  go_wp2_with fail
  (refine (HC.out _ ).mono ?_; rintro e u2 ⟨rfl, hb⟩; obtain ⟨hc, hf⟩ := Flow.bcell hb; have hz := hb.size; (try simp only [World.size_alloc, World.size_setCell, World.size_drew] at hz); obtain ⟨z0, z1⟩ := Flow.zs2 (show w.heap.size + 2 ≤ u2.heap.size by omega))
  have X2 := (hb.block w.heap.size (by omega)).trans X1
  have R2 := (hb.block (w.heap.size + 1) y1).trans R1
  have B2 : Below w.heap.size w u2 := B1.trans (hb.mono (by omega))
  have y2 : w.heap.size + 1 < u2.heap.size := by omega
  clear hb hc hf X1 R1 B1
  obtain ⟨xc, xf, xl⟩ := block_cells X2
  obtain ⟨u3, e3, X3, S3⟩ := store4 X2 0 1 2 3 (uv z.a) (uv z.b) (uv z.c) (uv z.d)
  have R3 := (S3.other (w.heap.size + 1) (by omega)).trans R2
  have B3 : Below w.heap.size w u3 := B2.trans (S3.below _ (Nat.le_refl _))
  have y3 : w.heap.size + 1 < u3.heap.size := by rw [S3.size]; exact y2
  have y3' : w.heap.size < u3.heap.size := by omega
  replace X3 : u3.heap[w.heap.size]? = some (vcell z) := X3
  clear S3 R2 X2
  obtain ⟨zc, zf, zl⟩ := block_cells X3
  obtain ⟨rc, rf, rl⟩ := block_cells R3
  go_wp2_with fail
  (refine (clip_c to z _ ).mono ?_; rintro e u4 ⟨rfl, hb⟩; obtain ⟨hc, hf⟩ := Flow.bcell hb; have hz := hb.size; (try simp only [World.size_alloc, World.size_setCell, World.size_drew] at hz); obtain ⟨z0, z1⟩ := Flow.zs2 (show w.heap.size + 2 ≤ u4.heap.size by omega))
  have X4 := (hb.block w.heap.size (by omega)).trans X3
  have R4 := (hb.block (w.heap.size + 1) (by omega)).trans R3
  have B4 : Below w.heap.size w u4 := B3.trans (hb.mono (by omega))
  have y4 : w.heap.size + 1 < u4.heap.size := by omega
  have y4' : w.heap.size < u4.heap.size := by omega
  clear hb hc hf xc xf xl zc zf zl rc rf rl
  (try clear e3)
  obtain ⟨zc, zf, zl⟩ := block_cells X4
  obtain ⟨rc, rf, rl⟩ := block_cells R4
  have xc := zc
  have xf := zf
  have xl := zl
  go_wp2_with fail
  refine Flow.bodyPost_k rfl (fun K hK => ?_)
  simp only [results, Tryz.results19]
  go_simp
  refine hK _ ⟨?_, ?_⟩
  · rfl
  · first
      | exact (((B4.setCell (Nat.le_succ _) _).setCell (Nat.le_succ _) _).setCell (Nat.le_succ _) _).setCell (Nat.le_succ _) _
      | (repeat (first | exact Below.refl _ _ | refine Below.setCell ?_ (by first | omega | (simp <;> omega)) _ | refine Below.alloc ?_ (by first | omega | (simp <;> omega)) _ | refine Below.drew ?_ | refine Below.trans ?_ (Below.mono (by assumption) (by first | omega | (simp <;> omega)))))
set_option maxRecDepth 100000 in
theorem un12_3_1 (to off : Int) (x z : V) (HU : Hid (IsUnC (3 : Int) (1 : Int) to off true)) (HC : Hid (ClipC (1 : Int) x z)) (HL : Hid (z.a.toNat < 2)) (w : World) : Calls Tryz.prog 19 #[iv (3 : Int), iv (1 : Int), iv to, iv off, vv x] w fun e w' => e = .returned (.tuple #[vv (V.word (Rf.signed z.a 1)), .bool true]) ∧ Below w.heap.size w w' := by
  have X0 := heap_alloc2_old w (vcell x) (vcell V.zero)
  have R0 := heap_alloc_new (w.alloc (vcell x)) (vcell V.zero)
  rw [World.size_alloc] at R0
  go_enter Tryz.func19, Tryz.ntmps19
  go_wp2_with fail
  (refine (HU.out _ ).mono ?_; rintro e u1 ⟨rfl, hb⟩; obtain ⟨hc, hf⟩ := Flow.bcell hb; have hz := hb.size; (try simp only [World.size_alloc, World.size_setCell, World.size_drew] at hz); obtain ⟨z0, z1⟩ := Flow.zs2 (show w.heap.size + 2 ≤ u1.heap.size by omega))
  have X1 := (hb.block w.heap.size (by simp <;> omega)).trans X0
  have R1 := (hb.block (w.heap.size + 1) (by simp)).trans R0
  have B1 : Below w.heap.size w u1 := by (repeat (first | exact Below.refl _ _ | refine Below.setCell ?_ (by first | omega | (simp <;> omega)) _ | refine Below.alloc ?_ (by first | omega | (simp <;> omega)) _ | refine Below.drew ?_ | refine Below.trans ?_ (Below.mono (by assumption) (by first | omega | (simp <;> omega)))))
  have y1 : w.heap.size + 1 < u1.heap.size := by omega
  clear X0 R0
  go_wp2_with fail
  (refine (HC.out _ ).mono ?_; rintro e u2 ⟨rfl, hb⟩; obtain ⟨hc, hf⟩ := Flow.bcell hb; have hz := hb.size; (try simp only [World.size_alloc, World.size_setCell, World.size_drew] at hz); obtain ⟨z0, z1⟩ := Flow.zs2 (show w.heap.size + 2 ≤ u2.heap.size by omega))
  have X2 := (hb.block w.heap.size (by omega)).trans X1
  have R2 := (hb.block (w.heap.size + 1) y1).trans R1
  have B2 : Below w.heap.size w u2 := B1.trans (hb.mono (by omega))
  have y2 : w.heap.size + 1 < u2.heap.size := by omega
  clear hb hc hf X1 R1 B1
  obtain ⟨xc, xf, xl⟩ := block_cells X2
  obtain ⟨u3, e3, X3, S3⟩ := store4 X2 0 1 2 3 (uv z.a) (uv z.b) (uv z.c) (uv z.d)
  have R3 := (S3.other (w.heap.size + 1) (by omega)).trans R2
  have B3 : Below w.heap.size w u3 := B2.trans (S3.below _ (Nat.le_refl _))
  have y3 : w.heap.size + 1 < u3.heap.size := by rw [S3.size]; exact y2
  have y3' : w.heap.size < u3.heap.size := by omega
  replace X3 : u3.heap[w.heap.size]? = some (vcell z) := X3
  clear S3 R2 X2
  obtain ⟨zc, zf, zl⟩ := block_cells X3
  obtain ⟨rc, rf, rl⟩ := block_cells R3
  go_wp2_with fail
  (refine (sign1_c z.a HL.out _ ).mono ?_; rintro e u4 ⟨rfl, hb⟩; obtain ⟨hc, hf⟩ := Flow.bcell hb; have hz := hb.size; (try simp only [World.size_alloc, World.size_setCell, World.size_drew] at hz); obtain ⟨z0, z1⟩ := Flow.zs2 (show w.heap.size + 2 ≤ u4.heap.size by omega))
  have X4 := (hb.block w.heap.size (by omega)).trans X3
  have R4 := (hb.block (w.heap.size + 1) (by omega)).trans R3
  have B4 : Below w.heap.size w u4 := B3.trans (hb.mono (by omega))
  have y4 : w.heap.size + 1 < u4.heap.size := by omega
  have y4' : w.heap.size < u4.heap.size := by omega
  clear hb hc hf xc xf xl zc zf zl rc rf rl
  (try clear e3)
  obtain ⟨zc, zf, zl⟩ := block_cells X4
  obtain ⟨rc, rf, rl⟩ := block_cells R4
  have xc := zc
  have xf := zf
  have xl := zl
  go_wp2_with fail
  (refine (wordv_c (Rf.signed z.a 1) _ ).mono ?_; rintro e u5 ⟨rfl, hb⟩; obtain ⟨hc, hf⟩ := Flow.bcell hb; have hz := hb.size; (try simp only [World.size_alloc, World.size_setCell, World.size_drew] at hz); obtain ⟨z0, z1⟩ := Flow.zs2 (show w.heap.size + 2 ≤ u5.heap.size by omega))
  have X5 := (hb.block w.heap.size (by omega)).trans X4
  have R5 := (hb.block (w.heap.size + 1) (by omega)).trans R4
  have B5 : Below w.heap.size w u5 := B4.trans (hb.mono (by omega))
  have y5 : w.heap.size + 1 < u5.heap.size := by omega
  have y5' : w.heap.size < u5.heap.size := by omega
  clear hb hc hf xc xf xl zc zf zl rc rf rl
  (try clear e3)
  obtain ⟨zc, zf, zl⟩ := block_cells X5
  obtain ⟨rc, rf, rl⟩ := block_cells R5
  have xc := zc
  have xf := zf
  have xl := zl
  go_wp2_with fail
  refine Flow.bodyPost_k rfl (fun K hK => ?_)
  simp only [results, Tryz.results19]
  go_simp
  refine hK _ ⟨?_, ?_⟩
  · rfl
  · first
      | exact (((B5.setCell (Nat.le_succ _) _).setCell (Nat.le_succ _) _).setCell (Nat.le_succ _) _).setCell (Nat.le_succ _) _
      | (repeat (first | exact Below.refl _ _ | refine Below.setCell ?_ (by first | omega | (simp <;> omega)) _ | refine Below.alloc ?_ (by first | omega | (simp <;> omega)) _ | refine Below.drew ?_ | refine Below.trans ?_ (Below.mono (by assumption) (by first | omega | (simp <;> omega)))))
set_option maxRecDepth 100000 in
theorem un12_3_8 (to off : Int) (x z : V) (HU : Hid (IsUnC (3 : Int) (8 : Int) to off true)) (HC : Hid (ClipC (8 : Int) x z)) (HL : Hid (z.a.toNat < 256)) (w : World) : Calls Tryz.prog 19 #[iv (3 : Int), iv (8 : Int), iv to, iv off, vv x] w fun e w' => e = .returned (.tuple #[vv (V.word (Rf.signed z.a 8)), .bool true]) ∧ Below w.heap.size w w' := by
  have X0 := heap_alloc2_old w (vcell x) (vcell V.zero)
  have R0 := heap_alloc_new (w.alloc (vcell x)) (vcell V.zero)
  rw [World.size_alloc] at R0
  go_enter Tryz.func19, Tryz.ntmps19
  go_wp2_with fail
  (refine (HU.out _ ).mono ?_; rintro e u1 ⟨rfl, hb⟩; obtain ⟨hc, hf⟩ := Flow.bcell hb; have hz := hb.size; (try simp only [World.size_alloc, World.size_setCell, World.size_drew] at hz); obtain ⟨z0, z1⟩ := Flow.zs2 (show w.heap.size + 2 ≤ u1.heap.size by omega))
  have X1 := (hb.block w.heap.size (by simp <;> omega)).trans X0
  have R1 := (hb.block (w.heap.size + 1) (by simp)).trans R0
  have B1 : Below w.heap.size w u1 := by (repeat (first | exact Below.refl _ _ | refine Below.setCell ?_ (by first | omega | (simp <;> omega)) _ | refine Below.alloc ?_ (by first | omega | (simp <;> omega)) _ | refine Below.drew ?_ | refine Below.trans ?_ (Below.mono (by assumption) (by first | omega | (simp <;> omega)))))
  have y1 : w.heap.size + 1 < u1.heap.size := by omega
  clear X0 R0
  go_wp2_with fail
  (refine (HC.out _ ).mono ?_; rintro e u2 ⟨rfl, hb⟩; obtain ⟨hc, hf⟩ := Flow.bcell hb; have hz := hb.size; (try simp only [World.size_alloc, World.size_setCell, World.size_drew] at hz); obtain ⟨z0, z1⟩ := Flow.zs2 (show w.heap.size + 2 ≤ u2.heap.size by omega))
  have X2 := (hb.block w.heap.size (by omega)).trans X1
  have R2 := (hb.block (w.heap.size + 1) y1).trans R1
  have B2 : Below w.heap.size w u2 := B1.trans (hb.mono (by omega))
  have y2 : w.heap.size + 1 < u2.heap.size := by omega
  clear hb hc hf X1 R1 B1
  obtain ⟨xc, xf, xl⟩ := block_cells X2
  obtain ⟨u3, e3, X3, S3⟩ := store4 X2 0 1 2 3 (uv z.a) (uv z.b) (uv z.c) (uv z.d)
  have R3 := (S3.other (w.heap.size + 1) (by omega)).trans R2
  have B3 : Below w.heap.size w u3 := B2.trans (S3.below _ (Nat.le_refl _))
  have y3 : w.heap.size + 1 < u3.heap.size := by rw [S3.size]; exact y2
  have y3' : w.heap.size < u3.heap.size := by omega
  replace X3 : u3.heap[w.heap.size]? = some (vcell z) := X3
  clear S3 R2 X2
  obtain ⟨zc, zf, zl⟩ := block_cells X3
  obtain ⟨rc, rf, rl⟩ := block_cells R3
  go_wp2_with fail
  (refine (sign8_c z.a HL.out _ ).mono ?_; rintro e u4 ⟨rfl, hb⟩; obtain ⟨hc, hf⟩ := Flow.bcell hb; have hz := hb.size; (try simp only [World.size_alloc, World.size_setCell, World.size_drew] at hz); obtain ⟨z0, z1⟩ := Flow.zs2 (show w.heap.size + 2 ≤ u4.heap.size by omega))
  have X4 := (hb.block w.heap.size (by omega)).trans X3
  have R4 := (hb.block (w.heap.size + 1) (by omega)).trans R3
  have B4 : Below w.heap.size w u4 := B3.trans (hb.mono (by omega))
  have y4 : w.heap.size + 1 < u4.heap.size := by omega
  have y4' : w.heap.size < u4.heap.size := by omega
  clear hb hc hf xc xf xl zc zf zl rc rf rl
  (try clear e3)
  obtain ⟨zc, zf, zl⟩ := block_cells X4
  obtain ⟨rc, rf, rl⟩ := block_cells R4
  have xc := zc
  have xf := zf
  have xl := zl
  go_wp2_with fail
  (refine (wordv_c (Rf.signed z.a 8) _ ).mono ?_; rintro e u5 ⟨rfl, hb⟩; obtain ⟨hc, hf⟩ := Flow.bcell hb; have hz := hb.size; (try simp only [World.size_alloc, World.size_setCell, World.size_drew] at hz); obtain ⟨z0, z1⟩ := Flow.zs2 (show w.heap.size + 2 ≤ u5.heap.size by omega))
  have X5 := (hb.block w.heap.size (by omega)).trans X4
  have R5 := (hb.block (w.heap.size + 1) (by omega)).trans R4
  have B5 : Below w.heap.size w u5 := B4.trans (hb.mono (by omega))
  have y5 : w.heap.size + 1 < u5.heap.size := by omega
  have y5' : w.heap.size < u5.heap.size := by omega
  clear hb hc hf xc xf xl zc zf zl rc rf rl
  (try clear e3)
  obtain ⟨zc, zf, zl⟩ := block_cells X5
  obtain ⟨rc, rf, rl⟩ := block_cells R5
  have xc := zc
  have xf := zf
  have xl := zl
  go_wp2_with fail
  refine Flow.bodyPost_k rfl (fun K hK => ?_)
  simp only [results, Tryz.results19]
  go_simp
  refine hK _ ⟨?_, ?_⟩
  · rfl
  · first
      | exact (((B5.setCell (Nat.le_succ _) _).setCell (Nat.le_succ _) _).setCell (Nat.le_succ _) _).setCell (Nat.le_succ _) _
      | (repeat (first | exact Below.refl _ _ | refine Below.setCell ?_ (by first | omega | (simp <;> omega)) _ | refine Below.alloc ?_ (by first | omega | (simp <;> omega)) _ | refine Below.drew ?_ | refine Below.trans ?_ (Below.mono (by assumption) (by first | omega | (simp <;> omega)))))
set_option maxRecDepth 100000 in
theorem un12_3_16 (to off : Int) (x z : V) (HU : Hid (IsUnC (3 : Int) (16 : Int) to off true)) (HC : Hid (ClipC (16 : Int) x z)) (HL : Hid (z.a.toNat < 65536)) (w : World) : Calls Tryz.prog 19 #[iv (3 : Int), iv (16 : Int), iv to, iv off, vv x] w fun e w' => e = .returned (.tuple #[vv (V.word (Rf.signed z.a 16)), .bool true]) ∧ Below w.heap.size w w' := by
  have X0 := heap_alloc2_old w (vcell x) (vcell V.zero)
  have R0 := heap_alloc_new (w.alloc (vcell x)) (vcell V.zero)
  rw [World.size_alloc] at R0
  go_enter Tryz.func19, Tryz.ntmps19
  go_wp2_with fail
  (refine (HU.out _ ).mono ?_; rintro e u1 ⟨rfl, hb⟩; obtain ⟨hc, hf⟩ := Flow.bcell hb; have hz := hb.size; (try simp only [World.size_alloc, World.size_setCell, World.size_drew] at hz); obtain ⟨z0, z1⟩ := Flow.zs2 (show w.heap.size + 2 ≤ u1.heap.size by omega))
  have X1 := (hb.block w.heap.size (by simp <;> omega)).trans X0
  have R1 := (hb.block (w.heap.size + 1) (by simp)).trans R0
  have B1 : Below w.heap.size w u1 := by (repeat (first | exact Below.refl _ _ | refine Below.setCell ?_ (by first | omega | (simp <;> omega)) _ | refine Below.alloc ?_ (by first | omega | (simp <;> omega)) _ | refine Below.drew ?_ | refine Below.trans ?_ (Below.mono (by assumption) (by first | omega | (simp <;> omega)))))
  have y1 : w.heap.size + 1 < u1.heap.size := by omega
  clear X0 R0
  go_wp2_with fail
  (refine (HC.out _ ).mono ?_; rintro e u2 ⟨rfl, hb⟩; obtain ⟨hc, hf⟩ := Flow.bcell hb; have hz := hb.size; (try simp only [World.size_alloc, World.size_setCell, World.size_drew] at hz); obtain ⟨z0, z1⟩ := Flow.zs2 (show w.heap.size + 2 ≤ u2.heap.size by omega))
  have X2 := (hb.block w.heap.size (by omega)).trans X1
  have R2 := (hb.block (w.heap.size + 1) y1).trans R1
  have B2 : Below w.heap.size w u2 := B1.trans (hb.mono (by omega))
  have y2 : w.heap.size + 1 < u2.heap.size := by omega
  clear hb hc hf X1 R1 B1
  obtain ⟨xc, xf, xl⟩ := block_cells X2
  obtain ⟨u3, e3, X3, S3⟩ := store4 X2 0 1 2 3 (uv z.a) (uv z.b) (uv z.c) (uv z.d)
  have R3 := (S3.other (w.heap.size + 1) (by omega)).trans R2
  have B3 : Below w.heap.size w u3 := B2.trans (S3.below _ (Nat.le_refl _))
  have y3 : w.heap.size + 1 < u3.heap.size := by rw [S3.size]; exact y2
  have y3' : w.heap.size < u3.heap.size := by omega
  replace X3 : u3.heap[w.heap.size]? = some (vcell z) := X3
  clear S3 R2 X2
  obtain ⟨zc, zf, zl⟩ := block_cells X3
  obtain ⟨rc, rf, rl⟩ := block_cells R3
  go_wp2_with fail
  (refine (sign16_c z.a HL.out _ ).mono ?_; rintro e u4 ⟨rfl, hb⟩; obtain ⟨hc, hf⟩ := Flow.bcell hb; have hz := hb.size; (try simp only [World.size_alloc, World.size_setCell, World.size_drew] at hz); obtain ⟨z0, z1⟩ := Flow.zs2 (show w.heap.size + 2 ≤ u4.heap.size by omega))
  have X4 := (hb.block w.heap.size (by omega)).trans X3
  have R4 := (hb.block (w.heap.size + 1) (by omega)).trans R3
  have B4 : Below w.heap.size w u4 := B3.trans (hb.mono (by omega))
  have y4 : w.heap.size + 1 < u4.heap.size := by omega
  have y4' : w.heap.size < u4.heap.size := by omega
  clear hb hc hf xc xf xl zc zf zl rc rf rl
  (try clear e3)
  obtain ⟨zc, zf, zl⟩ := block_cells X4
  obtain ⟨rc, rf, rl⟩ := block_cells R4
  have xc := zc
  have xf := zf
  have xl := zl
  go_wp2_with fail
  (refine (wordv_c (Rf.signed z.a 16) _ ).mono ?_; rintro e u5 ⟨rfl, hb⟩; obtain ⟨hc, hf⟩ := Flow.bcell hb; have hz := hb.size; (try simp only [World.size_alloc, World.size_setCell, World.size_drew] at hz); obtain ⟨z0, z1⟩ := Flow.zs2 (show w.heap.size + 2 ≤ u5.heap.size by omega))
  have X5 := (hb.block w.heap.size (by omega)).trans X4
  have R5 := (hb.block (w.heap.size + 1) (by omega)).trans R4
  have B5 : Below w.heap.size w u5 := B4.trans (hb.mono (by omega))
  have y5 : w.heap.size + 1 < u5.heap.size := by omega
  have y5' : w.heap.size < u5.heap.size := by omega
  clear hb hc hf xc xf xl zc zf zl rc rf rl
  (try clear e3)
  obtain ⟨zc, zf, zl⟩ := block_cells X5
  obtain ⟨rc, rf, rl⟩ := block_cells R5
  have xc := zc
  have xf := zf
  have xl := zl
  go_wp2_with fail
  refine Flow.bodyPost_k rfl (fun K hK => ?_)
  simp only [results, Tryz.results19]
  go_simp
  refine hK _ ⟨?_, ?_⟩
  · rfl
  · first
      | exact (((B5.setCell (Nat.le_succ _) _).setCell (Nat.le_succ _) _).setCell (Nat.le_succ _) _).setCell (Nat.le_succ _) _
      | (repeat (first | exact Below.refl _ _ | refine Below.setCell ?_ (by first | omega | (simp <;> omega)) _ | refine Below.alloc ?_ (by first | omega | (simp <;> omega)) _ | refine Below.drew ?_ | refine Below.trans ?_ (Below.mono (by assumption) (by first | omega | (simp <;> omega)))))
set_option maxRecDepth 100000 in
theorem un12_1 (p to off : Int) (x z : V) (HU : Hid (IsUnC (1 : Int) p to off true)) (HC : Hid (ClipC p x z)) (w : World) : Calls Tryz.prog 19 #[iv (1 : Int), iv p, iv to, iv off, vv x] w fun e w' => e = .returned (.tuple #[vv ((V.neg z).and (Vb.ones to)), .bool true]) ∧ Below w.heap.size w w' := by
  have X0 := heap_alloc2_old w (vcell x) (vcell V.zero)
  have R0 := heap_alloc_new (w.alloc (vcell x)) (vcell V.zero)
  rw [World.size_alloc] at R0
  go_enter Tryz.func19, Tryz.ntmps19
  go_wp2_with fail
  (refine (HU.out _ ).mono ?_; rintro e u1 ⟨rfl, hb⟩; obtain ⟨hc, hf⟩ := Flow.bcell hb; have hz := hb.size; (try simp only [World.size_alloc, World.size_setCell, World.size_drew] at hz); obtain ⟨z0, z1⟩ := Flow.zs2 (show w.heap.size + 2 ≤ u1.heap.size by omega))
  have X1 := (hb.block w.heap.size (by simp <;> omega)).trans X0
  have R1 := (hb.block (w.heap.size + 1) (by simp)).trans R0
  have B1 : Below w.heap.size w u1 := by (repeat (first | exact Below.refl _ _ | refine Below.setCell ?_ (by first | omega | (simp <;> omega)) _ | refine Below.alloc ?_ (by first | omega | (simp <;> omega)) _ | refine Below.drew ?_ | refine Below.trans ?_ (Below.mono (by assumption) (by first | omega | (simp <;> omega)))))
  have y1 : w.heap.size + 1 < u1.heap.size := by omega
  clear X0 R0
  go_wp2_with fail
  (refine (HC.out _ ).mono ?_; rintro e u2 ⟨rfl, hb⟩; obtain ⟨hc, hf⟩ := Flow.bcell hb; have hz := hb.size; (try simp only [World.size_alloc, World.size_setCell, World.size_drew] at hz); obtain ⟨z0, z1⟩ := Flow.zs2 (show w.heap.size + 2 ≤ u2.heap.size by omega))
  have X2 := (hb.block w.heap.size (by omega)).trans X1
  have R2 := (hb.block (w.heap.size + 1) y1).trans R1
  have B2 : Below w.heap.size w u2 := B1.trans (hb.mono (by omega))
  have y2 : w.heap.size + 1 < u2.heap.size := by omega
  clear hb hc hf X1 R1 B1
  obtain ⟨xc, xf, xl⟩ := block_cells X2
  obtain ⟨u3, e3, X3, S3⟩ := store4 X2 0 1 2 3 (uv z.a) (uv z.b) (uv z.c) (uv z.d)
  have R3 := (S3.other (w.heap.size + 1) (by omega)).trans R2
  have B3 : Below w.heap.size w u3 := B2.trans (S3.below _ (Nat.le_refl _))
  have y3 : w.heap.size + 1 < u3.heap.size := by rw [S3.size]; exact y2
  have y3' : w.heap.size < u3.heap.size := by omega
  replace X3 : u3.heap[w.heap.size]? = some (vcell z) := X3
  clear S3 R2 X2
  obtain ⟨zc, zf, zl⟩ := block_cells X3
  obtain ⟨rc, rf, rl⟩ := block_cells R3
  go_wp2_with fail
  (refine (negated_c z _ ).mono ?_; rintro e u4 ⟨rfl, hb⟩; obtain ⟨hc, hf⟩ := Flow.bcell hb; have hz := hb.size; (try simp only [World.size_alloc, World.size_setCell, World.size_drew] at hz); obtain ⟨z0, z1⟩ := Flow.zs2 (show w.heap.size + 2 ≤ u4.heap.size by omega))
  have X4 := (hb.block w.heap.size (by omega)).trans X3
  have R4 := (hb.block (w.heap.size + 1) (by omega)).trans R3
  have B4 : Below w.heap.size w u4 := B3.trans (hb.mono (by omega))
  have y4 : w.heap.size + 1 < u4.heap.size := by omega
  have y4' : w.heap.size < u4.heap.size := by omega
  clear hb hc hf xc xf xl zc zf zl rc rf rl
  (try clear e3)
  obtain ⟨zc, zf, zl⟩ := block_cells X4
  obtain ⟨rc, rf, rl⟩ := block_cells R4
  have xc := zc
  have xf := zf
  have xl := zl
  go_wp2_with fail
  (refine (clip_c to (V.neg z) _ ).mono ?_; rintro e u5 ⟨rfl, hb⟩; obtain ⟨hc, hf⟩ := Flow.bcell hb; have hz := hb.size; (try simp only [World.size_alloc, World.size_setCell, World.size_drew] at hz); obtain ⟨z0, z1⟩ := Flow.zs2 (show w.heap.size + 2 ≤ u5.heap.size by omega))
  have X5 := (hb.block w.heap.size (by omega)).trans X4
  have R5 := (hb.block (w.heap.size + 1) (by omega)).trans R4
  have B5 : Below w.heap.size w u5 := B4.trans (hb.mono (by omega))
  have y5 : w.heap.size + 1 < u5.heap.size := by omega
  have y5' : w.heap.size < u5.heap.size := by omega
  clear hb hc hf xc xf xl zc zf zl rc rf rl
  (try clear e3)
  obtain ⟨zc, zf, zl⟩ := block_cells X5
  obtain ⟨rc, rf, rl⟩ := block_cells R5
  have xc := zc
  have xf := zf
  have xl := zl
  go_wp2_with fail
  refine Flow.bodyPost_k rfl (fun K hK => ?_)
  simp only [results, Tryz.results19]
  go_simp
  refine hK _ ⟨?_, ?_⟩
  · rfl
  · first
      | exact (((B5.setCell (Nat.le_succ _) _).setCell (Nat.le_succ _) _).setCell (Nat.le_succ _) _).setCell (Nat.le_succ _) _
      | (repeat (first | exact Below.refl _ _ | refine Below.setCell ?_ (by first | omega | (simp <;> omega)) _ | refine Below.alloc ?_ (by first | omega | (simp <;> omega)) _ | refine Below.drew ?_ | refine Below.trans ?_ (Below.mono (by assumption) (by first | omega | (simp <;> omega)))))
set_option maxRecDepth 100000 in
theorem un12_5t (p to off : Int) (x z : V) (HU : Hid (IsUnC (5 : Int) p to off true)) (HC : Hid (ClipC p x z)) (hz : decide (z = ⟨0#32, 0#32, 0#32, 0#32⟩) = false) (w : World) : Calls Tryz.prog 19 #[iv (5 : Int), iv p, iv to, iv off, vv x] w fun e w' => e = .returned (.tuple #[vv (Vb.one true), .bool true]) ∧ Below w.heap.size w w' := by
  have X0 := heap_alloc2_old w (vcell x) (vcell V.zero)
  have R0 := heap_alloc_new (w.alloc (vcell x)) (vcell V.zero)
  rw [World.size_alloc] at R0
  go_enter Tryz.func19, Tryz.ntmps19
  go_wp2_with fail
  (refine (HU.out _ ).mono ?_; rintro e u1 ⟨rfl, hb⟩; obtain ⟨hc, hf⟩ := Flow.bcell hb; have hz := hb.size; (try simp only [World.size_alloc, World.size_setCell, World.size_drew] at hz); obtain ⟨z0, z1⟩ := Flow.zs2 (show w.heap.size + 2 ≤ u1.heap.size by omega))
  have X1 := (hb.block w.heap.size (by simp <;> omega)).trans X0
  have R1 := (hb.block (w.heap.size + 1) (by simp)).trans R0
  have B1 : Below w.heap.size w u1 := by (repeat (first | exact Below.refl _ _ | refine Below.setCell ?_ (by first | omega | (simp <;> omega)) _ | refine Below.alloc ?_ (by first | omega | (simp <;> omega)) _ | refine Below.drew ?_ | refine Below.trans ?_ (Below.mono (by assumption) (by first | omega | (simp <;> omega)))))
  have y1 : w.heap.size + 1 < u1.heap.size := by omega
  clear X0 R0
  go_wp2_with fail
  (refine (HC.out _ ).mono ?_; rintro e u2 ⟨rfl, hb⟩; obtain ⟨hc, hf⟩ := Flow.bcell hb; have hz := hb.size; (try simp only [World.size_alloc, World.size_setCell, World.size_drew] at hz); obtain ⟨z0, z1⟩ := Flow.zs2 (show w.heap.size + 2 ≤ u2.heap.size by omega))
  have X2 := (hb.block w.heap.size (by omega)).trans X1
  have R2 := (hb.block (w.heap.size + 1) y1).trans R1
  have B2 : Below w.heap.size w u2 := B1.trans (hb.mono (by omega))
  have y2 : w.heap.size + 1 < u2.heap.size := by omega
  clear hb hc hf X1 R1 B1
  obtain ⟨xc, xf, xl⟩ := block_cells X2
  obtain ⟨u3, e3, X3, S3⟩ := store4 X2 0 1 2 3 (uv z.a) (uv z.b) (uv z.c) (uv z.d)
  have R3 := (S3.other (w.heap.size + 1) (by omega)).trans R2
  have B3 : Below w.heap.size w u3 := B2.trans (S3.below _ (Nat.le_refl _))
  have y3 : w.heap.size + 1 < u3.heap.size := by rw [S3.size]; exact y2
  have y3' : w.heap.size < u3.heap.size := by omega
  replace X3 : u3.heap[w.heap.size]? = some (vcell z) := X3
  clear S3 R2 X2
  obtain ⟨zc, zf, zl⟩ := block_cells X3
  obtain ⟨rc, rf, rl⟩ := block_cells R3
  go_wp2_with fail
  (refine (one12_c true _ ).mono ?_; rintro e u4 ⟨rfl, hb⟩; obtain ⟨hc, hf⟩ := Flow.bcell hb; have hz := hb.size; (try simp only [World.size_alloc, World.size_setCell, World.size_drew] at hz); obtain ⟨z0, z1⟩ := Flow.zs2 (show w.heap.size + 2 ≤ u4.heap.size by omega))
  have X4 := (hb.block w.heap.size (by omega)).trans X3
  have R4 := (hb.block (w.heap.size + 1) (by omega)).trans R3
  have B4 : Below w.heap.size w u4 := B3.trans (hb.mono (by omega))
  have y4 : w.heap.size + 1 < u4.heap.size := by omega
  have y4' : w.heap.size < u4.heap.size := by omega
  clear hb hc hf xc xf xl zc zf zl rc rf rl
  (try clear e3)
  obtain ⟨zc, zf, zl⟩ := block_cells X4
  obtain ⟨rc, rf, rl⟩ := block_cells R4
  have xc := zc
  have xf := zf
  have xl := zl
  go_wp2_with fail
  refine Flow.bodyPost_k rfl (fun K hK => ?_)
  simp only [results, Tryz.results19]
  go_simp
  refine hK _ ⟨?_, ?_⟩
  · rfl
  · first
      | exact (((B4.setCell (Nat.le_succ _) _).setCell (Nat.le_succ _) _).setCell (Nat.le_succ _) _).setCell (Nat.le_succ _) _
      | (repeat (first | exact Below.refl _ _ | refine Below.setCell ?_ (by first | omega | (simp <;> omega)) _ | refine Below.alloc ?_ (by first | omega | (simp <;> omega)) _ | refine Below.drew ?_ | refine Below.trans ?_ (Below.mono (by assumption) (by first | omega | (simp <;> omega)))))
set_option maxRecDepth 100000 in
theorem un12_5f (p to off : Int) (x z : V) (HU : Hid (IsUnC (5 : Int) p to off true)) (HC : Hid (ClipC p x z)) (hz : decide (z = ⟨0#32, 0#32, 0#32, 0#32⟩) = true) (w : World) : Calls Tryz.prog 19 #[iv (5 : Int), iv p, iv to, iv off, vv x] w fun e w' => e = .returned (.tuple #[vv (Vb.one false), .bool true]) ∧ Below w.heap.size w w' := by
  have X0 := heap_alloc2_old w (vcell x) (vcell V.zero)
  have R0 := heap_alloc_new (w.alloc (vcell x)) (vcell V.zero)
  rw [World.size_alloc] at R0
  go_enter Tryz.func19, Tryz.ntmps19
  go_wp2_with fail
  (refine (HU.out _ ).mono ?_; rintro e u1 ⟨rfl, hb⟩; obtain ⟨hc, hf⟩ := Flow.bcell hb; have hz := hb.size; (try simp only [World.size_alloc, World.size_setCell, World.size_drew] at hz); obtain ⟨z0, z1⟩ := Flow.zs2 (show w.heap.size + 2 ≤ u1.heap.size by omega))
  have X1 := (hb.block w.heap.size (by simp <;> omega)).trans X0
  have R1 := (hb.block (w.heap.size + 1) (by simp)).trans R0
  have B1 : Below w.heap.size w u1 := by (repeat (first | exact Below.refl _ _ | refine Below.setCell ?_ (by first | omega | (simp <;> omega)) _ | refine Below.alloc ?_ (by first | omega | (simp <;> omega)) _ | refine Below.drew ?_ | refine Below.trans ?_ (Below.mono (by assumption) (by first | omega | (simp <;> omega)))))
  have y1 : w.heap.size + 1 < u1.heap.size := by omega
  clear X0 R0
  go_wp2_with fail
  (refine (HC.out _ ).mono ?_; rintro e u2 ⟨rfl, hb⟩; obtain ⟨hc, hf⟩ := Flow.bcell hb; have hz := hb.size; (try simp only [World.size_alloc, World.size_setCell, World.size_drew] at hz); obtain ⟨z0, z1⟩ := Flow.zs2 (show w.heap.size + 2 ≤ u2.heap.size by omega))
  have X2 := (hb.block w.heap.size (by omega)).trans X1
  have R2 := (hb.block (w.heap.size + 1) y1).trans R1
  have B2 : Below w.heap.size w u2 := B1.trans (hb.mono (by omega))
  have y2 : w.heap.size + 1 < u2.heap.size := by omega
  clear hb hc hf X1 R1 B1
  obtain ⟨xc, xf, xl⟩ := block_cells X2
  obtain ⟨u3, e3, X3, S3⟩ := store4 X2 0 1 2 3 (uv z.a) (uv z.b) (uv z.c) (uv z.d)
  have R3 := (S3.other (w.heap.size + 1) (by omega)).trans R2
  have B3 : Below w.heap.size w u3 := B2.trans (S3.below _ (Nat.le_refl _))
  have y3 : w.heap.size + 1 < u3.heap.size := by rw [S3.size]; exact y2
  have y3' : w.heap.size < u3.heap.size := by omega
  replace X3 : u3.heap[w.heap.size]? = some (vcell z) := X3
  clear S3 R2 X2
  obtain ⟨zc, zf, zl⟩ := block_cells X3
  obtain ⟨rc, rf, rl⟩ := block_cells R3
  go_wp2_with fail
  (refine (one12_c false _ ).mono ?_; rintro e u4 ⟨rfl, hb⟩; obtain ⟨hc, hf⟩ := Flow.bcell hb; have hz := hb.size; (try simp only [World.size_alloc, World.size_setCell, World.size_drew] at hz); obtain ⟨z0, z1⟩ := Flow.zs2 (show w.heap.size + 2 ≤ u4.heap.size by omega))
  have X4 := (hb.block w.heap.size (by omega)).trans X3
  have R4 := (hb.block (w.heap.size + 1) (by omega)).trans R3
  have B4 : Below w.heap.size w u4 := B3.trans (hb.mono (by omega))
  have y4 : w.heap.size + 1 < u4.heap.size := by omega
  have y4' : w.heap.size < u4.heap.size := by omega
  clear hb hc hf xc xf xl zc zf zl rc rf rl
  (try clear e3)
  obtain ⟨zc, zf, zl⟩ := block_cells X4
  obtain ⟨rc, rf, rl⟩ := block_cells R4
  have xc := zc
  have xf := zf
  have xl := zl
  go_wp2_with fail
  refine Flow.bodyPost_k rfl (fun K hK => ?_)
  simp only [results, Tryz.results19]
  go_simp
  refine hK _ ⟨?_, ?_⟩
  · rfl
  · first
      | exact (((B4.setCell (Nat.le_succ _) _).setCell (Nat.le_succ _) _).setCell (Nat.le_succ _) _).setCell (Nat.le_succ _) _
      | (repeat (first | exact Below.refl _ _ | refine Below.setCell ?_ (by first | omega | (simp <;> omega)) _ | refine Below.alloc ?_ (by first | omega | (simp <;> omega)) _ | refine Below.drew ?_ | refine Below.trans ?_ (Below.mono (by assumption) (by first | omega | (simp <;> omega)))))
set_option maxRecDepth 100000 in
theorem un12_6t (p to off : Int) (x z : V) (HU : Hid (IsUnC (6 : Int) p to off true)) (HC : Hid (ClipC p x z)) (hz : decide (z.a = 1#32) = true) (w : World) : Calls Tryz.prog 19 #[iv (6 : Int), iv p, iv to, iv off, vv x] w fun e w' => e = .returned (.tuple #[vv ((V.neg V.zero).and (Vb.ones to)), .bool true]) ∧ Below w.heap.size w w' := by
  have X0 := heap_alloc2_old w (vcell x) (vcell V.zero)
  have R0 := heap_alloc_new (w.alloc (vcell x)) (vcell V.zero)
  rw [World.size_alloc] at R0
  go_enter Tryz.func19, Tryz.ntmps19
  go_wp2_with fail
  (refine (HU.out _ ).mono ?_; rintro e u1 ⟨rfl, hb⟩; obtain ⟨hc, hf⟩ := Flow.bcell hb; have hz := hb.size; (try simp only [World.size_alloc, World.size_setCell, World.size_drew] at hz); obtain ⟨z0, z1⟩ := Flow.zs2 (show w.heap.size + 2 ≤ u1.heap.size by omega))
  have X1 := (hb.block w.heap.size (by simp <;> omega)).trans X0
  have R1 := (hb.block (w.heap.size + 1) (by simp)).trans R0
  have B1 : Below w.heap.size w u1 := by (repeat (first | exact Below.refl _ _ | refine Below.setCell ?_ (by first | omega | (simp <;> omega)) _ | refine Below.alloc ?_ (by first | omega | (simp <;> omega)) _ | refine Below.drew ?_ | refine Below.trans ?_ (Below.mono (by assumption) (by first | omega | (simp <;> omega)))))
  have y1 : w.heap.size + 1 < u1.heap.size := by omega
  clear X0 R0
  go_wp2_with fail
  (refine (HC.out _ ).mono ?_; rintro e u2 ⟨rfl, hb⟩; obtain ⟨hc, hf⟩ := Flow.bcell hb; have hz := hb.size; (try simp only [World.size_alloc, World.size_setCell, World.size_drew] at hz); obtain ⟨z0, z1⟩ := Flow.zs2 (show w.heap.size + 2 ≤ u2.heap.size by omega))
  have X2 := (hb.block w.heap.size (by omega)).trans X1
  have R2 := (hb.block (w.heap.size + 1) y1).trans R1
  have B2 : Below w.heap.size w u2 := B1.trans (hb.mono (by omega))
  have y2 : w.heap.size + 1 < u2.heap.size := by omega
  clear hb hc hf X1 R1 B1
  obtain ⟨xc, xf, xl⟩ := block_cells X2
  obtain ⟨u3, e3, X3, S3⟩ := store4 X2 0 1 2 3 (uv z.a) (uv z.b) (uv z.c) (uv z.d)
  have R3 := (S3.other (w.heap.size + 1) (by omega)).trans R2
  have B3 : Below w.heap.size w u3 := B2.trans (S3.below _ (Nat.le_refl _))
  have y3 : w.heap.size + 1 < u3.heap.size := by rw [S3.size]; exact y2
  have y3' : w.heap.size < u3.heap.size := by omega
  replace X3 : u3.heap[w.heap.size]? = some (vcell z) := X3
  clear S3 R2 X2
  obtain ⟨zc, zf, zl⟩ := block_cells X3
  obtain ⟨rc, rf, rl⟩ := block_cells R3
  go_wp2_with fail
  (refine (negated_c V.zero _ ).mono ?_; rintro e u4 ⟨rfl, hb⟩; obtain ⟨hc, hf⟩ := Flow.bcell hb; have hz := hb.size; (try simp only [World.size_alloc, World.size_setCell, World.size_drew] at hz); obtain ⟨z0, z1⟩ := Flow.zs2 (show w.heap.size + 2 ≤ u4.heap.size by omega))
  have X4 := (hb.block w.heap.size (by omega)).trans X3
  have R4 := (hb.block (w.heap.size + 1) (by omega)).trans R3
  have B4 : Below w.heap.size w u4 := B3.trans (hb.mono (by omega))
  have y4 : w.heap.size + 1 < u4.heap.size := by omega
  have y4' : w.heap.size < u4.heap.size := by omega
  clear hb hc hf xc xf xl zc zf zl rc rf rl
  (try clear e3)
  obtain ⟨zc, zf, zl⟩ := block_cells X4
  obtain ⟨rc, rf, rl⟩ := block_cells R4
  have xc := zc
  have xf := zf
  have xl := zl
  go_wp2_with fail
  (refine (clip_c to (V.neg V.zero) _ ).mono ?_; rintro e u5 ⟨rfl, hb⟩; obtain ⟨hc, hf⟩ := Flow.bcell hb; have hz := hb.size; (try simp only [World.size_alloc, World.size_setCell, World.size_drew] at hz); obtain ⟨z0, z1⟩ := Flow.zs2 (show w.heap.size + 2 ≤ u5.heap.size by omega))
  have X5 := (hb.block w.heap.size (by omega)).trans X4
  have R5 := (hb.block (w.heap.size + 1) (by omega)).trans R4
  have B5 : Below w.heap.size w u5 := B4.trans (hb.mono (by omega))
  have y5 : w.heap.size + 1 < u5.heap.size := by omega
  have y5' : w.heap.size < u5.heap.size := by omega
  clear hb hc hf xc xf xl zc zf zl rc rf rl
  (try clear e3)
  obtain ⟨zc, zf, zl⟩ := block_cells X5
  obtain ⟨rc, rf, rl⟩ := block_cells R5
  have xc := zc
  have xf := zf
  have xl := zl
  go_wp2_with fail
  refine Flow.bodyPost_k rfl (fun K hK => ?_)
  simp only [results, Tryz.results19]
  go_simp
  refine hK _ ⟨?_, ?_⟩
  · rfl
  · first
      | exact (((B5.setCell (Nat.le_succ _) _).setCell (Nat.le_succ _) _).setCell (Nat.le_succ _) _).setCell (Nat.le_succ _) _
      | (repeat (first | exact Below.refl _ _ | refine Below.setCell ?_ (by first | omega | (simp <;> omega)) _ | refine Below.alloc ?_ (by first | omega | (simp <;> omega)) _ | refine Below.drew ?_ | refine Below.trans ?_ (Below.mono (by assumption) (by first | omega | (simp <;> omega)))))
set_option maxRecDepth 100000 in
theorem un12_6f (p to off : Int) (x z : V) (HU : Hid (IsUnC (6 : Int) p to off true)) (HC : Hid (ClipC p x z)) (hz : decide (z.a = 1#32) = false) (w : World) : Calls Tryz.prog 19 #[iv (6 : Int), iv p, iv to, iv off, vv x] w fun e w' => e = .returned (.tuple #[vv (V.zero), .bool true]) ∧ Below w.heap.size w w' := by
  have X0 := heap_alloc2_old w (vcell x) (vcell V.zero)
  have R0 := heap_alloc_new (w.alloc (vcell x)) (vcell V.zero)
  rw [World.size_alloc] at R0
  go_enter Tryz.func19, Tryz.ntmps19
  go_wp2_with fail
  (refine (HU.out _ ).mono ?_; rintro e u1 ⟨rfl, hb⟩; obtain ⟨hc, hf⟩ := Flow.bcell hb; have hz := hb.size; (try simp only [World.size_alloc, World.size_setCell, World.size_drew] at hz); obtain ⟨z0, z1⟩ := Flow.zs2 (show w.heap.size + 2 ≤ u1.heap.size by omega))
  have X1 := (hb.block w.heap.size (by simp <;> omega)).trans X0
  have R1 := (hb.block (w.heap.size + 1) (by simp)).trans R0
  have B1 : Below w.heap.size w u1 := by (repeat (first | exact Below.refl _ _ | refine Below.setCell ?_ (by first | omega | (simp <;> omega)) _ | refine Below.alloc ?_ (by first | omega | (simp <;> omega)) _ | refine Below.drew ?_ | refine Below.trans ?_ (Below.mono (by assumption) (by first | omega | (simp <;> omega)))))
  have y1 : w.heap.size + 1 < u1.heap.size := by omega
  clear X0 R0
  go_wp2_with fail
  (refine (HC.out _ ).mono ?_; rintro e u2 ⟨rfl, hb⟩; obtain ⟨hc, hf⟩ := Flow.bcell hb; have hz := hb.size; (try simp only [World.size_alloc, World.size_setCell, World.size_drew] at hz); obtain ⟨z0, z1⟩ := Flow.zs2 (show w.heap.size + 2 ≤ u2.heap.size by omega))
  have X2 := (hb.block w.heap.size (by omega)).trans X1
  have R2 := (hb.block (w.heap.size + 1) y1).trans R1
  have B2 : Below w.heap.size w u2 := B1.trans (hb.mono (by omega))
  have y2 : w.heap.size + 1 < u2.heap.size := by omega
  clear hb hc hf X1 R1 B1
  obtain ⟨xc, xf, xl⟩ := block_cells X2
  obtain ⟨u3, e3, X3, S3⟩ := store4 X2 0 1 2 3 (uv z.a) (uv z.b) (uv z.c) (uv z.d)
  have R3 := (S3.other (w.heap.size + 1) (by omega)).trans R2
  have B3 : Below w.heap.size w u3 := B2.trans (S3.below _ (Nat.le_refl _))
  have y3 : w.heap.size + 1 < u3.heap.size := by rw [S3.size]; exact y2
  have y3' : w.heap.size < u3.heap.size := by omega
  replace X3 : u3.heap[w.heap.size]? = some (vcell z) := X3
  clear S3 R2 X2
  obtain ⟨zc, zf, zl⟩ := block_cells X3
  obtain ⟨rc, rf, rl⟩ := block_cells R3
  go_wp2_with fail
  refine Flow.bodyPost_k rfl (fun K hK => ?_)
  simp only [results, Tryz.results19]
  go_simp
  refine hK _ ⟨?_, ?_⟩
  · rfl
  · first
      | exact (((B3.setCell (Nat.le_succ _) _).setCell (Nat.le_succ _) _).setCell (Nat.le_succ _) _).setCell (Nat.le_succ _) _
      | (repeat (first | exact Below.refl _ _ | refine Below.setCell ?_ (by first | omega | (simp <;> omega)) _ | refine Below.alloc ?_ (by first | omega | (simp <;> omega)) _ | refine Below.drew ?_ | refine Below.trans ?_ (Below.mono (by assumption) (by first | omega | (simp <;> omega)))))
set_option maxRecDepth 100000 in
theorem un12_7 (p to off : Int) (x z : V) (HU : Hid (IsUnC (7 : Int) p to off true)) (HC : Hid (ClipC p x z)) (w : World) : Calls Tryz.prog 19 #[iv (7 : Int), iv p, iv to, iv off, vv x] w fun e w' => e = .returned (.tuple #[vv (V.word (Vb.left z.a)), .bool true]) ∧ Below w.heap.size w w' := by
  have X0 := heap_alloc2_old w (vcell x) (vcell V.zero)
  have R0 := heap_alloc_new (w.alloc (vcell x)) (vcell V.zero)
  rw [World.size_alloc] at R0
  go_enter Tryz.func19, Tryz.ntmps19
  go_wp2_with fail
  (refine (HU.out _ ).mono ?_; rintro e u1 ⟨rfl, hb⟩; obtain ⟨hc, hf⟩ := Flow.bcell hb; have hz := hb.size; (try simp only [World.size_alloc, World.size_setCell, World.size_drew] at hz); obtain ⟨z0, z1⟩ := Flow.zs2 (show w.heap.size + 2 ≤ u1.heap.size by omega))
  have X1 := (hb.block w.heap.size (by simp <;> omega)).trans X0
  have R1 := (hb.block (w.heap.size + 1) (by simp)).trans R0
  have B1 : Below w.heap.size w u1 := by (repeat (first | exact Below.refl _ _ | refine Below.setCell ?_ (by first | omega | (simp <;> omega)) _ | refine Below.alloc ?_ (by first | omega | (simp <;> omega)) _ | refine Below.drew ?_ | refine Below.trans ?_ (Below.mono (by assumption) (by first | omega | (simp <;> omega)))))
  have y1 : w.heap.size + 1 < u1.heap.size := by omega
  clear X0 R0
  go_wp2_with fail
  (refine (HC.out _ ).mono ?_; rintro e u2 ⟨rfl, hb⟩; obtain ⟨hc, hf⟩ := Flow.bcell hb; have hz := hb.size; (try simp only [World.size_alloc, World.size_setCell, World.size_drew] at hz); obtain ⟨z0, z1⟩ := Flow.zs2 (show w.heap.size + 2 ≤ u2.heap.size by omega))
  have X2 := (hb.block w.heap.size (by omega)).trans X1
  have R2 := (hb.block (w.heap.size + 1) y1).trans R1
  have B2 : Below w.heap.size w u2 := B1.trans (hb.mono (by omega))
  have y2 : w.heap.size + 1 < u2.heap.size := by omega
  clear hb hc hf X1 R1 B1
  obtain ⟨xc, xf, xl⟩ := block_cells X2
  obtain ⟨u3, e3, X3, S3⟩ := store4 X2 0 1 2 3 (uv z.a) (uv z.b) (uv z.c) (uv z.d)
  have R3 := (S3.other (w.heap.size + 1) (by omega)).trans R2
  have B3 : Below w.heap.size w u3 := B2.trans (S3.below _ (Nat.le_refl _))
  have y3 : w.heap.size + 1 < u3.heap.size := by rw [S3.size]; exact y2
  have y3' : w.heap.size < u3.heap.size := by omega
  replace X3 : u3.heap[w.heap.size]? = some (vcell z) := X3
  clear S3 R2 X2
  obtain ⟨zc, zf, zl⟩ := block_cells X3
  obtain ⟨rc, rf, rl⟩ := block_cells R3
  go_wp2_with fail
  (refine (wordv_c (Vb.left z.a) _ ).mono ?_; rintro e u4 ⟨rfl, hb⟩; obtain ⟨hc, hf⟩ := Flow.bcell hb; have hz := hb.size; (try simp only [World.size_alloc, World.size_setCell, World.size_drew] at hz); obtain ⟨z0, z1⟩ := Flow.zs2 (show w.heap.size + 2 ≤ u4.heap.size by omega))
  have X4 := (hb.block w.heap.size (by omega)).trans X3
  have R4 := (hb.block (w.heap.size + 1) (by omega)).trans R3
  have B4 : Below w.heap.size w u4 := B3.trans (hb.mono (by omega))
  have y4 : w.heap.size + 1 < u4.heap.size := by omega
  have y4' : w.heap.size < u4.heap.size := by omega
  clear hb hc hf xc xf xl zc zf zl rc rf rl
  (try clear e3)
  obtain ⟨zc, zf, zl⟩ := block_cells X4
  obtain ⟨rc, rf, rl⟩ := block_cells R4
  have xc := zc
  have xf := zf
  have xl := zl
  go_wp2_with fail
  refine Flow.bodyPost_k rfl (fun K hK => ?_)
  simp only [results, Tryz.results19]
  go_simp
  refine hK _ ⟨?_, ?_⟩
  · rfl
  · first
      | exact (((B4.setCell (Nat.le_succ _) _).setCell (Nat.le_succ _) _).setCell (Nat.le_succ _) _).setCell (Nat.le_succ _) _
      | (repeat (first | exact Below.refl _ _ | refine Below.setCell ?_ (by first | omega | (simp <;> omega)) _ | refine Below.alloc ?_ (by first | omega | (simp <;> omega)) _ | refine Below.drew ?_ | refine Below.trans ?_ (Below.mono (by assumption) (by first | omega | (simp <;> omega)))))
set_option maxRecDepth 100000 in
theorem un12_11 (p to off : Int) (x z : V) (HU : Hid (IsUnC (11 : Int) p to off true)) (HC : Hid (ClipC p x z)) (w : World) : Calls Tryz.prog 19 #[iv (11 : Int), iv p, iv to, iv off, vv x] w fun e w' => e = .returned (.tuple #[vv (⟨z.a, z.a, z.a, z.a⟩), .bool true]) ∧ Below w.heap.size w w' := by
  have X0 := heap_alloc2_old w (vcell x) (vcell V.zero)
  have R0 := heap_alloc_new (w.alloc (vcell x)) (vcell V.zero)
  rw [World.size_alloc] at R0
  go_enter Tryz.func19, Tryz.ntmps19
  go_wp2_with fail
  (refine (HU.out _ ).mono ?_; rintro e u1 ⟨rfl, hb⟩; obtain ⟨hc, hf⟩ := Flow.bcell hb; have hz := hb.size; (try simp only [World.size_alloc, World.size_setCell, World.size_drew] at hz); obtain ⟨z0, z1⟩ := Flow.zs2 (show w.heap.size + 2 ≤ u1.heap.size by omega))
  have X1 := (hb.block w.heap.size (by simp <;> omega)).trans X0
  have R1 := (hb.block (w.heap.size + 1) (by simp)).trans R0
  have B1 : Below w.heap.size w u1 := by (repeat (first | exact Below.refl _ _ | refine Below.setCell ?_ (by first | omega | (simp <;> omega)) _ | refine Below.alloc ?_ (by first | omega | (simp <;> omega)) _ | refine Below.drew ?_ | refine Below.trans ?_ (Below.mono (by assumption) (by first | omega | (simp <;> omega)))))
  have y1 : w.heap.size + 1 < u1.heap.size := by omega
  clear X0 R0
  go_wp2_with fail
  (refine (HC.out _ ).mono ?_; rintro e u2 ⟨rfl, hb⟩; obtain ⟨hc, hf⟩ := Flow.bcell hb; have hz := hb.size; (try simp only [World.size_alloc, World.size_setCell, World.size_drew] at hz); obtain ⟨z0, z1⟩ := Flow.zs2 (show w.heap.size + 2 ≤ u2.heap.size by omega))
  have X2 := (hb.block w.heap.size (by omega)).trans X1
  have R2 := (hb.block (w.heap.size + 1) y1).trans R1
  have B2 : Below w.heap.size w u2 := B1.trans (hb.mono (by omega))
  have y2 : w.heap.size + 1 < u2.heap.size := by omega
  clear hb hc hf X1 R1 B1
  obtain ⟨xc, xf, xl⟩ := block_cells X2
  obtain ⟨u3, e3, X3, S3⟩ := store4 X2 0 1 2 3 (uv z.a) (uv z.b) (uv z.c) (uv z.d)
  have R3 := (S3.other (w.heap.size + 1) (by omega)).trans R2
  have B3 : Below w.heap.size w u3 := B2.trans (S3.below _ (Nat.le_refl _))
  have y3 : w.heap.size + 1 < u3.heap.size := by rw [S3.size]; exact y2
  have y3' : w.heap.size < u3.heap.size := by omega
  replace X3 : u3.heap[w.heap.size]? = some (vcell z) := X3
  clear S3 R2 X2
  obtain ⟨zc, zf, zl⟩ := block_cells X3
  obtain ⟨rc, rf, rl⟩ := block_cells R3
  go_wp2_with fail
  refine Flow.bodyPost_k rfl (fun K hK => ?_)
  simp only [results, Tryz.results19]
  go_simp
  refine hK _ ⟨?_, ?_⟩
  · rfl
  · first
      | exact (((B3.setCell (Nat.le_succ _) _).setCell (Nat.le_succ _) _).setCell (Nat.le_succ _) _).setCell (Nat.le_succ _) _
      | (repeat (first | exact Below.refl _ _ | refine Below.setCell ?_ (by first | omega | (simp <;> omega)) _ | refine Below.alloc ?_ (by first | omega | (simp <;> omega)) _ | refine Below.drew ?_ | refine Below.trans ?_ (Below.mono (by assumption) (by first | omega | (simp <;> omega)))))
set_option maxRecDepth 100000 in
theorem un12_12_0 (p to : Int) (x z : V) (HU : Hid (IsUnC (12 : Int) p to (0 : Int) true)) (HC : Hid (ClipC p x z)) (w : World) : Calls Tryz.prog 19 #[iv (12 : Int), iv p, iv to, iv (0 : Int), vv x] w fun e w' => e = .returned (.tuple #[vv (V.word z.a), .bool true]) ∧ Below w.heap.size w w' := by
  have X0 := heap_alloc2_old w (vcell x) (vcell V.zero)
  have R0 := heap_alloc_new (w.alloc (vcell x)) (vcell V.zero)
  rw [World.size_alloc] at R0
  go_enter Tryz.func19, Tryz.ntmps19
  go_wp2_with fail
  (refine (HU.out _ ).mono ?_; rintro e u1 ⟨rfl, hb⟩; obtain ⟨hc, hf⟩ := Flow.bcell hb; have hz := hb.size; (try simp only [World.size_alloc, World.size_setCell, World.size_drew] at hz); obtain ⟨z0, z1⟩ := Flow.zs2 (show w.heap.size + 2 ≤ u1.heap.size by omega))
  have X1 := (hb.block w.heap.size (by simp <;> omega)).trans X0
  have R1 := (hb.block (w.heap.size + 1) (by simp)).trans R0
  have B1 : Below w.heap.size w u1 := by (repeat (first | exact Below.refl _ _ | refine Below.setCell ?_ (by first | omega | (simp <;> omega)) _ | refine Below.alloc ?_ (by first | omega | (simp <;> omega)) _ | refine Below.drew ?_ | refine Below.trans ?_ (Below.mono (by assumption) (by first | omega | (simp <;> omega)))))
  have y1 : w.heap.size + 1 < u1.heap.size := by omega
  clear X0 R0
  go_wp2_with fail
  (refine (HC.out _ ).mono ?_; rintro e u2 ⟨rfl, hb⟩; obtain ⟨hc, hf⟩ := Flow.bcell hb; have hz := hb.size; (try simp only [World.size_alloc, World.size_setCell, World.size_drew] at hz); obtain ⟨z0, z1⟩ := Flow.zs2 (show w.heap.size + 2 ≤ u2.heap.size by omega))
  have X2 := (hb.block w.heap.size (by omega)).trans X1
  have R2 := (hb.block (w.heap.size + 1) y1).trans R1
  have B2 : Below w.heap.size w u2 := B1.trans (hb.mono (by omega))
  have y2 : w.heap.size + 1 < u2.heap.size := by omega
  clear hb hc hf X1 R1 B1
  obtain ⟨xc, xf, xl⟩ := block_cells X2
  obtain ⟨u3, e3, X3, S3⟩ := store4 X2 0 1 2 3 (uv z.a) (uv z.b) (uv z.c) (uv z.d)
  have R3 := (S3.other (w.heap.size + 1) (by omega)).trans R2
  have B3 : Below w.heap.size w u3 := B2.trans (S3.below _ (Nat.le_refl _))
  have y3 : w.heap.size + 1 < u3.heap.size := by rw [S3.size]; exact y2
  have y3' : w.heap.size < u3.heap.size := by omega
  replace X3 : u3.heap[w.heap.size]? = some (vcell z) := X3
  clear S3 R2 X2
  obtain ⟨zc, zf, zl⟩ := block_cells X3
  obtain ⟨rc, rf, rl⟩ := block_cells R3
  go_wp2_with fail
  (refine (wordv_c z.a _ ).mono ?_; rintro e u4 ⟨rfl, hb⟩; obtain ⟨hc, hf⟩ := Flow.bcell hb; have hz := hb.size; (try simp only [World.size_alloc, World.size_setCell, World.size_drew] at hz); obtain ⟨z0, z1⟩ := Flow.zs2 (show w.heap.size + 2 ≤ u4.heap.size by omega))
  have X4 := (hb.block w.heap.size (by omega)).trans X3
  have R4 := (hb.block (w.heap.size + 1) (by omega)).trans R3
  have B4 : Below w.heap.size w u4 := B3.trans (hb.mono (by omega))
  have y4 : w.heap.size + 1 < u4.heap.size := by omega
  have y4' : w.heap.size < u4.heap.size := by omega
  clear hb hc hf xc xf xl zc zf zl rc rf rl
  (try clear e3)
  obtain ⟨zc, zf, zl⟩ := block_cells X4
  obtain ⟨rc, rf, rl⟩ := block_cells R4
  have xc := zc
  have xf := zf
  have xl := zl
  go_wp2_with fail
  refine Flow.bodyPost_k rfl (fun K hK => ?_)
  simp only [results, Tryz.results19]
  go_simp
  refine hK _ ⟨?_, ?_⟩
  · rfl
  · first
      | exact (((B4.setCell (Nat.le_succ _) _).setCell (Nat.le_succ _) _).setCell (Nat.le_succ _) _).setCell (Nat.le_succ _) _
      | (repeat (first | exact Below.refl _ _ | refine Below.setCell ?_ (by first | omega | (simp <;> omega)) _ | refine Below.alloc ?_ (by first | omega | (simp <;> omega)) _ | refine Below.drew ?_ | refine Below.trans ?_ (Below.mono (by assumption) (by first | omega | (simp <;> omega)))))
set_option maxRecDepth 100000 in
theorem un12_12_1 (p to : Int) (x z : V) (HU : Hid (IsUnC (12 : Int) p to (1 : Int) true)) (HC : Hid (ClipC p x z)) (w : World) : Calls Tryz.prog 19 #[iv (12 : Int), iv p, iv to, iv (1 : Int), vv x] w fun e w' => e = .returned (.tuple #[vv (V.word z.b), .bool true]) ∧ Below w.heap.size w w' := by
  have X0 := heap_alloc2_old w (vcell x) (vcell V.zero)
  have R0 := heap_alloc_new (w.alloc (vcell x)) (vcell V.zero)
  rw [World.size_alloc] at R0
  go_enter Tryz.func19, Tryz.ntmps19
  go_wp2_with fail
  (refine (HU.out _ ).mono ?_; rintro e u1 ⟨rfl, hb⟩; obtain ⟨hc, hf⟩ := Flow.bcell hb; have hz := hb.size; (try simp only [World.size_alloc, World.size_setCell, World.size_drew] at hz); obtain ⟨z0, z1⟩ := Flow.zs2 (show w.heap.size + 2 ≤ u1.heap.size by omega))
  have X1 := (hb.block w.heap.size (by simp <;> omega)).trans X0
  have R1 := (hb.block (w.heap.size + 1) (by simp)).trans R0
  have B1 : Below w.heap.size w u1 := by (repeat (first | exact Below.refl _ _ | refine Below.setCell ?_ (by first | omega | (simp <;> omega)) _ | refine Below.alloc ?_ (by first | omega | (simp <;> omega)) _ | refine Below.drew ?_ | refine Below.trans ?_ (Below.mono (by assumption) (by first | omega | (simp <;> omega)))))
  have y1 : w.heap.size + 1 < u1.heap.size := by omega
  clear X0 R0
  go_wp2_with fail
  (refine (HC.out _ ).mono ?_; rintro e u2 ⟨rfl, hb⟩; obtain ⟨hc, hf⟩ := Flow.bcell hb; have hz := hb.size; (try simp only [World.size_alloc, World.size_setCell, World.size_drew] at hz); obtain ⟨z0, z1⟩ := Flow.zs2 (show w.heap.size + 2 ≤ u2.heap.size by omega))
  have X2 := (hb.block w.heap.size (by omega)).trans X1
  have R2 := (hb.block (w.heap.size + 1) y1).trans R1
  have B2 : Below w.heap.size w u2 := B1.trans (hb.mono (by omega))
  have y2 : w.heap.size + 1 < u2.heap.size := by omega
  clear hb hc hf X1 R1 B1
  obtain ⟨xc, xf, xl⟩ := block_cells X2
  obtain ⟨u3, e3, X3, S3⟩ := store4 X2 0 1 2 3 (uv z.a) (uv z.b) (uv z.c) (uv z.d)
  have R3 := (S3.other (w.heap.size + 1) (by omega)).trans R2
  have B3 : Below w.heap.size w u3 := B2.trans (S3.below _ (Nat.le_refl _))
  have y3 : w.heap.size + 1 < u3.heap.size := by rw [S3.size]; exact y2
  have y3' : w.heap.size < u3.heap.size := by omega
  replace X3 : u3.heap[w.heap.size]? = some (vcell z) := X3
  clear S3 R2 X2
  obtain ⟨zc, zf, zl⟩ := block_cells X3
  obtain ⟨rc, rf, rl⟩ := block_cells R3
  go_wp2_with fail
  (refine (wordv_c z.b _ ).mono ?_; rintro e u4 ⟨rfl, hb⟩; obtain ⟨hc, hf⟩ := Flow.bcell hb; have hz := hb.size; (try simp only [World.size_alloc, World.size_setCell, World.size_drew] at hz); obtain ⟨z0, z1⟩ := Flow.zs2 (show w.heap.size + 2 ≤ u4.heap.size by omega))
  have X4 := (hb.block w.heap.size (by omega)).trans X3
  have R4 := (hb.block (w.heap.size + 1) (by omega)).trans R3
  have B4 : Below w.heap.size w u4 := B3.trans (hb.mono (by omega))
  have y4 : w.heap.size + 1 < u4.heap.size := by omega
  have y4' : w.heap.size < u4.heap.size := by omega
  clear hb hc hf xc xf xl zc zf zl rc rf rl
  (try clear e3)
  obtain ⟨zc, zf, zl⟩ := block_cells X4
  obtain ⟨rc, rf, rl⟩ := block_cells R4
  have xc := zc
  have xf := zf
  have xl := zl
  go_wp2_with fail
  refine Flow.bodyPost_k rfl (fun K hK => ?_)
  simp only [results, Tryz.results19]
  go_simp
  refine hK _ ⟨?_, ?_⟩
  · rfl
  · first
      | exact (((B4.setCell (Nat.le_succ _) _).setCell (Nat.le_succ _) _).setCell (Nat.le_succ _) _).setCell (Nat.le_succ _) _
      | (repeat (first | exact Below.refl _ _ | refine Below.setCell ?_ (by first | omega | (simp <;> omega)) _ | refine Below.alloc ?_ (by first | omega | (simp <;> omega)) _ | refine Below.drew ?_ | refine Below.trans ?_ (Below.mono (by assumption) (by first | omega | (simp <;> omega)))))
set_option maxRecDepth 100000 in
theorem un12_12_2 (p to : Int) (x z : V) (HU : Hid (IsUnC (12 : Int) p to (2 : Int) true)) (HC : Hid (ClipC p x z)) (w : World) : Calls Tryz.prog 19 #[iv (12 : Int), iv p, iv to, iv (2 : Int), vv x] w fun e w' => e = .returned (.tuple #[vv (V.word z.c), .bool true]) ∧ Below w.heap.size w w' := by
  have X0 := heap_alloc2_old w (vcell x) (vcell V.zero)
  have R0 := heap_alloc_new (w.alloc (vcell x)) (vcell V.zero)
  rw [World.size_alloc] at R0
  go_enter Tryz.func19, Tryz.ntmps19
  go_wp2_with fail
  (refine (HU.out _ ).mono ?_; rintro e u1 ⟨rfl, hb⟩; obtain ⟨hc, hf⟩ := Flow.bcell hb; have hz := hb.size; (try simp only [World.size_alloc, World.size_setCell, World.size_drew] at hz); obtain ⟨z0, z1⟩ := Flow.zs2 (show w.heap.size + 2 ≤ u1.heap.size by omega))
  have X1 := (hb.block w.heap.size (by simp <;> omega)).trans X0
  have R1 := (hb.block (w.heap.size + 1) (by simp)).trans R0
  have B1 : Below w.heap.size w u1 := by (repeat (first | exact Below.refl _ _ | refine Below.setCell ?_ (by first | omega | (simp <;> omega)) _ | refine Below.alloc ?_ (by first | omega | (simp <;> omega)) _ | refine Below.drew ?_ | refine Below.trans ?_ (Below.mono (by assumption) (by first | omega | (simp <;> omega)))))
  have y1 : w.heap.size + 1 < u1.heap.size := by omega
  clear X0 R0
  go_wp2_with fail
  (refine (HC.out _ ).mono ?_; rintro e u2 ⟨rfl, hb⟩; obtain ⟨hc, hf⟩ := Flow.bcell hb; have hz := hb.size; (try simp only [World.size_alloc, World.size_setCell, World.size_drew] at hz); obtain ⟨z0, z1⟩ := Flow.zs2 (show w.heap.size + 2 ≤ u2.heap.size by omega))
  have X2 := (hb.block w.heap.size (by omega)).trans X1
  have R2 := (hb.block (w.heap.size + 1) y1).trans R1
  have B2 : Below w.heap.size w u2 := B1.trans (hb.mono (by omega))
  have y2 : w.heap.size + 1 < u2.heap.size := by omega
  clear hb hc hf X1 R1 B1
  obtain ⟨xc, xf, xl⟩ := block_cells X2
  obtain ⟨u3, e3, X3, S3⟩ := store4 X2 0 1 2 3 (uv z.a) (uv z.b) (uv z.c) (uv z.d)
  have R3 := (S3.other (w.heap.size + 1) (by omega)).trans R2
  have B3 : Below w.heap.size w u3 := B2.trans (S3.below _ (Nat.le_refl _))
  have y3 : w.heap.size + 1 < u3.heap.size := by rw [S3.size]; exact y2
  have y3' : w.heap.size < u3.heap.size := by omega
  replace X3 : u3.heap[w.heap.size]? = some (vcell z) := X3
  clear S3 R2 X2
  obtain ⟨zc, zf, zl⟩ := block_cells X3
  obtain ⟨rc, rf, rl⟩ := block_cells R3
  go_wp2_with fail
  (refine (wordv_c z.c _ ).mono ?_; rintro e u4 ⟨rfl, hb⟩; obtain ⟨hc, hf⟩ := Flow.bcell hb; have hz := hb.size; (try simp only [World.size_alloc, World.size_setCell, World.size_drew] at hz); obtain ⟨z0, z1⟩ := Flow.zs2 (show w.heap.size + 2 ≤ u4.heap.size by omega))
  have X4 := (hb.block w.heap.size (by omega)).trans X3
  have R4 := (hb.block (w.heap.size + 1) (by omega)).trans R3
  have B4 : Below w.heap.size w u4 := B3.trans (hb.mono (by omega))
  have y4 : w.heap.size + 1 < u4.heap.size := by omega
  have y4' : w.heap.size < u4.heap.size := by omega
  clear hb hc hf xc xf xl zc zf zl rc rf rl
  (try clear e3)
  obtain ⟨zc, zf, zl⟩ := block_cells X4
  obtain ⟨rc, rf, rl⟩ := block_cells R4
  have xc := zc
  have xf := zf
  have xl := zl
  go_wp2_with fail
  refine Flow.bodyPost_k rfl (fun K hK => ?_)
  simp only [results, Tryz.results19]
  go_simp
  refine hK _ ⟨?_, ?_⟩
  · rfl
  · first
      | exact (((B4.setCell (Nat.le_succ _) _).setCell (Nat.le_succ _) _).setCell (Nat.le_succ _) _).setCell (Nat.le_succ _) _
      | (repeat (first | exact Below.refl _ _ | refine Below.setCell ?_ (by first | omega | (simp <;> omega)) _ | refine Below.alloc ?_ (by first | omega | (simp <;> omega)) _ | refine Below.drew ?_ | refine Below.trans ?_ (Below.mono (by assumption) (by first | omega | (simp <;> omega)))))
set_option maxRecDepth 100000 in
theorem un12_12_3 (p to : Int) (x z : V) (HU : Hid (IsUnC (12 : Int) p to (3 : Int) true)) (HC : Hid (ClipC p x z)) (w : World) : Calls Tryz.prog 19 #[iv (12 : Int), iv p, iv to, iv (3 : Int), vv x] w fun e w' => e = .returned (.tuple #[vv (V.word z.d), .bool true]) ∧ Below w.heap.size w w' := by
  have X0 := heap_alloc2_old w (vcell x) (vcell V.zero)
  have R0 := heap_alloc_new (w.alloc (vcell x)) (vcell V.zero)
  rw [World.size_alloc] at R0
  go_enter Tryz.func19, Tryz.ntmps19
  go_wp2_with fail
  (refine (HU.out _ ).mono ?_; rintro e u1 ⟨rfl, hb⟩; obtain ⟨hc, hf⟩ := Flow.bcell hb; have hz := hb.size; (try simp only [World.size_alloc, World.size_setCell, World.size_drew] at hz); obtain ⟨z0, z1⟩ := Flow.zs2 (show w.heap.size + 2 ≤ u1.heap.size by omega))
  have X1 := (hb.block w.heap.size (by simp <;> omega)).trans X0
  have R1 := (hb.block (w.heap.size + 1) (by simp)).trans R0
  have B1 : Below w.heap.size w u1 := by (repeat (first | exact Below.refl _ _ | refine Below.setCell ?_ (by first | omega | (simp <;> omega)) _ | refine Below.alloc ?_ (by first | omega | (simp <;> omega)) _ | refine Below.drew ?_ | refine Below.trans ?_ (Below.mono (by assumption) (by first | omega | (simp <;> omega)))))
  have y1 : w.heap.size + 1 < u1.heap.size := by omega
  clear X0 R0
  go_wp2_with fail
  (refine (HC.out _ ).mono ?_; rintro e u2 ⟨rfl, hb⟩; obtain ⟨hc, hf⟩ := Flow.bcell hb; have hz := hb.size; (try simp only [World.size_alloc, World.size_setCell, World.size_drew] at hz); obtain ⟨z0, z1⟩ := Flow.zs2 (show w.heap.size + 2 ≤ u2.heap.size by omega))
  have X2 := (hb.block w.heap.size (by omega)).trans X1
  have R2 := (hb.block (w.heap.size + 1) y1).trans R1
  have B2 : Below w.heap.size w u2 := B1.trans (hb.mono (by omega))
  have y2 : w.heap.size + 1 < u2.heap.size := by omega
  clear hb hc hf X1 R1 B1
  obtain ⟨xc, xf, xl⟩ := block_cells X2
  obtain ⟨u3, e3, X3, S3⟩ := store4 X2 0 1 2 3 (uv z.a) (uv z.b) (uv z.c) (uv z.d)
  have R3 := (S3.other (w.heap.size + 1) (by omega)).trans R2
  have B3 : Below w.heap.size w u3 := B2.trans (S3.below _ (Nat.le_refl _))
  have y3 : w.heap.size + 1 < u3.heap.size := by rw [S3.size]; exact y2
  have y3' : w.heap.size < u3.heap.size := by omega
  replace X3 : u3.heap[w.heap.size]? = some (vcell z) := X3
  clear S3 R2 X2
  obtain ⟨zc, zf, zl⟩ := block_cells X3
  obtain ⟨rc, rf, rl⟩ := block_cells R3
  go_wp2_with fail
  (refine (wordv_c z.d _ ).mono ?_; rintro e u4 ⟨rfl, hb⟩; obtain ⟨hc, hf⟩ := Flow.bcell hb; have hz := hb.size; (try simp only [World.size_alloc, World.size_setCell, World.size_drew] at hz); obtain ⟨z0, z1⟩ := Flow.zs2 (show w.heap.size + 2 ≤ u4.heap.size by omega))
  have X4 := (hb.block w.heap.size (by omega)).trans X3
  have R4 := (hb.block (w.heap.size + 1) (by omega)).trans R3
  have B4 : Below w.heap.size w u4 := B3.trans (hb.mono (by omega))
  have y4 : w.heap.size + 1 < u4.heap.size := by omega
  have y4' : w.heap.size < u4.heap.size := by omega
  clear hb hc hf xc xf xl zc zf zl rc rf rl
  (try clear e3)
  obtain ⟨zc, zf, zl⟩ := block_cells X4
  obtain ⟨rc, rf, rl⟩ := block_cells R4
  have xc := zc
  have xf := zf
  have xl := zl
  go_wp2_with fail
  refine Flow.bodyPost_k rfl (fun K hK => ?_)
  simp only [results, Tryz.results19]
  go_simp
  refine hK _ ⟨?_, ?_⟩
  · rfl
  · first
      | exact (((B4.setCell (Nat.le_succ _) _).setCell (Nat.le_succ _) _).setCell (Nat.le_succ _) _).setCell (Nat.le_succ _) _
      | (repeat (first | exact Below.refl _ _ | refine Below.setCell ?_ (by first | omega | (simp <;> omega)) _ | refine Below.alloc ?_ (by first | omega | (simp <;> omega)) _ | refine Below.drew ?_ | refine Below.trans ?_ (Below.mono (by assumption) (by first | omega | (simp <;> omega)))))
end Go.Proofs.YtboknfppecgjmaaGreat
