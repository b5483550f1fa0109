/- Part 34 of the proof's texts: R12Lane. -/
import Derived.Test.YtboknfppecgjmaaGreatExa23
import Derived.Test.YtboknfppecgjmaaGreatExa24
import Derived.Test.YtboknfppecgjmaaGreatExa33
set_option maxHeartbeats 16000000
namespace Go.Proofs.YtboknfppecgjmaaGreat
set_option linter.unusedVariables false
set_option linter.unusedSimpArgs false
open Go.RowKit Go.Shelf
abbrev LanesC (op d : Int) (x y r : V) : Prop := ∀ w, Calls Tryz.prog 95 #[iv op, iv d, vv x, vv y] w fun e w' => e = .returned (.tuple #[vv r, .bool true]) ∧ Below w.heap.size w w'
set_option maxRecDepth 100000 in
theorem lanes12_c (d : Int) (x r : V) (HL : Hid (LanesC 53 d x V.zero r)) (w : World) : Calls Tryz.prog 49 #[iv d, vv x] w fun e w' => e = .returned (vv (V.neg r)) ∧ Below w.heap.size w w' := by
  have R0 := heap_alloc_new (w.alloc (vcell x)) (vcell V.zero)
  rw [World.size_alloc] at R0
  go_enter Tryz.func49, Tryz.ntmps49
  go_wp2_with fail
  (refine (HL.out _ ).mono ?_; rintro e u1 ⟨rfl, hb⟩; obtain ⟨hc, hf⟩ := Flow.bcell hb; have hz := hb.size; (try simp only [World.size_alloc, World.size_setCell, World.size_drew] at hz); obtain ⟨z0, z1⟩ := Flow.zs2 (show w.heap.size + 2 ≤ u1.heap.size by omega))
  have R1 := (hb.block (w.heap.size + 1) (by simp)).trans R0
  have B1 : Below w.heap.size w u1 := by (repeat (first | exact Below.refl _ _ | refine Below.setCell ?_ (by first | omega | (simp <;> omega)) _ | refine Below.alloc ?_ (by first | omega | (simp <;> omega)) _ | refine Below.drew ?_ | refine Below.trans ?_ (Below.mono (by assumption) (by first | omega | (simp <;> omega)))))
  have y1 : w.heap.size + 1 < u1.heap.size := by omega
  clear R0 hb hc hf
  go_wp2_with fail
  (refine (negated_c r _ ).mono ?_; rintro e u2 ⟨rfl, hb⟩; obtain ⟨hc, hf⟩ := Flow.bcell hb; have hz := hb.size; (try simp only [World.size_alloc, World.size_setCell, World.size_drew] at hz); obtain ⟨z0, z1⟩ := Flow.zs2 (show w.heap.size + 2 ≤ u2.heap.size by omega))
  have R2 := (hb.block (w.heap.size + 1) (by simp <;> omega)).trans ((Below.heap_alloc u1 _ _ y1).trans R1)
  have B2 : Below w.heap.size w u2 := by
    refine (B1.alloc (by omega) _).trans (hb.mono (by simp; omega))
  clear R1 hb hc hf
  obtain ⟨rc, rf, rl⟩ := block_cells R2
  go_wp2_with fail
  refine Flow.bodyPost_k rfl (fun K hK => ?_)
  simp only [results, Tryz.results49]
  go_simp
  refine hK _ ⟨?_, ?_⟩
  · rfl
  · exact (((B2.setCell (Nat.le_succ _) _).setCell (Nat.le_succ _) _).setCell (Nat.le_succ _) _).setCell (Nat.le_succ _) _
set_option maxRecDepth 100000 in
theorem bits12_8 (x y r : V) (HL : Hid (LanesC 54 0 x y r)) (w : World) : Calls Tryz.prog 57 #[iv (8 : Int), vv x, vv y] w fun e w' => e = .returned (vv r) ∧ Below w.heap.size w w' := by
  obtain ⟨X0, Y0, R0⟩ := heap_alloc3 w (vcell x) (vcell y) (vcell V.zero)
  go_enter Tryz.func57, Tryz.ntmps57
  go_wp2_with fail
  (refine (HL.out _ ).mono ?_; rintro e u1 ⟨rfl, hb⟩; obtain ⟨hc, hf⟩ := Flow.bcell hb; have hz := hb.size; (try simp only [World.size_alloc, World.size_setCell, World.size_drew] at hz); obtain ⟨z0, z1⟩ := Flow.zs2 (show w.heap.size + 2 ≤ u1.heap.size by omega))
  have R1 := (hb.block (w.heap.size + 1 + 1) (by simp)).trans R0
  have B1 : Below w.heap.size w u1 := by (repeat (first | exact Below.refl _ _ | refine Below.setCell ?_ (by first | omega | (simp <;> omega)) _ | refine Below.alloc ?_ (by first | omega | (simp <;> omega)) _ | refine Below.drew ?_ | refine Below.trans ?_ (Below.mono (by assumption) (by first | omega | (simp <;> omega)))))
  have y1 : w.heap.size + 1 + 1 < u1.heap.size := by omega
  clear X0 Y0 R0 hb hc hf
  obtain ⟨rc, rf, rl⟩ := block_cells R1
  go_wp2_with fail
  refine Flow.bodyPost_k rfl (fun K hK => ?_)
  simp only [results, Tryz.results57]
  go_simp
  refine hK _ ⟨?_, ?_⟩
  · rfl
  · have hle : w.heap.size ≤ w.heap.size + 1 + 1 := by omega
    (repeat (first | exact B1 | refine Below.setCell ?_ (by first | exact hle | omega | (simp <;> omega)) _ | refine Below.alloc ?_ (by first | omega | (simp <;> omega)) _))
set_option maxRecDepth 100000 in
theorem bits12_9 (x y r : V) (HL : Hid (LanesC 55 0 x y r)) (w : World) : Calls Tryz.prog 57 #[iv (9 : Int), vv x, vv y] w fun e w' => e = .returned (vv r) ∧ Below w.heap.size w w' := by
  obtain ⟨X0, Y0, R0⟩ := heap_alloc3 w (vcell x) (vcell y) (vcell V.zero)
  go_enter Tryz.func57, Tryz.ntmps57
  go_wp2_with fail
  (refine (HL.out _ ).mono ?_; rintro e u1 ⟨rfl, hb⟩; obtain ⟨hc, hf⟩ := Flow.bcell hb; have hz := hb.size; (try simp only [World.size_alloc, World.size_setCell, World.size_drew] at hz); obtain ⟨z0, z1⟩ := Flow.zs2 (show w.heap.size + 2 ≤ u1.heap.size by omega))
  have R1 := (hb.block (w.heap.size + 1 + 1) (by simp)).trans R0
  have B1 : Below w.heap.size w u1 := by (repeat (first | exact Below.refl _ _ | refine Below.setCell ?_ (by first | omega | (simp <;> omega)) _ | refine Below.alloc ?_ (by first | omega | (simp <;> omega)) _ | refine Below.drew ?_ | refine Below.trans ?_ (Below.mono (by assumption) (by first | omega | (simp <;> omega)))))
  have y1 : w.heap.size + 1 + 1 < u1.heap.size := by omega
  clear X0 Y0 R0 hb hc hf
  obtain ⟨rc, rf, rl⟩ := block_cells R1
  go_wp2_with fail
  refine Flow.bodyPost_k rfl (fun K hK => ?_)
  simp only [results, Tryz.results57]
  go_simp
  refine hK _ ⟨?_, ?_⟩
  · rfl
  · have hle : w.heap.size ≤ w.heap.size + 1 + 1 := by omega
    (repeat (first | exact B1 | refine Below.setCell ?_ (by first | exact hle | omega | (simp <;> omega)) _ | refine Below.alloc ?_ (by first | omega | (simp <;> omega)) _))
set_option maxRecDepth 100000 in
theorem bits12_10 (x y r : V) (HL : Hid (LanesC 56 0 x y r)) (w : World) : Calls Tryz.prog 57 #[iv (10 : Int), vv x, vv y] w fun e w' => e = .returned (vv r) ∧ Below w.heap.size w w' := by
  obtain ⟨X0, Y0, R0⟩ := heap_alloc3 w (vcell x) (vcell y) (vcell V.zero)
  go_enter Tryz.func57, Tryz.ntmps57
  go_wp2_with fail
  (refine (HL.out _ ).mono ?_; rintro e u1 ⟨rfl, hb⟩; obtain ⟨hc, hf⟩ := Flow.bcell hb; have hz := hb.size; (try simp only [World.size_alloc, World.size_setCell, World.size_drew] at hz); obtain ⟨z0, z1⟩ := Flow.zs2 (show w.heap.size + 2 ≤ u1.heap.size by omega))
  have R1 := (hb.block (w.heap.size + 1 + 1) (by simp)).trans R0
  have B1 : Below w.heap.size w u1 := by (repeat (first | exact Below.refl _ _ | refine Below.setCell ?_ (by first | omega | (simp <;> omega)) _ | refine Below.alloc ?_ (by first | omega | (simp <;> omega)) _ | refine Below.drew ?_ | refine Below.trans ?_ (Below.mono (by assumption) (by first | omega | (simp <;> omega)))))
  have y1 : w.heap.size + 1 + 1 < u1.heap.size := by omega
  clear X0 Y0 R0 hb hc hf
  obtain ⟨rc, rf, rl⟩ := block_cells R1
  go_wp2_with fail
  refine Flow.bodyPost_k rfl (fun K hK => ?_)
  simp only [results, Tryz.results57]
  go_simp
  refine hK _ ⟨?_, ?_⟩
  · rfl
  · have hle : w.heap.size ≤ w.heap.size + 1 + 1 := by omega
    (repeat (first | exact B1 | refine Below.setCell ?_ (by first | exact hle | omega | (simp <;> omega)) _ | refine Below.alloc ?_ (by first | omega | (simp <;> omega)) _))
set_option maxRecDepth 100000 in
theorem lane12_20 (x y r : V) (HL : Hid (LanesC 51 0 x y r)) (w : World) : Calls Tryz.prog 58 #[iv (20 : Int), vv x, vv y] w fun e w' => e = .returned (vv r) ∧ Below w.heap.size w w' := by
  obtain ⟨X0, Y0, R0⟩ := heap_alloc3 w (vcell x) (vcell y) (vcell V.zero)
  go_enter Tryz.func58, Tryz.ntmps58
  go_wp2_with fail
  (refine (HL.out _ ).mono ?_; rintro e u1 ⟨rfl, hb⟩; obtain ⟨hc, hf⟩ := Flow.bcell hb; have hz := hb.size; (try simp only [World.size_alloc, World.size_setCell, World.size_drew] at hz); obtain ⟨z0, z1⟩ := Flow.zs2 (show w.heap.size + 2 ≤ u1.heap.size by omega))
  have R1 := (hb.block (w.heap.size + 1 + 1) (by simp)).trans R0
  have B1 : Below w.heap.size w u1 := by (repeat (first | exact Below.refl _ _ | refine Below.setCell ?_ (by first | omega | (simp <;> omega)) _ | refine Below.alloc ?_ (by first | omega | (simp <;> omega)) _ | refine Below.drew ?_ | refine Below.trans ?_ (Below.mono (by assumption) (by first | omega | (simp <;> omega)))))
  have y1 : w.heap.size + 1 + 1 < u1.heap.size := by omega
  clear X0 Y0 R0 hb hc hf
  obtain ⟨rc, rf, rl⟩ := block_cells R1
  go_wp2_with fail
  refine Flow.bodyPost_k rfl (fun K hK => ?_)
  simp only [results, Tryz.results58]
  go_simp
  refine hK _ ⟨?_, ?_⟩
  · rfl
  · have hle : w.heap.size ≤ w.heap.size + 1 + 1 := by omega
    (repeat (first | exact B1 | refine Below.setCell ?_ (by first | exact hle | omega | (simp <;> omega)) _ | refine Below.alloc ?_ (by first | omega | (simp <;> omega)) _))
set_option maxRecDepth 100000 in
theorem lane12_21 (x y r : V) (HL : Hid (LanesC 51 1 x y r)) (w : World) : Calls Tryz.prog 58 #[iv (21 : Int), vv x, vv y] w fun e w' => e = .returned (vv r) ∧ Below w.heap.size w w' := by
  obtain ⟨X0, Y0, R0⟩ := heap_alloc3 w (vcell x) (vcell y) (vcell V.zero)
  go_enter Tryz.func58, Tryz.ntmps58
  go_wp2_with fail
  (refine (HL.out _ ).mono ?_; rintro e u1 ⟨rfl, hb⟩; obtain ⟨hc, hf⟩ := Flow.bcell hb; have hz := hb.size; (try simp only [World.size_alloc, World.size_setCell, World.size_drew] at hz); obtain ⟨z0, z1⟩ := Flow.zs2 (show w.heap.size + 2 ≤ u1.heap.size by omega))
  have R1 := (hb.block (w.heap.size + 1 + 1) (by simp)).trans R0
  have B1 : Below w.heap.size w u1 := by (repeat (first | exact Below.refl _ _ | refine Below.setCell ?_ (by first | omega | (simp <;> omega)) _ | refine Below.alloc ?_ (by first | omega | (simp <;> omega)) _ | refine Below.drew ?_ | refine Below.trans ?_ (Below.mono (by assumption) (by first | omega | (simp <;> omega)))))
  have y1 : w.heap.size + 1 + 1 < u1.heap.size := by omega
  clear X0 Y0 R0 hb hc hf
  obtain ⟨rc, rf, rl⟩ := block_cells R1
  go_wp2_with fail
  refine Flow.bodyPost_k rfl (fun K hK => ?_)
  simp only [results, Tryz.results58]
  go_simp
  refine hK _ ⟨?_, ?_⟩
  · rfl
  · have hle : w.heap.size ≤ w.heap.size + 1 + 1 := by omega
    (repeat (first | exact B1 | refine Below.setCell ?_ (by first | exact hle | omega | (simp <;> omega)) _ | refine Below.alloc ?_ (by first | omega | (simp <;> omega)) _))
set_option maxRecDepth 100000 in
theorem lane12_22 (x y r : V) (HL : Hid (LanesC 51 2 x y r)) (w : World) : Calls Tryz.prog 58 #[iv (22 : Int), vv x, vv y] w fun e w' => e = .returned (vv r) ∧ Below w.heap.size w w' := by
  obtain ⟨X0, Y0, R0⟩ := heap_alloc3 w (vcell x) (vcell y) (vcell V.zero)
  go_enter Tryz.func58, Tryz.ntmps58
  go_wp2_with fail
  (refine (HL.out _ ).mono ?_; rintro e u1 ⟨rfl, hb⟩; obtain ⟨hc, hf⟩ := Flow.bcell hb; have hz := hb.size; (try simp only [World.size_alloc, World.size_setCell, World.size_drew] at hz); obtain ⟨z0, z1⟩ := Flow.zs2 (show w.heap.size + 2 ≤ u1.heap.size by omega))
  have R1 := (hb.block (w.heap.size + 1 + 1) (by simp)).trans R0
  have B1 : Below w.heap.size w u1 := by (repeat (first | exact Below.refl _ _ | refine Below.setCell ?_ (by first | omega | (simp <;> omega)) _ | refine Below.alloc ?_ (by first | omega | (simp <;> omega)) _ | refine Below.drew ?_ | refine Below.trans ?_ (Below.mono (by assumption) (by first | omega | (simp <;> omega)))))
  have y1 : w.heap.size + 1 + 1 < u1.heap.size := by omega
  clear X0 Y0 R0 hb hc hf
  obtain ⟨rc, rf, rl⟩ := block_cells R1
  go_wp2_with fail
  refine Flow.bodyPost_k rfl (fun K hK => ?_)
  simp only [results, Tryz.results58]
  go_simp
  refine hK _ ⟨?_, ?_⟩
  · rfl
  · have hle : w.heap.size ≤ w.heap.size + 1 + 1 := by omega
    (repeat (first | exact B1 | refine Below.setCell ?_ (by first | exact hle | omega | (simp <;> omega)) _ | refine Below.alloc ?_ (by first | omega | (simp <;> omega)) _))
set_option maxRecDepth 100000 in
theorem lane12_23 (x y r : V) (HL : Hid (LanesC 52 0 x y r)) (w : World) : Calls Tryz.prog 58 #[iv (23 : Int), vv x, vv y] w fun e w' => e = .returned (vv r) ∧ Below w.heap.size w w' := by
  obtain ⟨X0, Y0, R0⟩ := heap_alloc3 w (vcell x) (vcell y) (vcell V.zero)
  go_enter Tryz.func58, Tryz.ntmps58
  go_wp2_with fail
  (refine (HL.out _ ).mono ?_; rintro e u1 ⟨rfl, hb⟩; obtain ⟨hc, hf⟩ := Flow.bcell hb; have hz := hb.size; (try simp only [World.size_alloc, World.size_setCell, World.size_drew] at hz); obtain ⟨z0, z1⟩ := Flow.zs2 (show w.heap.size + 2 ≤ u1.heap.size by omega))
  have R1 := (hb.block (w.heap.size + 1 + 1) (by simp)).trans R0
  have B1 : Below w.heap.size w u1 := by (repeat (first | exact Below.refl _ _ | refine Below.setCell ?_ (by first | omega | (simp <;> omega)) _ | refine Below.alloc ?_ (by first | omega | (simp <;> omega)) _ | refine Below.drew ?_ | refine Below.trans ?_ (Below.mono (by assumption) (by first | omega | (simp <;> omega)))))
  have y1 : w.heap.size + 1 + 1 < u1.heap.size := by omega
  clear X0 Y0 R0 hb hc hf
  obtain ⟨rc, rf, rl⟩ := block_cells R1
  go_wp2_with fail
  refine Flow.bodyPost_k rfl (fun K hK => ?_)
  simp only [results, Tryz.results58]
  go_simp
  refine hK _ ⟨?_, ?_⟩
  · rfl
  · have hle : w.heap.size ≤ w.heap.size + 1 + 1 := by omega
    (repeat (first | exact B1 | refine Below.setCell ?_ (by first | exact hle | omega | (simp <;> omega)) _ | refine Below.alloc ?_ (by first | omega | (simp <;> omega)) _))
set_option maxRecDepth 100000 in
theorem lane12_24 (x y r : V) (HL : Hid (LanesC 52 1 x y r)) (w : World) : Calls Tryz.prog 58 #[iv (24 : Int), vv x, vv y] w fun e w' => e = .returned (vv r) ∧ Below w.heap.size w w' := by
  obtain ⟨X0, Y0, R0⟩ := heap_alloc3 w (vcell x) (vcell y) (vcell V.zero)
  go_enter Tryz.func58, Tryz.ntmps58
  go_wp2_with fail
  (refine (HL.out _ ).mono ?_; rintro e u1 ⟨rfl, hb⟩; obtain ⟨hc, hf⟩ := Flow.bcell hb; have hz := hb.size; (try simp only [World.size_alloc, World.size_setCell, World.size_drew] at hz); obtain ⟨z0, z1⟩ := Flow.zs2 (show w.heap.size + 2 ≤ u1.heap.size by omega))
  have R1 := (hb.block (w.heap.size + 1 + 1) (by simp)).trans R0
  have B1 : Below w.heap.size w u1 := by (repeat (first | exact Below.refl _ _ | refine Below.setCell ?_ (by first | omega | (simp <;> omega)) _ | refine Below.alloc ?_ (by first | omega | (simp <;> omega)) _ | refine Below.drew ?_ | refine Below.trans ?_ (Below.mono (by assumption) (by first | omega | (simp <;> omega)))))
  have y1 : w.heap.size + 1 + 1 < u1.heap.size := by omega
  clear X0 Y0 R0 hb hc hf
  obtain ⟨rc, rf, rl⟩ := block_cells R1
  go_wp2_with fail
  refine Flow.bodyPost_k rfl (fun K hK => ?_)
  simp only [results, Tryz.results58]
  go_simp
  refine hK _ ⟨?_, ?_⟩
  · rfl
  · have hle : w.heap.size ≤ w.heap.size + 1 + 1 := by omega
    (repeat (first | exact B1 | refine Below.setCell ?_ (by first | exact hle | omega | (simp <;> omega)) _ | refine Below.alloc ?_ (by first | omega | (simp <;> omega)) _))
set_option maxRecDepth 100000 in
theorem lane12_25 (x y r : V) (HL : Hid (LanesC 52 2 x y r)) (w : World) : Calls Tryz.prog 58 #[iv (25 : Int), vv x, vv y] w fun e w' => e = .returned (vv r) ∧ Below w.heap.size w w' := by
  obtain ⟨X0, Y0, R0⟩ := heap_alloc3 w (vcell x) (vcell y) (vcell V.zero)
  go_enter Tryz.func58, Tryz.ntmps58
  go_wp2_with fail
  (refine (HL.out _ ).mono ?_; rintro e u1 ⟨rfl, hb⟩; obtain ⟨hc, hf⟩ := Flow.bcell hb; have hz := hb.size; (try simp only [World.size_alloc, World.size_setCell, World.size_drew] at hz); obtain ⟨z0, z1⟩ := Flow.zs2 (show w.heap.size + 2 ≤ u1.heap.size by omega))
  have R1 := (hb.block (w.heap.size + 1 + 1) (by simp)).trans R0
  have B1 : Below w.heap.size w u1 := by (repeat (first | exact Below.refl _ _ | refine Below.setCell ?_ (by first | omega | (simp <;> omega)) _ | refine Below.alloc ?_ (by first | omega | (simp <;> omega)) _ | refine Below.drew ?_ | refine Below.trans ?_ (Below.mono (by assumption) (by first | omega | (simp <;> omega)))))
  have y1 : w.heap.size + 1 + 1 < u1.heap.size := by omega
  clear X0 Y0 R0 hb hc hf
  obtain ⟨rc, rf, rl⟩ := block_cells R1
  go_wp2_with fail
  refine Flow.bodyPost_k rfl (fun K hK => ?_)
  simp only [results, Tryz.results58]
  go_simp
  refine hK _ ⟨?_, ?_⟩
  · rfl
  · have hle : w.heap.size ≤ w.heap.size + 1 + 1 := by omega
    (repeat (first | exact B1 | refine Below.setCell ?_ (by first | exact hle | omega | (simp <;> omega)) _ | refine Below.alloc ?_ (by first | omega | (simp <;> omega)) _))
set_option maxRecDepth 100000 in
theorem lane12_26 (x y r : V) (HL : Hid (LanesC 53 0 x y r)) (w : World) : Calls Tryz.prog 58 #[iv (26 : Int), vv x, vv y] w fun e w' => e = .returned (vv r) ∧ Below w.heap.size w w' := by
  obtain ⟨X0, Y0, R0⟩ := heap_alloc3 w (vcell x) (vcell y) (vcell V.zero)
  go_enter Tryz.func58, Tryz.ntmps58
  go_wp2_with fail
  (refine (HL.out _ ).mono ?_; rintro e u1 ⟨rfl, hb⟩; obtain ⟨hc, hf⟩ := Flow.bcell hb; have hz := hb.size; (try simp only [World.size_alloc, World.size_setCell, World.size_drew] at hz); obtain ⟨z0, z1⟩ := Flow.zs2 (show w.heap.size + 2 ≤ u1.heap.size by omega))
  have R1 := (hb.block (w.heap.size + 1 + 1) (by simp)).trans R0
  have B1 : Below w.heap.size w u1 := by (repeat (first | exact Below.refl _ _ | refine Below.setCell ?_ (by first | omega | (simp <;> omega)) _ | refine Below.alloc ?_ (by first | omega | (simp <;> omega)) _ | refine Below.drew ?_ | refine Below.trans ?_ (Below.mono (by assumption) (by first | omega | (simp <;> omega)))))
  have y1 : w.heap.size + 1 + 1 < u1.heap.size := by omega
  clear X0 Y0 R0 hb hc hf
  obtain ⟨rc, rf, rl⟩ := block_cells R1
  go_wp2_with fail
  refine Flow.bodyPost_k rfl (fun K hK => ?_)
  simp only [results, Tryz.results58]
  go_simp
  refine hK _ ⟨?_, ?_⟩
  · rfl
  · have hle : w.heap.size ≤ w.heap.size + 1 + 1 := by omega
    (repeat (first | exact B1 | refine Below.setCell ?_ (by first | exact hle | omega | (simp <;> omega)) _ | refine Below.alloc ?_ (by first | omega | (simp <;> omega)) _))
set_option maxRecDepth 100000 in
theorem lane12_27 (x y r : V) (HL : Hid (LanesC 53 1 x y r)) (w : World) : Calls Tryz.prog 58 #[iv (27 : Int), vv x, vv y] w fun e w' => e = .returned (vv r) ∧ Below w.heap.size w w' := by
  obtain ⟨X0, Y0, R0⟩ := heap_alloc3 w (vcell x) (vcell y) (vcell V.zero)
  go_enter Tryz.func58, Tryz.ntmps58
  go_wp2_with fail
  (refine (HL.out _ ).mono ?_; rintro e u1 ⟨rfl, hb⟩; obtain ⟨hc, hf⟩ := Flow.bcell hb; have hz := hb.size; (try simp only [World.size_alloc, World.size_setCell, World.size_drew] at hz); obtain ⟨z0, z1⟩ := Flow.zs2 (show w.heap.size + 2 ≤ u1.heap.size by omega))
  have R1 := (hb.block (w.heap.size + 1 + 1) (by simp)).trans R0
  have B1 : Below w.heap.size w u1 := by (repeat (first | exact Below.refl _ _ | refine Below.setCell ?_ (by first | omega | (simp <;> omega)) _ | refine Below.alloc ?_ (by first | omega | (simp <;> omega)) _ | refine Below.drew ?_ | refine Below.trans ?_ (Below.mono (by assumption) (by first | omega | (simp <;> omega)))))
  have y1 : w.heap.size + 1 + 1 < u1.heap.size := by omega
  clear X0 Y0 R0 hb hc hf
  obtain ⟨rc, rf, rl⟩ := block_cells R1
  go_wp2_with fail
  refine Flow.bodyPost_k rfl (fun K hK => ?_)
  simp only [results, Tryz.results58]
  go_simp
  refine hK _ ⟨?_, ?_⟩
  · rfl
  · have hle : w.heap.size ≤ w.heap.size + 1 + 1 := by omega
    (repeat (first | exact B1 | refine Below.setCell ?_ (by first | exact hle | omega | (simp <;> omega)) _ | refine Below.alloc ?_ (by first | omega | (simp <;> omega)) _))
set_option maxRecDepth 100000 in
theorem lane12_28 (x y r : V) (HL : Hid (LanesC 53 2 x y r)) (w : World) : Calls Tryz.prog 58 #[iv (28 : Int), vv x, vv y] w fun e w' => e = .returned (vv r) ∧ Below w.heap.size w w' := by
  obtain ⟨X0, Y0, R0⟩ := heap_alloc3 w (vcell x) (vcell y) (vcell V.zero)
  go_enter Tryz.func58, Tryz.ntmps58
  go_wp2_with fail
  (refine (HL.out _ ).mono ?_; rintro e u1 ⟨rfl, hb⟩; obtain ⟨hc, hf⟩ := Flow.bcell hb; have hz := hb.size; (try simp only [World.size_alloc, World.size_setCell, World.size_drew] at hz); obtain ⟨z0, z1⟩ := Flow.zs2 (show w.heap.size + 2 ≤ u1.heap.size by omega))
  have R1 := (hb.block (w.heap.size + 1 + 1) (by simp)).trans R0
  have B1 : Below w.heap.size w u1 := by (repeat (first | exact Below.refl _ _ | refine Below.setCell ?_ (by first | omega | (simp <;> omega)) _ | refine Below.alloc ?_ (by first | omega | (simp <;> omega)) _ | refine Below.drew ?_ | refine Below.trans ?_ (Below.mono (by assumption) (by first | omega | (simp <;> omega)))))
  have y1 : w.heap.size + 1 + 1 < u1.heap.size := by omega
  clear X0 Y0 R0 hb hc hf
  obtain ⟨rc, rf, rl⟩ := block_cells R1
  go_wp2_with fail
  refine Flow.bodyPost_k rfl (fun K hK => ?_)
  simp only [results, Tryz.results58]
  go_simp
  refine hK _ ⟨?_, ?_⟩
  · rfl
  · have hle : w.heap.size ≤ w.heap.size + 1 + 1 := by omega
    (repeat (first | exact B1 | refine Below.setCell ?_ (by first | exact hle | omega | (simp <;> omega)) _ | refine Below.alloc ?_ (by first | omega | (simp <;> omega)) _))
set_option maxRecDepth 100000 in
theorem lane12_29 (x y r : V) (HL : Hid (LanesC 57 0 x y r)) (w : World) : Calls Tryz.prog 58 #[iv (29 : Int), vv x, vv y] w fun e w' => e = .returned (vv r) ∧ Below w.heap.size w w' := by
  obtain ⟨X0, Y0, R0⟩ := heap_alloc3 w (vcell x) (vcell y) (vcell V.zero)
  go_enter Tryz.func58, Tryz.ntmps58
  go_wp2_with fail
  (refine (HL.out _ ).mono ?_; rintro e u1 ⟨rfl, hb⟩; obtain ⟨hc, hf⟩ := Flow.bcell hb; have hz := hb.size; (try simp only [World.size_alloc, World.size_setCell, World.size_drew] at hz); obtain ⟨z0, z1⟩ := Flow.zs2 (show w.heap.size + 2 ≤ u1.heap.size by omega))
  have R1 := (hb.block (w.heap.size + 1 + 1) (by simp)).trans R0
  have B1 : Below w.heap.size w u1 := by (repeat (first | exact Below.refl _ _ | refine Below.setCell ?_ (by first | omega | (simp <;> omega)) _ | refine Below.alloc ?_ (by first | omega | (simp <;> omega)) _ | refine Below.drew ?_ | refine Below.trans ?_ (Below.mono (by assumption) (by first | omega | (simp <;> omega)))))
  have y1 : w.heap.size + 1 + 1 < u1.heap.size := by omega
  clear X0 Y0 R0 hb hc hf
  obtain ⟨rc, rf, rl⟩ := block_cells R1
  go_wp2_with fail
  refine Flow.bodyPost_k rfl (fun K hK => ?_)
  simp only [results, Tryz.results58]
  go_simp
  refine hK _ ⟨?_, ?_⟩
  · rfl
  · have hle : w.heap.size ≤ w.heap.size + 1 + 1 := by omega
    (repeat (first | exact B1 | refine Below.setCell ?_ (by first | exact hle | omega | (simp <;> omega)) _ | refine Below.alloc ?_ (by first | omega | (simp <;> omega)) _))
end Go.Proofs.YtboknfppecgjmaaGreat
