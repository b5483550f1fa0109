/- The reference's Bin, walked: the ways with an error. -/
import Derived.Test.YtboknfppecgjmaaGreatRefShuf
import Derived.Test.YtboknfppecgjmaaGreatExpr
namespace Go.Proofs.YtboknfppecgjmaaGreat
set_option linter.unusedVariables false
set_option linter.unusedSimpArgs false
open Go.RowKit Go.Shelf
set_option maxRecDepth 100000 in
set_option maxHeartbeats 4000000 in
theorem validBin_c (op p q to off : Int) (b o cap B O C : Nat) (w : World) (c0 : w.cell? ⟨b, o, none⟩ = some (iv p)) (c1 : w.cell? ⟨b, o + 1, none⟩ = some (iv q)) (H : Atoms2 B O w) :
    Calls Tryz.prog 59 #[.slice (some ⟨b, o, none⟩) 2 cap, .agg #[iv 4, iv to, iv op, iv off, .slice (some ⟨B, O, none⟩) 2 C]] w fun e w' => e = .returned (.bool (Rf.exBin op p q to off != 0)) ∧ Below w.heap.size w w' := by
  obtain ⟨a0, a1, a2, a3, a4, a5, b0, b1, b2, b3, b4, b5⟩ := H
  have l0 := block_lt_of_cell c0
  have l1 := block_lt_of_cell a0
  simp only [] at l0 l1
  have m0 : b < w.heap.size + 1 := by omega
  have m1 : B < w.heap.size + 1 := by omega
  go_enter Tryz.func59, Tryz.ntmps59
  go_wp2_with fail
  (refine (exbin_c op p q to off b o cap B O C _ (by go_simp) (by go_simp) ⟨by go_simp, by go_simp, by go_simp, by go_simp, by go_simp, by go_simp, by go_simp, by go_simp, by go_simp, by go_simp, by go_simp, by go_simp⟩ ).mono ?_; rintro e u1 ⟨rfl, hb⟩; obtain ⟨hc, hf⟩ := Flow.bcell hb; have hz := hb.size; (try simp only [World.size_alloc, World.size_setCell, World.size_drew] at hz); obtain z0 := Flow.zs1 (show w.heap.size + 1 ≤ u1.heap.size by omega))
  go_wp2_with fail
  go_ret
  exact ⟨rfl, by (repeat (first | exact Below.refl _ _ | refine Below.setCell ?_ (by first | omega | (simp <;> omega)) _ | refine Below.alloc ?_ (by first | omega | (simp <;> omega)) _ | refine Below.drew ?_ | refine Below.trans ?_ (Below.mono (by assumption) (by first | omega | (simp <;> omega)))))⟩
set_option maxRecDepth 100000 in
set_option maxHeartbeats 8000000 in
theorem rbin_p_0 (ty off : Int) (x a y b : V) (h1 : (Rf.exBin 30 ty 32 ty off != 0) = false) (w : World) : Calls Tryz.prog 23 #[iv (30 : Int), iv ty, iv off, vv x, vv a, vv y, vv b] w fun e w' => e = .returned (.tuple #[vv (V.zero), iv 1]) ∧ Below w.heap.size w w' := by
  go_enter Tryz.func23, Tryz.ntmps23
  go_wp2_with fail
  (refine (validBin_c 30 ty 32 ty off _ 0 _ _ 0 _ _ (by go_simp) (by go_simp) ⟨by go_simp, by go_simp, by go_simp, by go_simp, by go_simp, by go_simp, by go_simp, by go_simp, by go_simp, by go_simp, by go_simp, by go_simp⟩ ).mono ?_; rintro e u1 ⟨rfl, hb⟩; obtain ⟨hc, hf⟩ := Flow.bcell hb; have hz := hb.size; (try simp only [World.size_alloc, World.size_setCell, World.size_drew] at hz); obtain ⟨z0, z1, z2, z3, z4, z5, z6, z7⟩ := Flow.zs8 (show w.heap.size + 8 ≤ u1.heap.size by omega))
  go_wp2_with fail
  refine Flow.bodyPost_k rfl (fun K hK => ?_)
  simp only [results, Tryz.results23]
  go_simp
  refine hK _ ⟨?_, ?_⟩
  · rfl
  · (repeat (first | exact Below.refl _ _ | refine Below.setCell ?_ (by first | omega | (simp <;> omega)) _ | refine Below.alloc ?_ (by first | omega | (simp <;> omega)) _ | refine Below.drew ?_ | refine Below.trans ?_ (Below.mono (by assumption) (by first | omega | (simp <;> omega)))))
set_option maxRecDepth 100000 in
set_option maxHeartbeats 8000000 in
theorem rbin_p_1 (ty off : Int) (x a y b : V) (h1 : (Rf.exBin 30 ty 32 ty off != 0) = true) (h2 : Vb.is ty x = false) (w : World) : Calls Tryz.prog 23 #[iv (30 : Int), iv ty, iv off, vv x, vv a, vv y, vv b] w fun e w' => e = .returned (.tuple #[vv (V.zero), iv 1]) ∧ Below w.heap.size w w' := by
  go_enter Tryz.func23, Tryz.ntmps23
  go_wp2_with fail
  (refine (validBin_c 30 ty 32 ty off _ 0 _ _ 0 _ _ (by go_simp) (by go_simp) ⟨by go_simp, by go_simp, by go_simp, by go_simp, by go_simp, by go_simp, by go_simp, by go_simp, by go_simp, by go_simp, by go_simp, by go_simp⟩ ).mono ?_; rintro e u1 ⟨rfl, hb⟩; obtain ⟨hc, hf⟩ := Flow.bcell hb; have hz := hb.size; (try simp only [World.size_alloc, World.size_setCell, World.size_drew] at hz); obtain ⟨z0, z1, z2, z3, z4, z5, z6, z7⟩ := Flow.zs8 (show w.heap.size + 8 ≤ u1.heap.size by omega))
  go_wp2_with fail
  (refine (ris_c _ _ _).mono ?_; rintro e u2 ⟨rfl, hb⟩; obtain ⟨hc, hf⟩ := Flow.bcell hb; have hz := hb.size; (try simp only [World.size_alloc, World.size_setCell, World.size_drew] at hz); obtain ⟨z0, z1, z2, z3, z4, z5, z6, z7⟩ := Flow.zs8 (show w.heap.size + 8 ≤ u2.heap.size by omega))
  go_wp2_with fail
  refine Flow.bodyPost_k rfl (fun K hK => ?_)
  simp only [results, Tryz.results23]
  go_simp
  refine hK _ ⟨?_, ?_⟩
  · rfl
  · (repeat (first | exact Below.refl _ _ | refine Below.setCell ?_ (by first | omega | (simp <;> omega)) _ | refine Below.alloc ?_ (by first | omega | (simp <;> omega)) _ | refine Below.drew ?_ | refine Below.trans ?_ (Below.mono (by assumption) (by first | omega | (simp <;> omega)))))
set_option maxRecDepth 100000 in
set_option maxHeartbeats 8000000 in
theorem rbin_p_2 (ty off : Int) (x a y b : V) (h1 : (Rf.exBin 30 ty 32 ty off != 0) = true) (h2 : Vb.is ty x = true) (h3 : Vb.is ty a = false) (w : World) : Calls Tryz.prog 23 #[iv (30 : Int), iv ty, iv off, vv x, vv a, vv y, vv b] w fun e w' => e = .returned (.tuple #[vv (V.zero), iv 1]) ∧ Below w.heap.size w w' := by
  go_enter Tryz.func23, Tryz.ntmps23
  go_wp2_with fail
  (refine (validBin_c 30 ty 32 ty off _ 0 _ _ 0 _ _ (by go_simp) (by go_simp) ⟨by go_simp, by go_simp, by go_simp, by go_simp, by go_simp, by go_simp, by go_simp, by go_simp, by go_simp, by go_simp, by go_simp, by go_simp⟩ ).mono ?_; rintro e u1 ⟨rfl, hb⟩; obtain ⟨hc, hf⟩ := Flow.bcell hb; have hz := hb.size; (try simp only [World.size_alloc, World.size_setCell, World.size_drew] at hz); obtain ⟨z0, z1, z2, z3, z4, z5, z6, z7⟩ := Flow.zs8 (show w.heap.size + 8 ≤ u1.heap.size by omega))
  go_wp2_with fail
  (refine (ris_c _ _ _).mono ?_; rintro e u2 ⟨rfl, hb⟩; obtain ⟨hc, hf⟩ := Flow.bcell hb; have hz := hb.size; (try simp only [World.size_alloc, World.size_setCell, World.size_drew] at hz); obtain ⟨z0, z1, z2, z3, z4, z5, z6, z7⟩ := Flow.zs8 (show w.heap.size + 8 ≤ u2.heap.size by omega))
  go_wp2_with fail
  (refine (ris_c _ _ _).mono ?_; rintro e u3 ⟨rfl, hb⟩; obtain ⟨hc, hf⟩ := Flow.bcell hb; have hz := hb.size; (try simp only [World.size_alloc, World.size_setCell, World.size_drew] at hz); obtain ⟨z0, z1, z2, z3, z4, z5, z6, z7⟩ := Flow.zs8 (show w.heap.size + 8 ≤ u3.heap.size by omega))
  go_wp2_with fail
  refine Flow.bodyPost_k rfl (fun K hK => ?_)
  simp only [results, Tryz.results23]
  go_simp
  refine hK _ ⟨?_, ?_⟩
  · rfl
  · (repeat (first | exact Below.refl _ _ | refine Below.setCell ?_ (by first | omega | (simp <;> omega)) _ | refine Below.alloc ?_ (by first | omega | (simp <;> omega)) _ | refine Below.drew ?_ | refine Below.trans ?_ (Below.mono (by assumption) (by first | omega | (simp <;> omega)))))
set_option maxRecDepth 100000 in
set_option maxHeartbeats 8000000 in
theorem rbin_p_3 (ty off : Int) (x a y b : V) (h1 : (Rf.exBin 30 ty 32 ty off != 0) = true) (h2 : Vb.is ty x = true) (h3 : Vb.is ty a = true) (h4 : Vb.is 32 y = false) (w : World) : Calls Tryz.prog 23 #[iv (30 : Int), iv ty, iv off, vv x, vv a, vv y, vv b] w fun e w' => e = .returned (.tuple #[vv (V.zero), iv 1]) ∧ Below w.heap.size w w' := by
  go_enter Tryz.func23, Tryz.ntmps23
  go_wp2_with fail
  (refine (validBin_c 30 ty 32 ty off _ 0 _ _ 0 _ _ (by go_simp) (by go_simp) ⟨by go_simp, by go_simp, by go_simp, by go_simp, by go_simp, by go_simp, by go_simp, by go_simp, by go_simp, by go_simp, by go_simp, by go_simp⟩ ).mono ?_; rintro e u1 ⟨rfl, hb⟩; obtain ⟨hc, hf⟩ := Flow.bcell hb; have hz := hb.size; (try simp only [World.size_alloc, World.size_setCell, World.size_drew] at hz); obtain ⟨z0, z1, z2, z3, z4, z5, z6, z7⟩ := Flow.zs8 (show w.heap.size + 8 ≤ u1.heap.size by omega))
  go_wp2_with fail
  (refine (ris_c _ _ _).mono ?_; rintro e u2 ⟨rfl, hb⟩; obtain ⟨hc, hf⟩ := Flow.bcell hb; have hz := hb.size; (try simp only [World.size_alloc, World.size_setCell, World.size_drew] at hz); obtain ⟨z0, z1, z2, z3, z4, z5, z6, z7⟩ := Flow.zs8 (show w.heap.size + 8 ≤ u2.heap.size by omega))
  go_wp2_with fail
  (refine (ris_c _ _ _).mono ?_; rintro e u3 ⟨rfl, hb⟩; obtain ⟨hc, hf⟩ := Flow.bcell hb; have hz := hb.size; (try simp only [World.size_alloc, World.size_setCell, World.size_drew] at hz); obtain ⟨z0, z1, z2, z3, z4, z5, z6, z7⟩ := Flow.zs8 (show w.heap.size + 8 ≤ u3.heap.size by omega))
  go_wp2_with fail
  (refine (ris_c _ _ _).mono ?_; rintro e u4 ⟨rfl, hb⟩; obtain ⟨hc, hf⟩ := Flow.bcell hb; have hz := hb.size; (try simp only [World.size_alloc, World.size_setCell, World.size_drew] at hz); obtain ⟨z0, z1, z2, z3, z4, z5, z6, z7⟩ := Flow.zs8 (show w.heap.size + 8 ≤ u4.heap.size by omega))
  go_wp2_with fail
  refine Flow.bodyPost_k rfl (fun K hK => ?_)
  simp only [results, Tryz.results23]
  go_simp
  refine hK _ ⟨?_, ?_⟩
  · rfl
  · (repeat (first | exact Below.refl _ _ | refine Below.setCell ?_ (by first | omega | (simp <;> omega)) _ | refine Below.alloc ?_ (by first | omega | (simp <;> omega)) _ | refine Below.drew ?_ | refine Below.trans ?_ (Below.mono (by assumption) (by first | omega | (simp <;> omega)))))
set_option maxRecDepth 100000 in
set_option maxHeartbeats 8000000 in
theorem rbin_p_4 (ty off : Int) (x a y b : V) (h1 : (Rf.exBin 30 ty 32 ty off != 0) = true) (h2 : Vb.is ty x = true) (h3 : Vb.is ty a = true) (h4 : Vb.is 32 y = true) (h5 : Vb.is 32 b = false) (w : World) : Calls Tryz.prog 23 #[iv (30 : Int), iv ty, iv off, vv x, vv a, vv y, vv b] w fun e w' => e = .returned (.tuple #[vv (V.zero), iv 1]) ∧ Below w.heap.size w w' := by
  go_enter Tryz.func23, Tryz.ntmps23
  go_wp2_with fail
  (refine (validBin_c 30 ty 32 ty off _ 0 _ _ 0 _ _ (by go_simp) (by go_simp) ⟨by go_simp, by go_simp, by go_simp, by go_simp, by go_simp, by go_simp, by go_simp, by go_simp, by go_simp, by go_simp, by go_simp, by go_simp⟩ ).mono ?_; rintro e u1 ⟨rfl, hb⟩; obtain ⟨hc, hf⟩ := Flow.bcell hb; have hz := hb.size; (try simp only [World.size_alloc, World.size_setCell, World.size_drew] at hz); obtain ⟨z0, z1, z2, z3, z4, z5, z6, z7⟩ := Flow.zs8 (show w.heap.size + 8 ≤ u1.heap.size by omega))
  go_wp2_with fail
  (refine (ris_c _ _ _).mono ?_; rintro e u2 ⟨rfl, hb⟩; obtain ⟨hc, hf⟩ := Flow.bcell hb; have hz := hb.size; (try simp only [World.size_alloc, World.size_setCell, World.size_drew] at hz); obtain ⟨z0, z1, z2, z3, z4, z5, z6, z7⟩ := Flow.zs8 (show w.heap.size + 8 ≤ u2.heap.size by omega))
  go_wp2_with fail
  (refine (ris_c _ _ _).mono ?_; rintro e u3 ⟨rfl, hb⟩; obtain ⟨hc, hf⟩ := Flow.bcell hb; have hz := hb.size; (try simp only [World.size_alloc, World.size_setCell, World.size_drew] at hz); obtain ⟨z0, z1, z2, z3, z4, z5, z6, z7⟩ := Flow.zs8 (show w.heap.size + 8 ≤ u3.heap.size by omega))
  go_wp2_with fail
  (refine (ris_c _ _ _).mono ?_; rintro e u4 ⟨rfl, hb⟩; obtain ⟨hc, hf⟩ := Flow.bcell hb; have hz := hb.size; (try simp only [World.size_alloc, World.size_setCell, World.size_drew] at hz); obtain ⟨z0, z1, z2, z3, z4, z5, z6, z7⟩ := Flow.zs8 (show w.heap.size + 8 ≤ u4.heap.size by omega))
  go_wp2_with fail
  (refine (ris_c _ _ _).mono ?_; rintro e u5 ⟨rfl, hb⟩; obtain ⟨hc, hf⟩ := Flow.bcell hb; have hz := hb.size; (try simp only [World.size_alloc, World.size_setCell, World.size_drew] at hz); obtain ⟨z0, z1, z2, z3, z4, z5, z6, z7⟩ := Flow.zs8 (show w.heap.size + 8 ≤ u5.heap.size by omega))
  go_wp2_with fail
  refine Flow.bodyPost_k rfl (fun K hK => ?_)
  simp only [results, Tryz.results23]
  go_simp
  refine hK _ ⟨?_, ?_⟩
  · rfl
  · (repeat (first | exact Below.refl _ _ | refine Below.setCell ?_ (by first | omega | (simp <;> omega)) _ | refine Below.alloc ?_ (by first | omega | (simp <;> omega)) _ | refine Below.drew ?_ | refine Below.trans ?_ (Below.mono (by assumption) (by first | omega | (simp <;> omega)))))
set_option maxRecDepth 100000 in
set_option maxHeartbeats 8000000 in
theorem rbin_c1_0 (ty off : Int) (x a y b : V) (h1 : (Rf.exBin 14 ty ty 1 off != 0) = false) (w : World) : Calls Tryz.prog 23 #[iv (14 : Int), iv ty, iv off, vv x, vv a, vv y, vv b] w fun e w' => e = .returned (.tuple #[vv (V.zero), iv 1]) ∧ Below w.heap.size w w' := by
  go_enter Tryz.func23, Tryz.ntmps23
  go_wp2_with fail
  (refine (validBin_c 14 ty ty 1 off _ 0 _ _ 0 _ _ (by go_simp) (by go_simp) ⟨by go_simp, by go_simp, by go_simp, by go_simp, by go_simp, by go_simp, by go_simp, by go_simp, by go_simp, by go_simp, by go_simp, by go_simp⟩ ).mono ?_; rintro e u1 ⟨rfl, hb⟩; obtain ⟨hc, hf⟩ := Flow.bcell hb; have hz := hb.size; (try simp only [World.size_alloc, World.size_setCell, World.size_drew] at hz); obtain ⟨z0, z1, z2, z3, z4, z5, z6, z7⟩ := Flow.zs8 (show w.heap.size + 8 ≤ u1.heap.size by omega))
  go_wp2_with fail
  refine Flow.bodyPost_k rfl (fun K hK => ?_)
  simp only [results, Tryz.results23]
  go_simp
  refine hK _ ⟨?_, ?_⟩
  · rfl
  · (repeat (first | exact Below.refl _ _ | refine Below.setCell ?_ (by first | omega | (simp <;> omega)) _ | refine Below.alloc ?_ (by first | omega | (simp <;> omega)) _ | refine Below.drew ?_ | refine Below.trans ?_ (Below.mono (by assumption) (by first | omega | (simp <;> omega)))))
set_option maxRecDepth 100000 in
set_option maxHeartbeats 8000000 in
theorem rbin_c1_1 (ty off : Int) (x a y b : V) (h1 : (Rf.exBin 14 ty ty 1 off != 0) = true) (h2 : Vb.is ty x = false) (w : World) : Calls Tryz.prog 23 #[iv (14 : Int), iv ty, iv off, vv x, vv a, vv y, vv b] w fun e w' => e = .returned (.tuple #[vv (V.zero), iv 1]) ∧ Below w.heap.size w w' := by
  go_enter Tryz.func23, Tryz.ntmps23
  go_wp2_with fail
  (refine (validBin_c 14 ty ty 1 off _ 0 _ _ 0 _ _ (by go_simp) (by go_simp) ⟨by go_simp, by go_simp, by go_simp, by go_simp, by go_simp, by go_simp, by go_simp, by go_simp, by go_simp, by go_simp, by go_simp, by go_simp⟩ ).mono ?_; rintro e u1 ⟨rfl, hb⟩; obtain ⟨hc, hf⟩ := Flow.bcell hb; have hz := hb.size; (try simp only [World.size_alloc, World.size_setCell, World.size_drew] at hz); obtain ⟨z0, z1, z2, z3, z4, z5, z6, z7⟩ := Flow.zs8 (show w.heap.size + 8 ≤ u1.heap.size by omega))
  go_wp2_with fail
  (refine (ris_c _ _ _).mono ?_; rintro e u2 ⟨rfl, hb⟩; obtain ⟨hc, hf⟩ := Flow.bcell hb; have hz := hb.size; (try simp only [World.size_alloc, World.size_setCell, World.size_drew] at hz); obtain ⟨z0, z1, z2, z3, z4, z5, z6, z7⟩ := Flow.zs8 (show w.heap.size + 8 ≤ u2.heap.size by omega))
  go_wp2_with fail
  refine Flow.bodyPost_k rfl (fun K hK => ?_)
  simp only [results, Tryz.results23]
  go_simp
  refine hK _ ⟨?_, ?_⟩
  · rfl
  · (repeat (first | exact Below.refl _ _ | refine Below.setCell ?_ (by first | omega | (simp <;> omega)) _ | refine Below.alloc ?_ (by first | omega | (simp <;> omega)) _ | refine Below.drew ?_ | refine Below.trans ?_ (Below.mono (by assumption) (by first | omega | (simp <;> omega)))))
set_option maxRecDepth 100000 in
set_option maxHeartbeats 8000000 in
theorem rbin_c1_2 (ty off : Int) (x a y b : V) (h1 : (Rf.exBin 14 ty ty 1 off != 0) = true) (h2 : Vb.is ty x = true) (h3 : Vb.is ty a = false) (w : World) : Calls Tryz.prog 23 #[iv (14 : Int), iv ty, iv off, vv x, vv a, vv y, vv b] w fun e w' => e = .returned (.tuple #[vv (V.zero), iv 1]) ∧ Below w.heap.size w w' := by
  go_enter Tryz.func23, Tryz.ntmps23
  go_wp2_with fail
  (refine (validBin_c 14 ty ty 1 off _ 0 _ _ 0 _ _ (by go_simp) (by go_simp) ⟨by go_simp, by go_simp, by go_simp, by go_simp, by go_simp, by go_simp, by go_simp, by go_simp, by go_simp, by go_simp, by go_simp, by go_simp⟩ ).mono ?_; rintro e u1 ⟨rfl, hb⟩; obtain ⟨hc, hf⟩ := Flow.bcell hb; have hz := hb.size; (try simp only [World.size_alloc, World.size_setCell, World.size_drew] at hz); obtain ⟨z0, z1, z2, z3, z4, z5, z6, z7⟩ := Flow.zs8 (show w.heap.size + 8 ≤ u1.heap.size by omega))
  go_wp2_with fail
  (refine (ris_c _ _ _).mono ?_; rintro e u2 ⟨rfl, hb⟩; obtain ⟨hc, hf⟩ := Flow.bcell hb; have hz := hb.size; (try simp only [World.size_alloc, World.size_setCell, World.size_drew] at hz); obtain ⟨z0, z1, z2, z3, z4, z5, z6, z7⟩ := Flow.zs8 (show w.heap.size + 8 ≤ u2.heap.size by omega))
  go_wp2_with fail
  (refine (ris_c _ _ _).mono ?_; rintro e u3 ⟨rfl, hb⟩; obtain ⟨hc, hf⟩ := Flow.bcell hb; have hz := hb.size; (try simp only [World.size_alloc, World.size_setCell, World.size_drew] at hz); obtain ⟨z0, z1, z2, z3, z4, z5, z6, z7⟩ := Flow.zs8 (show w.heap.size + 8 ≤ u3.heap.size by omega))
  go_wp2_with fail
  refine Flow.bodyPost_k rfl (fun K hK => ?_)
  simp only [results, Tryz.results23]
  go_simp
  refine hK _ ⟨?_, ?_⟩
  · rfl
  · (repeat (first | exact Below.refl _ _ | refine Below.setCell ?_ (by first | omega | (simp <;> omega)) _ | refine Below.alloc ?_ (by first | omega | (simp <;> omega)) _ | refine Below.drew ?_ | refine Below.trans ?_ (Below.mono (by assumption) (by first | omega | (simp <;> omega)))))
set_option maxRecDepth 100000 in
set_option maxHeartbeats 8000000 in
theorem rbin_c1_3 (ty off : Int) (x a y b : V) (h1 : (Rf.exBin 14 ty ty 1 off != 0) = true) (h2 : Vb.is ty x = true) (h3 : Vb.is ty a = true) (h4 : Vb.is ty y = false) (w : World) : Calls Tryz.prog 23 #[iv (14 : Int), iv ty, iv off, vv x, vv a, vv y, vv b] w fun e w' => e = .returned (.tuple #[vv (V.zero), iv 1]) ∧ Below w.heap.size w w' := by
  go_enter Tryz.func23, Tryz.ntmps23
  go_wp2_with fail
  (refine (validBin_c 14 ty ty 1 off _ 0 _ _ 0 _ _ (by go_simp) (by go_simp) ⟨by go_simp, by go_simp, by go_simp, by go_simp, by go_simp, by go_simp, by go_simp, by go_simp, by go_simp, by go_simp, by go_simp, by go_simp⟩ ).mono ?_; rintro e u1 ⟨rfl, hb⟩; obtain ⟨hc, hf⟩ := Flow.bcell hb; have hz := hb.size; (try simp only [World.size_alloc, World.size_setCell, World.size_drew] at hz); obtain ⟨z0, z1, z2, z3, z4, z5, z6, z7⟩ := Flow.zs8 (show w.heap.size + 8 ≤ u1.heap.size by omega))
  go_wp2_with fail
  (refine (ris_c _ _ _).mono ?_; rintro e u2 ⟨rfl, hb⟩; obtain ⟨hc, hf⟩ := Flow.bcell hb; have hz := hb.size; (try simp only [World.size_alloc, World.size_setCell, World.size_drew] at hz); obtain ⟨z0, z1, z2, z3, z4, z5, z6, z7⟩ := Flow.zs8 (show w.heap.size + 8 ≤ u2.heap.size by omega))
  go_wp2_with fail
  (refine (ris_c _ _ _).mono ?_; rintro e u3 ⟨rfl, hb⟩; obtain ⟨hc, hf⟩ := Flow.bcell hb; have hz := hb.size; (try simp only [World.size_alloc, World.size_setCell, World.size_drew] at hz); obtain ⟨z0, z1, z2, z3, z4, z5, z6, z7⟩ := Flow.zs8 (show w.heap.size + 8 ≤ u3.heap.size by omega))
  go_wp2_with fail
  (refine (ris_c _ _ _).mono ?_; rintro e u4 ⟨rfl, hb⟩; obtain ⟨hc, hf⟩ := Flow.bcell hb; have hz := hb.size; (try simp only [World.size_alloc, World.size_setCell, World.size_drew] at hz); obtain ⟨z0, z1, z2, z3, z4, z5, z6, z7⟩ := Flow.zs8 (show w.heap.size + 8 ≤ u4.heap.size by omega))
  go_wp2_with fail
  refine Flow.bodyPost_k rfl (fun K hK => ?_)
  simp only [results, Tryz.results23]
  go_simp
  refine hK _ ⟨?_, ?_⟩
  · rfl
  · (repeat (first | exact Below.refl _ _ | refine Below.setCell ?_ (by first | omega | (simp <;> omega)) _ | refine Below.alloc ?_ (by first | omega | (simp <;> omega)) _ | refine Below.drew ?_ | refine Below.trans ?_ (Below.mono (by assumption) (by first | omega | (simp <;> omega)))))
set_option maxRecDepth 100000 in
set_option maxHeartbeats 8000000 in
theorem rbin_c1_4 (ty off : Int) (x a y b : V) (h1 : (Rf.exBin 14 ty ty 1 off != 0) = true) (h2 : Vb.is ty x = true) (h3 : Vb.is ty a = true) (h4 : Vb.is ty y = true) (h5 : Vb.is ty b = false) (w : World) : Calls Tryz.prog 23 #[iv (14 : Int), iv ty, iv off, vv x, vv a, vv y, vv b] w fun e w' => e = .returned (.tuple #[vv (V.zero), iv 1]) ∧ Below w.heap.size w w' := by
  go_enter Tryz.func23, Tryz.ntmps23
  go_wp2_with fail
  (refine (validBin_c 14 ty ty 1 off _ 0 _ _ 0 _ _ (by go_simp) (by go_simp) ⟨by go_simp, by go_simp, by go_simp, by go_simp, by go_simp, by go_simp, by go_simp, by go_simp, by go_simp, by go_simp, by go_simp, by go_simp⟩ ).mono ?_; rintro e u1 ⟨rfl, hb⟩; obtain ⟨hc, hf⟩ := Flow.bcell hb; have hz := hb.size; (try simp only [World.size_alloc, World.size_setCell, World.size_drew] at hz); obtain ⟨z0, z1, z2, z3, z4, z5, z6, z7⟩ := Flow.zs8 (show w.heap.size + 8 ≤ u1.heap.size by omega))
  go_wp2_with fail
  (refine (ris_c _ _ _).mono ?_; rintro e u2 ⟨rfl, hb⟩; obtain ⟨hc, hf⟩ := Flow.bcell hb; have hz := hb.size; (try simp only [World.size_alloc, World.size_setCell, World.size_drew] at hz); obtain ⟨z0, z1, z2, z3, z4, z5, z6, z7⟩ := Flow.zs8 (show w.heap.size + 8 ≤ u2.heap.size by omega))
  go_wp2_with fail
  (refine (ris_c _ _ _).mono ?_; rintro e u3 ⟨rfl, hb⟩; obtain ⟨hc, hf⟩ := Flow.bcell hb; have hz := hb.size; (try simp only [World.size_alloc, World.size_setCell, World.size_drew] at hz); obtain ⟨z0, z1, z2, z3, z4, z5, z6, z7⟩ := Flow.zs8 (show w.heap.size + 8 ≤ u3.heap.size by omega))
  go_wp2_with fail
  (refine (ris_c _ _ _).mono ?_; rintro e u4 ⟨rfl, hb⟩; obtain ⟨hc, hf⟩ := Flow.bcell hb; have hz := hb.size; (try simp only [World.size_alloc, World.size_setCell, World.size_drew] at hz); obtain ⟨z0, z1, z2, z3, z4, z5, z6, z7⟩ := Flow.zs8 (show w.heap.size + 8 ≤ u4.heap.size by omega))
  go_wp2_with fail
  (refine (ris_c _ _ _).mono ?_; rintro e u5 ⟨rfl, hb⟩; obtain ⟨hc, hf⟩ := Flow.bcell hb; have hz := hb.size; (try simp only [World.size_alloc, World.size_setCell, World.size_drew] at hz); obtain ⟨z0, z1, z2, z3, z4, z5, z6, z7⟩ := Flow.zs8 (show w.heap.size + 8 ≤ u5.heap.size by omega))
  go_wp2_with fail
  refine Flow.bodyPost_k rfl (fun K hK => ?_)
  simp only [results, Tryz.results23]
  go_simp
  refine hK _ ⟨?_, ?_⟩
  · rfl
  · (repeat (first | exact Below.refl _ _ | refine Below.setCell ?_ (by first | omega | (simp <;> omega)) _ | refine Below.alloc ?_ (by first | omega | (simp <;> omega)) _ | refine Below.drew ?_ | refine Below.trans ?_ (Below.mono (by assumption) (by first | omega | (simp <;> omega)))))
set_option maxRecDepth 100000 in
set_option maxHeartbeats 8000000 in
theorem rbin_c2_0 (ty off : Int) (x a y b : V) (h1 : (Rf.exBin 15 ty ty 1 off != 0) = false) (w : World) : Calls Tryz.prog 23 #[iv (15 : Int), iv ty, iv off, vv x, vv a, vv y, vv b] w fun e w' => e = .returned (.tuple #[vv (V.zero), iv 1]) ∧ Below w.heap.size w w' := by
  go_enter Tryz.func23, Tryz.ntmps23
  go_wp2_with fail
  (refine (validBin_c 15 ty ty 1 off _ 0 _ _ 0 _ _ (by go_simp) (by go_simp) ⟨by go_simp, by go_simp, by go_simp, by go_simp, by go_simp, by go_simp, by go_simp, by go_simp, by go_simp, by go_simp, by go_simp, by go_simp⟩ ).mono ?_; rintro e u1 ⟨rfl, hb⟩; obtain ⟨hc, hf⟩ := Flow.bcell hb; have hz := hb.size; (try simp only [World.size_alloc, World.size_setCell, World.size_drew] at hz); obtain ⟨z0, z1, z2, z3, z4, z5, z6, z7⟩ := Flow.zs8 (show w.heap.size + 8 ≤ u1.heap.size by omega))
  go_wp2_with fail
  refine Flow.bodyPost_k rfl (fun K hK => ?_)
  simp only [results, Tryz.results23]
  go_simp
  refine hK _ ⟨?_, ?_⟩
  · rfl
  · (repeat (first | exact Below.refl _ _ | refine Below.setCell ?_ (by first | omega | (simp <;> omega)) _ | refine Below.alloc ?_ (by first | omega | (simp <;> omega)) _ | refine Below.drew ?_ | refine Below.trans ?_ (Below.mono (by assumption) (by first | omega | (simp <;> omega)))))
set_option maxRecDepth 100000 in
set_option maxHeartbeats 8000000 in
theorem rbin_c2_1 (ty off : Int) (x a y b : V) (h1 : (Rf.exBin 15 ty ty 1 off != 0) = true) (h2 : Vb.is ty x = false) (w : World) : Calls Tryz.prog 23 #[iv (15 : Int), iv ty, iv off, vv x, vv a, vv y, vv b] w fun e w' => e = .returned (.tuple #[vv (V.zero), iv 1]) ∧ Below w.heap.size w w' := by
  go_enter Tryz.func23, Tryz.ntmps23
  go_wp2_with fail
  (refine (validBin_c 15 ty ty 1 off _ 0 _ _ 0 _ _ (by go_simp) (by go_simp) ⟨by go_simp, by go_simp, by go_simp, by go_simp, by go_simp, by go_simp, by go_simp, by go_simp, by go_simp, by go_simp, by go_simp, by go_simp⟩ ).mono ?_; rintro e u1 ⟨rfl, hb⟩; obtain ⟨hc, hf⟩ := Flow.bcell hb; have hz := hb.size; (try simp only [World.size_alloc, World.size_setCell, World.size_drew] at hz); obtain ⟨z0, z1, z2, z3, z4, z5, z6, z7⟩ := Flow.zs8 (show w.heap.size + 8 ≤ u1.heap.size by omega))
  go_wp2_with fail
  (refine (ris_c _ _ _).mono ?_; rintro e u2 ⟨rfl, hb⟩; obtain ⟨hc, hf⟩ := Flow.bcell hb; have hz := hb.size; (try simp only [World.size_alloc, World.size_setCell, World.size_drew] at hz); obtain ⟨z0, z1, z2, z3, z4, z5, z6, z7⟩ := Flow.zs8 (show w.heap.size + 8 ≤ u2.heap.size by omega))
  go_wp2_with fail
  refine Flow.bodyPost_k rfl (fun K hK => ?_)
  simp only [results, Tryz.results23]
  go_simp
  refine hK _ ⟨?_, ?_⟩
  · rfl
  · (repeat (first | exact Below.refl _ _ | refine Below.setCell ?_ (by first | omega | (simp <;> omega)) _ | refine Below.alloc ?_ (by first | omega | (simp <;> omega)) _ | refine Below.drew ?_ | refine Below.trans ?_ (Below.mono (by assumption) (by first | omega | (simp <;> omega)))))
set_option maxRecDepth 100000 in
set_option maxHeartbeats 8000000 in
theorem rbin_c2_2 (ty off : Int) (x a y b : V) (h1 : (Rf.exBin 15 ty ty 1 off != 0) = true) (h2 : Vb.is ty x = true) (h3 : Vb.is ty a = false) (w : World) : Calls Tryz.prog 23 #[iv (15 : Int), iv ty, iv off, vv x, vv a, vv y, vv b] w fun e w' => e = .returned (.tuple #[vv (V.zero), iv 1]) ∧ Below w.heap.size w w' := by
  go_enter Tryz.func23, Tryz.ntmps23
  go_wp2_with fail
  (refine (validBin_c 15 ty ty 1 off _ 0 _ _ 0 _ _ (by go_simp) (by go_simp) ⟨by go_simp, by go_simp, by go_simp, by go_simp, by go_simp, by go_simp, by go_simp, by go_simp, by go_simp, by go_simp, by go_simp, by go_simp⟩ ).mono ?_; rintro e u1 ⟨rfl, hb⟩; obtain ⟨hc, hf⟩ := Flow.bcell hb; have hz := hb.size; (try simp only [World.size_alloc, World.size_setCell, World.size_drew] at hz); obtain ⟨z0, z1, z2, z3, z4, z5, z6, z7⟩ := Flow.zs8 (show w.heap.size + 8 ≤ u1.heap.size by omega))
  go_wp2_with fail
  (refine (ris_c _ _ _).mono ?_; rintro e u2 ⟨rfl, hb⟩; obtain ⟨hc, hf⟩ := Flow.bcell hb; have hz := hb.size; (try simp only [World.size_alloc, World.size_setCell, World.size_drew] at hz); obtain ⟨z0, z1, z2, z3, z4, z5, z6, z7⟩ := Flow.zs8 (show w.heap.size + 8 ≤ u2.heap.size by omega))
  go_wp2_with fail
  (refine (ris_c _ _ _).mono ?_; rintro e u3 ⟨rfl, hb⟩; obtain ⟨hc, hf⟩ := Flow.bcell hb; have hz := hb.size; (try simp only [World.size_alloc, World.size_setCell, World.size_drew] at hz); obtain ⟨z0, z1, z2, z3, z4, z5, z6, z7⟩ := Flow.zs8 (show w.heap.size + 8 ≤ u3.heap.size by omega))
  go_wp2_with fail
  refine Flow.bodyPost_k rfl (fun K hK => ?_)
  simp only [results, Tryz.results23]
  go_simp
  refine hK _ ⟨?_, ?_⟩
  · rfl
  · (repeat (first | exact Below.refl _ _ | refine Below.setCell ?_ (by first | omega | (simp <;> omega)) _ | refine Below.alloc ?_ (by first | omega | (simp <;> omega)) _ | refine Below.drew ?_ | refine Below.trans ?_ (Below.mono (by assumption) (by first | omega | (simp <;> omega)))))
set_option maxRecDepth 100000 in
set_option maxHeartbeats 8000000 in
theorem rbin_c2_3 (ty off : Int) (x a y b : V) (h1 : (Rf.exBin 15 ty ty 1 off != 0) = true) (h2 : Vb.is ty x = true) (h3 : Vb.is ty a = true) (h4 : Vb.is ty y = false) (w : World) : Calls Tryz.prog 23 #[iv (15 : Int), iv ty, iv off, vv x, vv a, vv y, vv b] w fun e w' => e = .returned (.tuple #[vv (V.zero), iv 1]) ∧ Below w.heap.size w w' := by
  go_enter Tryz.func23, Tryz.ntmps23
  go_wp2_with fail
  (refine (validBin_c 15 ty ty 1 off _ 0 _ _ 0 _ _ (by go_simp) (by go_simp) ⟨by go_simp, by go_simp, by go_simp, by go_simp, by go_simp, by go_simp, by go_simp, by go_simp, by go_simp, by go_simp, by go_simp, by go_simp⟩ ).mono ?_; rintro e u1 ⟨rfl, hb⟩; obtain ⟨hc, hf⟩ := Flow.bcell hb; have hz := hb.size; (try simp only [World.size_alloc, World.size_setCell, World.size_drew] at hz); obtain ⟨z0, z1, z2, z3, z4, z5, z6, z7⟩ := Flow.zs8 (show w.heap.size + 8 ≤ u1.heap.size by omega))
  go_wp2_with fail
  (refine (ris_c _ _ _).mono ?_; rintro e u2 ⟨rfl, hb⟩; obtain ⟨hc, hf⟩ := Flow.bcell hb; have hz := hb.size; (try simp only [World.size_alloc, World.size_setCell, World.size_drew] at hz); obtain ⟨z0, z1, z2, z3, z4, z5, z6, z7⟩ := Flow.zs8 (show w.heap.size + 8 ≤ u2.heap.size by omega))
  go_wp2_with fail
  (refine (ris_c _ _ _).mono ?_; rintro e u3 ⟨rfl, hb⟩; obtain ⟨hc, hf⟩ := Flow.bcell hb; have hz := hb.size; (try simp only [World.size_alloc, World.size_setCell, World.size_drew] at hz); obtain ⟨z0, z1, z2, z3, z4, z5, z6, z7⟩ := Flow.zs8 (show w.heap.size + 8 ≤ u3.heap.size by omega))
  go_wp2_with fail
  (refine (ris_c _ _ _).mono ?_; rintro e u4 ⟨rfl, hb⟩; obtain ⟨hc, hf⟩ := Flow.bcell hb; have hz := hb.size; (try simp only [World.size_alloc, World.size_setCell, World.size_drew] at hz); obtain ⟨z0, z1, z2, z3, z4, z5, z6, z7⟩ := Flow.zs8 (show w.heap.size + 8 ≤ u4.heap.size by omega))
  go_wp2_with fail
  refine Flow.bodyPost_k rfl (fun K hK => ?_)
  simp only [results, Tryz.results23]
  go_simp
  refine hK _ ⟨?_, ?_⟩
  · rfl
  · (repeat (first | exact Below.refl _ _ | refine Below.setCell ?_ (by first | omega | (simp <;> omega)) _ | refine Below.alloc ?_ (by first | omega | (simp <;> omega)) _ | refine Below.drew ?_ | refine Below.trans ?_ (Below.mono (by assumption) (by first | omega | (simp <;> omega)))))
set_option maxRecDepth 100000 in
set_option maxHeartbeats 8000000 in
theorem rbin_c2_4 (ty off : Int) (x a y b : V) (h1 : (Rf.exBin 15 ty ty 1 off != 0) = true) (h2 : Vb.is ty x = true) (h3 : Vb.is ty a = true) (h4 : Vb.is ty y = true) (h5 : Vb.is ty b = false) (w : World) : Calls Tryz.prog 23 #[iv (15 : Int), iv ty, iv off, vv x, vv a, vv y, vv b] w fun e w' => e = .returned (.tuple #[vv (V.zero), iv 1]) ∧ Below w.heap.size w w' := by
  go_enter Tryz.func23, Tryz.ntmps23
  go_wp2_with fail
  (refine (validBin_c 15 ty ty 1 off _ 0 _ _ 0 _ _ (by go_simp) (by go_simp) ⟨by go_simp, by go_simp, by go_simp, by go_simp, by go_simp, by go_simp, by go_simp, by go_simp, by go_simp, by go_simp, by go_simp, by go_simp⟩ ).mono ?_; rintro e u1 ⟨rfl, hb⟩; obtain ⟨hc, hf⟩ := Flow.bcell hb; have hz := hb.size; (try simp only [World.size_alloc, World.size_setCell, World.size_drew] at hz); obtain ⟨z0, z1, z2, z3, z4, z5, z6, z7⟩ := Flow.zs8 (show w.heap.size + 8 ≤ u1.heap.size by omega))
  go_wp2_with fail
  (refine (ris_c _ _ _).mono ?_; rintro e u2 ⟨rfl, hb⟩; obtain ⟨hc, hf⟩ := Flow.bcell hb; have hz := hb.size; (try simp only [World.size_alloc, World.size_setCell, World.size_drew] at hz); obtain ⟨z0, z1, z2, z3, z4, z5, z6, z7⟩ := Flow.zs8 (show w.heap.size + 8 ≤ u2.heap.size by omega))
  go_wp2_with fail
  (refine (ris_c _ _ _).mono ?_; rintro e u3 ⟨rfl, hb⟩; obtain ⟨hc, hf⟩ := Flow.bcell hb; have hz := hb.size; (try simp only [World.size_alloc, World.size_setCell, World.size_drew] at hz); obtain ⟨z0, z1, z2, z3, z4, z5, z6, z7⟩ := Flow.zs8 (show w.heap.size + 8 ≤ u3.heap.size by omega))
  go_wp2_with fail
  (refine (ris_c _ _ _).mono ?_; rintro e u4 ⟨rfl, hb⟩; obtain ⟨hc, hf⟩ := Flow.bcell hb; have hz := hb.size; (try simp only [World.size_alloc, World.size_setCell, World.size_drew] at hz); obtain ⟨z0, z1, z2, z3, z4, z5, z6, z7⟩ := Flow.zs8 (show w.heap.size + 8 ≤ u4.heap.size by omega))
  go_wp2_with fail
  (refine (ris_c _ _ _).mono ?_; rintro e u5 ⟨rfl, hb⟩; obtain ⟨hc, hf⟩ := Flow.bcell hb; have hz := hb.size; (try simp only [World.size_alloc, World.size_setCell, World.size_drew] at hz); obtain ⟨z0, z1, z2, z3, z4, z5, z6, z7⟩ := Flow.zs8 (show w.heap.size + 8 ≤ u5.heap.size by omega))
  go_wp2_with fail
  refine Flow.bodyPost_k rfl (fun K hK => ?_)
  simp only [results, Tryz.results23]
  go_simp
  refine hK _ ⟨?_, ?_⟩
  · rfl
  · (repeat (first | exact Below.refl _ _ | refine Below.setCell ?_ (by first | omega | (simp <;> omega)) _ | refine Below.alloc ?_ (by first | omega | (simp <;> omega)) _ | refine Below.drew ?_ | refine Below.trans ?_ (Below.mono (by assumption) (by first | omega | (simp <;> omega)))))
set_option maxRecDepth 100000 in
set_option maxHeartbeats 8000000 in
theorem rbin_c3_0 (op ty off : Int) (x a y b : V) (k1 : 16 ≤ op) (k2 : op ≤ 19) (h1 : (Rf.exBin op ty ty 1 off != 0) = false) (w : World) : Calls Tryz.prog 23 #[iv op, iv ty, iv off, vv x, vv a, vv y, vv b] w fun e w' => e = .returned (.tuple #[vv (V.zero), iv 1]) ∧ Below w.heap.size w w' := by
  go_enter Tryz.func23, Tryz.ntmps23
  go_wp2_with fail
  (refine (validBin_c op ty ty 1 off _ 0 _ _ 0 _ _ (by go_simp) (by go_simp) ⟨by go_simp, by go_simp, by go_simp, by go_simp, by go_simp, by go_simp, by go_simp, by go_simp, by go_simp, by go_simp, by go_simp, by go_simp⟩ ).mono ?_; rintro e u1 ⟨rfl, hb⟩; obtain ⟨hc, hf⟩ := Flow.bcell hb; have hz := hb.size; (try simp only [World.size_alloc, World.size_setCell, World.size_drew] at hz); obtain ⟨z0, z1, z2, z3, z4, z5, z6, z7⟩ := Flow.zs8 (show w.heap.size + 8 ≤ u1.heap.size by omega))
  go_wp2_with fail
  refine Flow.bodyPost_k rfl (fun K hK => ?_)
  simp only [results, Tryz.results23]
  go_simp
  refine hK _ ⟨?_, ?_⟩
  · rfl
  · (repeat (first | exact Below.refl _ _ | refine Below.setCell ?_ (by first | omega | (simp <;> omega)) _ | refine Below.alloc ?_ (by first | omega | (simp <;> omega)) _ | refine Below.drew ?_ | refine Below.trans ?_ (Below.mono (by assumption) (by first | omega | (simp <;> omega)))))
set_option maxRecDepth 100000 in
set_option maxHeartbeats 8000000 in
theorem rbin_c3_1 (op ty off : Int) (x a y b : V) (k1 : 16 ≤ op) (k2 : op ≤ 19) (h1 : (Rf.exBin op ty ty 1 off != 0) = true) (h2 : Vb.is ty x = false) (w : World) : Calls Tryz.prog 23 #[iv op, iv ty, iv off, vv x, vv a, vv y, vv b] w fun e w' => e = .returned (.tuple #[vv (V.zero), iv 1]) ∧ Below w.heap.size w w' := by
  go_enter Tryz.func23, Tryz.ntmps23
  go_wp2_with fail
  (refine (validBin_c op ty ty 1 off _ 0 _ _ 0 _ _ (by go_simp) (by go_simp) ⟨by go_simp, by go_simp, by go_simp, by go_simp, by go_simp, by go_simp, by go_simp, by go_simp, by go_simp, by go_simp, by go_simp, by go_simp⟩ ).mono ?_; rintro e u1 ⟨rfl, hb⟩; obtain ⟨hc, hf⟩ := Flow.bcell hb; have hz := hb.size; (try simp only [World.size_alloc, World.size_setCell, World.size_drew] at hz); obtain ⟨z0, z1, z2, z3, z4, z5, z6, z7⟩ := Flow.zs8 (show w.heap.size + 8 ≤ u1.heap.size by omega))
  go_wp2_with fail
  (refine (ris_c _ _ _).mono ?_; rintro e u2 ⟨rfl, hb⟩; obtain ⟨hc, hf⟩ := Flow.bcell hb; have hz := hb.size; (try simp only [World.size_alloc, World.size_setCell, World.size_drew] at hz); obtain ⟨z0, z1, z2, z3, z4, z5, z6, z7⟩ := Flow.zs8 (show w.heap.size + 8 ≤ u2.heap.size by omega))
  go_wp2_with fail
  refine Flow.bodyPost_k rfl (fun K hK => ?_)
  simp only [results, Tryz.results23]
  go_simp
  refine hK _ ⟨?_, ?_⟩
  · rfl
  · (repeat (first | exact Below.refl _ _ | refine Below.setCell ?_ (by first | omega | (simp <;> omega)) _ | refine Below.alloc ?_ (by first | omega | (simp <;> omega)) _ | refine Below.drew ?_ | refine Below.trans ?_ (Below.mono (by assumption) (by first | omega | (simp <;> omega)))))
set_option maxRecDepth 100000 in
set_option maxHeartbeats 8000000 in
theorem rbin_c3_2 (op ty off : Int) (x a y b : V) (k1 : 16 ≤ op) (k2 : op ≤ 19) (h1 : (Rf.exBin op ty ty 1 off != 0) = true) (h2 : Vb.is ty x = true) (h3 : Vb.is ty a = false) (w : World) : Calls Tryz.prog 23 #[iv op, iv ty, iv off, vv x, vv a, vv y, vv b] w fun e w' => e = .returned (.tuple #[vv (V.zero), iv 1]) ∧ Below w.heap.size w w' := by
  go_enter Tryz.func23, Tryz.ntmps23
  go_wp2_with fail
  (refine (validBin_c op ty ty 1 off _ 0 _ _ 0 _ _ (by go_simp) (by go_simp) ⟨by go_simp, by go_simp, by go_simp, by go_simp, by go_simp, by go_simp, by go_simp, by go_simp, by go_simp, by go_simp, by go_simp, by go_simp⟩ ).mono ?_; rintro e u1 ⟨rfl, hb⟩; obtain ⟨hc, hf⟩ := Flow.bcell hb; have hz := hb.size; (try simp only [World.size_alloc, World.size_setCell, World.size_drew] at hz); obtain ⟨z0, z1, z2, z3, z4, z5, z6, z7⟩ := Flow.zs8 (show w.heap.size + 8 ≤ u1.heap.size by omega))
  go_wp2_with fail
  (refine (ris_c _ _ _).mono ?_; rintro e u2 ⟨rfl, hb⟩; obtain ⟨hc, hf⟩ := Flow.bcell hb; have hz := hb.size; (try simp only [World.size_alloc, World.size_setCell, World.size_drew] at hz); obtain ⟨z0, z1, z2, z3, z4, z5, z6, z7⟩ := Flow.zs8 (show w.heap.size + 8 ≤ u2.heap.size by omega))
  go_wp2_with fail
  (refine (ris_c _ _ _).mono ?_; rintro e u3 ⟨rfl, hb⟩; obtain ⟨hc, hf⟩ := Flow.bcell hb; have hz := hb.size; (try simp only [World.size_alloc, World.size_setCell, World.size_drew] at hz); obtain ⟨z0, z1, z2, z3, z4, z5, z6, z7⟩ := Flow.zs8 (show w.heap.size + 8 ≤ u3.heap.size by omega))
  go_wp2_with fail
  refine Flow.bodyPost_k rfl (fun K hK => ?_)
  simp only [results, Tryz.results23]
  go_simp
  refine hK _ ⟨?_, ?_⟩
  · rfl
  · (repeat (first | exact Below.refl _ _ | refine Below.setCell ?_ (by first | omega | (simp <;> omega)) _ | refine Below.alloc ?_ (by first | omega | (simp <;> omega)) _ | refine Below.drew ?_ | refine Below.trans ?_ (Below.mono (by assumption) (by first | omega | (simp <;> omega)))))
set_option maxRecDepth 100000 in
set_option maxHeartbeats 8000000 in
theorem rbin_c3_3 (op ty off : Int) (x a y b : V) (k1 : 16 ≤ op) (k2 : op ≤ 19) (h1 : (Rf.exBin op ty ty 1 off != 0) = true) (h2 : Vb.is ty x = true) (h3 : Vb.is ty a = true) (h4 : Vb.is ty y = false) (w : World) : Calls Tryz.prog 23 #[iv op, iv ty, iv off, vv x, vv a, vv y, vv b] w fun e w' => e = .returned (.tuple #[vv (V.zero), iv 1]) ∧ Below w.heap.size w w' := by
  go_enter Tryz.func23, Tryz.ntmps23
  go_wp2_with fail
  (refine (validBin_c op ty ty 1 off _ 0 _ _ 0 _ _ (by go_simp) (by go_simp) ⟨by go_simp, by go_simp, by go_simp, by go_simp, by go_simp, by go_simp, by go_simp, by go_simp, by go_simp, by go_simp, by go_simp, by go_simp⟩ ).mono ?_; rintro e u1 ⟨rfl, hb⟩; obtain ⟨hc, hf⟩ := Flow.bcell hb; have hz := hb.size; (try simp only [World.size_alloc, World.size_setCell, World.size_drew] at hz); obtain ⟨z0, z1, z2, z3, z4, z5, z6, z7⟩ := Flow.zs8 (show w.heap.size + 8 ≤ u1.heap.size by omega))
  go_wp2_with fail
  (refine (ris_c _ _ _).mono ?_; rintro e u2 ⟨rfl, hb⟩; obtain ⟨hc, hf⟩ := Flow.bcell hb; have hz := hb.size; (try simp only [World.size_alloc, World.size_setCell, World.size_drew] at hz); obtain ⟨z0, z1, z2, z3, z4, z5, z6, z7⟩ := Flow.zs8 (show w.heap.size + 8 ≤ u2.heap.size by omega))
  go_wp2_with fail
  (refine (ris_c _ _ _).mono ?_; rintro e u3 ⟨rfl, hb⟩; obtain ⟨hc, hf⟩ := Flow.bcell hb; have hz := hb.size; (try simp only [World.size_alloc, World.size_setCell, World.size_drew] at hz); obtain ⟨z0, z1, z2, z3, z4, z5, z6, z7⟩ := Flow.zs8 (show w.heap.size + 8 ≤ u3.heap.size by omega))
  go_wp2_with fail
  (refine (ris_c _ _ _).mono ?_; rintro e u4 ⟨rfl, hb⟩; obtain ⟨hc, hf⟩ := Flow.bcell hb; have hz := hb.size; (try simp only [World.size_alloc, World.size_setCell, World.size_drew] at hz); obtain ⟨z0, z1, z2, z3, z4, z5, z6, z7⟩ := Flow.zs8 (show w.heap.size + 8 ≤ u4.heap.size by omega))
  go_wp2_with fail
  refine Flow.bodyPost_k rfl (fun K hK => ?_)
  simp only [results, Tryz.results23]
  go_simp
  refine hK _ ⟨?_, ?_⟩
  · rfl
  · (repeat (first | exact Below.refl _ _ | refine Below.setCell ?_ (by first | omega | (simp <;> omega)) _ | refine Below.alloc ?_ (by first | omega | (simp <;> omega)) _ | refine Below.drew ?_ | refine Below.trans ?_ (Below.mono (by assumption) (by first | omega | (simp <;> omega)))))
set_option maxRecDepth 100000 in
set_option maxHeartbeats 8000000 in
theorem rbin_c3_4 (op ty off : Int) (x a y b : V) (k1 : 16 ≤ op) (k2 : op ≤ 19) (h1 : (Rf.exBin op ty ty 1 off != 0) = true) (h2 : Vb.is ty x = true) (h3 : Vb.is ty a = true) (h4 : Vb.is ty y = true) (h5 : Vb.is ty b = false) (w : World) : Calls Tryz.prog 23 #[iv op, iv ty, iv off, vv x, vv a, vv y, vv b] w fun e w' => e = .returned (.tuple #[vv (V.zero), iv 1]) ∧ Below w.heap.size w w' := by
  go_enter Tryz.func23, Tryz.ntmps23
  go_wp2_with fail
  (refine (validBin_c op ty ty 1 off _ 0 _ _ 0 _ _ (by go_simp) (by go_simp) ⟨by go_simp, by go_simp, by go_simp, by go_simp, by go_simp, by go_simp, by go_simp, by go_simp, by go_simp, by go_simp, by go_simp, by go_simp⟩ ).mono ?_; rintro e u1 ⟨rfl, hb⟩; obtain ⟨hc, hf⟩ := Flow.bcell hb; have hz := hb.size; (try simp only [World.size_alloc, World.size_setCell, World.size_drew] at hz); obtain ⟨z0, z1, z2, z3, z4, z5, z6, z7⟩ := Flow.zs8 (show w.heap.size + 8 ≤ u1.heap.size by omega))
  go_wp2_with fail
  (refine (ris_c _ _ _).mono ?_; rintro e u2 ⟨rfl, hb⟩; obtain ⟨hc, hf⟩ := Flow.bcell hb; have hz := hb.size; (try simp only [World.size_alloc, World.size_setCell, World.size_drew] at hz); obtain ⟨z0, z1, z2, z3, z4, z5, z6, z7⟩ := Flow.zs8 (show w.heap.size + 8 ≤ u2.heap.size by omega))
  go_wp2_with fail
  (refine (ris_c _ _ _).mono ?_; rintro e u3 ⟨rfl, hb⟩; obtain ⟨hc, hf⟩ := Flow.bcell hb; have hz := hb.size; (try simp only [World.size_alloc, World.size_setCell, World.size_drew] at hz); obtain ⟨z0, z1, z2, z3, z4, z5, z6, z7⟩ := Flow.zs8 (show w.heap.size + 8 ≤ u3.heap.size by omega))
  go_wp2_with fail
  (refine (ris_c _ _ _).mono ?_; rintro e u4 ⟨rfl, hb⟩; obtain ⟨hc, hf⟩ := Flow.bcell hb; have hz := hb.size; (try simp only [World.size_alloc, World.size_setCell, World.size_drew] at hz); obtain ⟨z0, z1, z2, z3, z4, z5, z6, z7⟩ := Flow.zs8 (show w.heap.size + 8 ≤ u4.heap.size by omega))
  go_wp2_with fail
  (refine (ris_c _ _ _).mono ?_; rintro e u5 ⟨rfl, hb⟩; obtain ⟨hc, hf⟩ := Flow.bcell hb; have hz := hb.size; (try simp only [World.size_alloc, World.size_setCell, World.size_drew] at hz); obtain ⟨z0, z1, z2, z3, z4, z5, z6, z7⟩ := Flow.zs8 (show w.heap.size + 8 ≤ u5.heap.size by omega))
  go_wp2_with fail
  refine Flow.bodyPost_k rfl (fun K hK => ?_)
  simp only [results, Tryz.results23]
  go_simp
  refine hK _ ⟨?_, ?_⟩
  · rfl
  · (repeat (first | exact Below.refl _ _ | refine Below.setCell ?_ (by first | omega | (simp <;> omega)) _ | refine Below.alloc ?_ (by first | omega | (simp <;> omega)) _ | refine Below.drew ?_ | refine Below.trans ?_ (Below.mono (by assumption) (by first | omega | (simp <;> omega)))))
set_option maxRecDepth 100000 in
set_option maxHeartbeats 8000000 in
theorem rbin_n1_0 (op ty off : Int) (x a y b : V) (e14 : (op == 14) = false) (e15 : (op == 15) = false) (e30 : (op == 30) = false) (g16 : decide ((16 : Int) ≤ op) = false) (h1 : (Rf.exBin op ty ty ty off != 0) = false) (w : World) : Calls Tryz.prog 23 #[iv op, iv ty, iv off, vv x, vv a, vv y, vv b] w fun e w' => e = .returned (.tuple #[vv (V.zero), iv 1]) ∧ Below w.heap.size w w' := by
  go_enter Tryz.func23, Tryz.ntmps23
  go_wp2_with fail
  (refine (validBin_c op ty ty ty off _ 0 _ _ 0 _ _ (by go_simp) (by go_simp) ⟨by go_simp, by go_simp, by go_simp, by go_simp, by go_simp, by go_simp, by go_simp, by go_simp, by go_simp, by go_simp, by go_simp, by go_simp⟩ ).mono ?_; rintro e u1 ⟨rfl, hb⟩; obtain ⟨hc, hf⟩ := Flow.bcell hb; have hz := hb.size; (try simp only [World.size_alloc, World.size_setCell, World.size_drew] at hz); obtain ⟨z0, z1, z2, z3, z4, z5, z6, z7⟩ := Flow.zs8 (show w.heap.size + 8 ≤ u1.heap.size by omega))
  go_wp2_with fail
  refine Flow.bodyPost_k rfl (fun K hK => ?_)
  simp only [results, Tryz.results23]
  go_simp
  refine hK _ ⟨?_, ?_⟩
  · rfl
  · (repeat (first | exact Below.refl _ _ | refine Below.setCell ?_ (by first | omega | (simp <;> omega)) _ | refine Below.alloc ?_ (by first | omega | (simp <;> omega)) _ | refine Below.drew ?_ | refine Below.trans ?_ (Below.mono (by assumption) (by first | omega | (simp <;> omega)))))
set_option maxRecDepth 100000 in
set_option maxHeartbeats 8000000 in
theorem rbin_n1_1 (op ty off : Int) (x a y b : V) (e14 : (op == 14) = false) (e15 : (op == 15) = false) (e30 : (op == 30) = false) (g16 : decide ((16 : Int) ≤ op) = false) (h1 : (Rf.exBin op ty ty ty off != 0) = true) (h2 : Vb.is ty x = false) (w : World) : Calls Tryz.prog 23 #[iv op, iv ty, iv off, vv x, vv a, vv y, vv b] w fun e w' => e = .returned (.tuple #[vv (V.zero), iv 1]) ∧ Below w.heap.size w w' := by
  go_enter Tryz.func23, Tryz.ntmps23
  go_wp2_with fail
  (refine (validBin_c op ty ty ty off _ 0 _ _ 0 _ _ (by go_simp) (by go_simp) ⟨by go_simp, by go_simp, by go_simp, by go_simp, by go_simp, by go_simp, by go_simp, by go_simp, by go_simp, by go_simp, by go_simp, by go_simp⟩ ).mono ?_; rintro e u1 ⟨rfl, hb⟩; obtain ⟨hc, hf⟩ := Flow.bcell hb; have hz := hb.size; (try simp only [World.size_alloc, World.size_setCell, World.size_drew] at hz); obtain ⟨z0, z1, z2, z3, z4, z5, z6, z7⟩ := Flow.zs8 (show w.heap.size + 8 ≤ u1.heap.size by omega))
  go_wp2_with fail
  (refine (ris_c _ _ _).mono ?_; rintro e u2 ⟨rfl, hb⟩; obtain ⟨hc, hf⟩ := Flow.bcell hb; have hz := hb.size; (try simp only [World.size_alloc, World.size_setCell, World.size_drew] at hz); obtain ⟨z0, z1, z2, z3, z4, z5, z6, z7⟩ := Flow.zs8 (show w.heap.size + 8 ≤ u2.heap.size by omega))
  go_wp2_with fail
  refine Flow.bodyPost_k rfl (fun K hK => ?_)
  simp only [results, Tryz.results23]
  go_simp
  refine hK _ ⟨?_, ?_⟩
  · rfl
  · (repeat (first | exact Below.refl _ _ | refine Below.setCell ?_ (by first | omega | (simp <;> omega)) _ | refine Below.alloc ?_ (by first | omega | (simp <;> omega)) _ | refine Below.drew ?_ | refine Below.trans ?_ (Below.mono (by assumption) (by first | omega | (simp <;> omega)))))
set_option maxRecDepth 100000 in
set_option maxHeartbeats 8000000 in
theorem rbin_n1_2 (op ty off : Int) (x a y b : V) (e14 : (op == 14) = false) (e15 : (op == 15) = false) (e30 : (op == 30) = false) (g16 : decide ((16 : Int) ≤ op) = false) (h1 : (Rf.exBin op ty ty ty off != 0) = true) (h2 : Vb.is ty x = true) (h3 : Vb.is ty a = false) (w : World) : Calls Tryz.prog 23 #[iv op, iv ty, iv off, vv x, vv a, vv y, vv b] w fun e w' => e = .returned (.tuple #[vv (V.zero), iv 1]) ∧ Below w.heap.size w w' := by
  go_enter Tryz.func23, Tryz.ntmps23
  go_wp2_with fail
  (refine (validBin_c op ty ty ty off _ 0 _ _ 0 _ _ (by go_simp) (by go_simp) ⟨by go_simp, by go_simp, by go_simp, by go_simp, by go_simp, by go_simp, by go_simp, by go_simp, by go_simp, by go_simp, by go_simp, by go_simp⟩ ).mono ?_; rintro e u1 ⟨rfl, hb⟩; obtain ⟨hc, hf⟩ := Flow.bcell hb; have hz := hb.size; (try simp only [World.size_alloc, World.size_setCell, World.size_drew] at hz); obtain ⟨z0, z1, z2, z3, z4, z5, z6, z7⟩ := Flow.zs8 (show w.heap.size + 8 ≤ u1.heap.size by omega))
  go_wp2_with fail
  (refine (ris_c _ _ _).mono ?_; rintro e u2 ⟨rfl, hb⟩; obtain ⟨hc, hf⟩ := Flow.bcell hb; have hz := hb.size; (try simp only [World.size_alloc, World.size_setCell, World.size_drew] at hz); obtain ⟨z0, z1, z2, z3, z4, z5, z6, z7⟩ := Flow.zs8 (show w.heap.size + 8 ≤ u2.heap.size by omega))
  go_wp2_with fail
  (refine (ris_c _ _ _).mono ?_; rintro e u3 ⟨rfl, hb⟩; obtain ⟨hc, hf⟩ := Flow.bcell hb; have hz := hb.size; (try simp only [World.size_alloc, World.size_setCell, World.size_drew] at hz); obtain ⟨z0, z1, z2, z3, z4, z5, z6, z7⟩ := Flow.zs8 (show w.heap.size + 8 ≤ u3.heap.size by omega))
  go_wp2_with fail
  refine Flow.bodyPost_k rfl (fun K hK => ?_)
  simp only [results, Tryz.results23]
  go_simp
  refine hK _ ⟨?_, ?_⟩
  · rfl
  · (repeat (first | exact Below.refl _ _ | refine Below.setCell ?_ (by first | omega | (simp <;> omega)) _ | refine Below.alloc ?_ (by first | omega | (simp <;> omega)) _ | refine Below.drew ?_ | refine Below.trans ?_ (Below.mono (by assumption) (by first | omega | (simp <;> omega)))))
set_option maxRecDepth 100000 in
set_option maxHeartbeats 8000000 in
theorem rbin_n1_3 (op ty off : Int) (x a y b : V) (e14 : (op == 14) = false) (e15 : (op == 15) = false) (e30 : (op == 30) = false) (g16 : decide ((16 : Int) ≤ op) = false) (h1 : (Rf.exBin op ty ty ty off != 0) = true) (h2 : Vb.is ty x = true) (h3 : Vb.is ty a = true) (h4 : Vb.is ty y = false) (w : World) : Calls Tryz.prog 23 #[iv op, iv ty, iv off, vv x, vv a, vv y, vv b] w fun e w' => e = .returned (.tuple #[vv (V.zero), iv 1]) ∧ Below w.heap.size w w' := by
  go_enter Tryz.func23, Tryz.ntmps23
  go_wp2_with fail
  (refine (validBin_c op ty ty ty off _ 0 _ _ 0 _ _ (by go_simp) (by go_simp) ⟨by go_simp, by go_simp, by go_simp, by go_simp, by go_simp, by go_simp, by go_simp, by go_simp, by go_simp, by go_simp, by go_simp, by go_simp⟩ ).mono ?_; rintro e u1 ⟨rfl, hb⟩; obtain ⟨hc, hf⟩ := Flow.bcell hb; have hz := hb.size; (try simp only [World.size_alloc, World.size_setCell, World.size_drew] at hz); obtain ⟨z0, z1, z2, z3, z4, z5, z6, z7⟩ := Flow.zs8 (show w.heap.size + 8 ≤ u1.heap.size by omega))
  go_wp2_with fail
  (refine (ris_c _ _ _).mono ?_; rintro e u2 ⟨rfl, hb⟩; obtain ⟨hc, hf⟩ := Flow.bcell hb; have hz := hb.size; (try simp only [World.size_alloc, World.size_setCell, World.size_drew] at hz); obtain ⟨z0, z1, z2, z3, z4, z5, z6, z7⟩ := Flow.zs8 (show w.heap.size + 8 ≤ u2.heap.size by omega))
  go_wp2_with fail
  (refine (ris_c _ _ _).mono ?_; rintro e u3 ⟨rfl, hb⟩; obtain ⟨hc, hf⟩ := Flow.bcell hb; have hz := hb.size; (try simp only [World.size_alloc, World.size_setCell, World.size_drew] at hz); obtain ⟨z0, z1, z2, z3, z4, z5, z6, z7⟩ := Flow.zs8 (show w.heap.size + 8 ≤ u3.heap.size by omega))
  go_wp2_with fail
  (refine (ris_c _ _ _).mono ?_; rintro e u4 ⟨rfl, hb⟩; obtain ⟨hc, hf⟩ := Flow.bcell hb; have hz := hb.size; (try simp only [World.size_alloc, World.size_setCell, World.size_drew] at hz); obtain ⟨z0, z1, z2, z3, z4, z5, z6, z7⟩ := Flow.zs8 (show w.heap.size + 8 ≤ u4.heap.size by omega))
  go_wp2_with fail
  refine Flow.bodyPost_k rfl (fun K hK => ?_)
  simp only [results, Tryz.results23]
  go_simp
  refine hK _ ⟨?_, ?_⟩
  · rfl
  · (repeat (first | exact Below.refl _ _ | refine Below.setCell ?_ (by first | omega | (simp <;> omega)) _ | refine Below.alloc ?_ (by first | omega | (simp <;> omega)) _ | refine Below.drew ?_ | refine Below.trans ?_ (Below.mono (by assumption) (by first | omega | (simp <;> omega)))))
set_option maxRecDepth 100000 in
set_option maxHeartbeats 8000000 in
theorem rbin_n1_4 (op ty off : Int) (x a y b : V) (e14 : (op == 14) = false) (e15 : (op == 15) = false) (e30 : (op == 30) = false) (g16 : decide ((16 : Int) ≤ op) = false) (h1 : (Rf.exBin op ty ty ty off != 0) = true) (h2 : Vb.is ty x = true) (h3 : Vb.is ty a = true) (h4 : Vb.is ty y = true) (h5 : Vb.is ty b = false) (w : World) : Calls Tryz.prog 23 #[iv op, iv ty, iv off, vv x, vv a, vv y, vv b] w fun e w' => e = .returned (.tuple #[vv (V.zero), iv 1]) ∧ Below w.heap.size w w' := by
  go_enter Tryz.func23, Tryz.ntmps23
  go_wp2_with fail
  (refine (validBin_c op ty ty ty off _ 0 _ _ 0 _ _ (by go_simp) (by go_simp) ⟨by go_simp, by go_simp, by go_simp, by go_simp, by go_simp, by go_simp, by go_simp, by go_simp, by go_simp, by go_simp, by go_simp, by go_simp⟩ ).mono ?_; rintro e u1 ⟨rfl, hb⟩; obtain ⟨hc, hf⟩ := Flow.bcell hb; have hz := hb.size; (try simp only [World.size_alloc, World.size_setCell, World.size_drew] at hz); obtain ⟨z0, z1, z2, z3, z4, z5, z6, z7⟩ := Flow.zs8 (show w.heap.size + 8 ≤ u1.heap.size by omega))
  go_wp2_with fail
  (refine (ris_c _ _ _).mono ?_; rintro e u2 ⟨rfl, hb⟩; obtain ⟨hc, hf⟩ := Flow.bcell hb; have hz := hb.size; (try simp only [World.size_alloc, World.size_setCell, World.size_drew] at hz); obtain ⟨z0, z1, z2, z3, z4, z5, z6, z7⟩ := Flow.zs8 (show w.heap.size + 8 ≤ u2.heap.size by omega))
  go_wp2_with fail
  (refine (ris_c _ _ _).mono ?_; rintro e u3 ⟨rfl, hb⟩; obtain ⟨hc, hf⟩ := Flow.bcell hb; have hz := hb.size; (try simp only [World.size_alloc, World.size_setCell, World.size_drew] at hz); obtain ⟨z0, z1, z2, z3, z4, z5, z6, z7⟩ := Flow.zs8 (show w.heap.size + 8 ≤ u3.heap.size by omega))
  go_wp2_with fail
  (refine (ris_c _ _ _).mono ?_; rintro e u4 ⟨rfl, hb⟩; obtain ⟨hc, hf⟩ := Flow.bcell hb; have hz := hb.size; (try simp only [World.size_alloc, World.size_setCell, World.size_drew] at hz); obtain ⟨z0, z1, z2, z3, z4, z5, z6, z7⟩ := Flow.zs8 (show w.heap.size + 8 ≤ u4.heap.size by omega))
  go_wp2_with fail
  (refine (ris_c _ _ _).mono ?_; rintro e u5 ⟨rfl, hb⟩; obtain ⟨hc, hf⟩ := Flow.bcell hb; have hz := hb.size; (try simp only [World.size_alloc, World.size_setCell, World.size_drew] at hz); obtain ⟨z0, z1, z2, z3, z4, z5, z6, z7⟩ := Flow.zs8 (show w.heap.size + 8 ≤ u5.heap.size by omega))
  go_wp2_with fail
  refine Flow.bodyPost_k rfl (fun K hK => ?_)
  simp only [results, Tryz.results23]
  go_simp
  refine hK _ ⟨?_, ?_⟩
  · rfl
  · (repeat (first | exact Below.refl _ _ | refine Below.setCell ?_ (by first | omega | (simp <;> omega)) _ | refine Below.alloc ?_ (by first | omega | (simp <;> omega)) _ | refine Below.drew ?_ | refine Below.trans ?_ (Below.mono (by assumption) (by first | omega | (simp <;> omega)))))
set_option maxRecDepth 100000 in
set_option maxHeartbeats 8000000 in
theorem rbin_n2_0 (op ty off : Int) (x a y b : V) (e14 : (op == 14) = false) (e15 : (op == 15) = false) (e30 : (op == 30) = false) (g16 : decide ((16 : Int) ≤ op) = true) (g19 : decide (op ≤ (19 : Int)) = false) (h1 : (Rf.exBin op ty ty ty off != 0) = false) (w : World) : Calls Tryz.prog 23 #[iv op, iv ty, iv off, vv x, vv a, vv y, vv b] w fun e w' => e = .returned (.tuple #[vv (V.zero), iv 1]) ∧ Below w.heap.size w w' := by
  go_enter Tryz.func23, Tryz.ntmps23
  go_wp2_with fail
  (refine (validBin_c op ty ty ty off _ 0 _ _ 0 _ _ (by go_simp) (by go_simp) ⟨by go_simp, by go_simp, by go_simp, by go_simp, by go_simp, by go_simp, by go_simp, by go_simp, by go_simp, by go_simp, by go_simp, by go_simp⟩ ).mono ?_; rintro e u1 ⟨rfl, hb⟩; obtain ⟨hc, hf⟩ := Flow.bcell hb; have hz := hb.size; (try simp only [World.size_alloc, World.size_setCell, World.size_drew] at hz); obtain ⟨z0, z1, z2, z3, z4, z5, z6, z7⟩ := Flow.zs8 (show w.heap.size + 8 ≤ u1.heap.size by omega))
  go_wp2_with fail
  refine Flow.bodyPost_k rfl (fun K hK => ?_)
  simp only [results, Tryz.results23]
  go_simp
  refine hK _ ⟨?_, ?_⟩
  · rfl
  · (repeat (first | exact Below.refl _ _ | refine Below.setCell ?_ (by first | omega | (simp <;> omega)) _ | refine Below.alloc ?_ (by first | omega | (simp <;> omega)) _ | refine Below.drew ?_ | refine Below.trans ?_ (Below.mono (by assumption) (by first | omega | (simp <;> omega)))))
set_option maxRecDepth 100000 in
set_option maxHeartbeats 8000000 in
theorem rbin_n2_1 (op ty off : Int) (x a y b : V) (e14 : (op == 14) = false) (e15 : (op == 15) = false) (e30 : (op == 30) = false) (g16 : decide ((16 : Int) ≤ op) = true) (g19 : decide (op ≤ (19 : Int)) = false) (h1 : (Rf.exBin op ty ty ty off != 0) = true) (h2 : Vb.is ty x = false) (w : World) : Calls Tryz.prog 23 #[iv op, iv ty, iv off, vv x, vv a, vv y, vv b] w fun e w' => e = .returned (.tuple #[vv (V.zero), iv 1]) ∧ Below w.heap.size w w' := by
  go_enter Tryz.func23, Tryz.ntmps23
  go_wp2_with fail
  (refine (validBin_c op ty ty ty off _ 0 _ _ 0 _ _ (by go_simp) (by go_simp) ⟨by go_simp, by go_simp, by go_simp, by go_simp, by go_simp, by go_simp, by go_simp, by go_simp, by go_simp, by go_simp, by go_simp, by go_simp⟩ ).mono ?_; rintro e u1 ⟨rfl, hb⟩; obtain ⟨hc, hf⟩ := Flow.bcell hb; have hz := hb.size; (try simp only [World.size_alloc, World.size_setCell, World.size_drew] at hz); obtain ⟨z0, z1, z2, z3, z4, z5, z6, z7⟩ := Flow.zs8 (show w.heap.size + 8 ≤ u1.heap.size by omega))
  go_wp2_with fail
  (refine (ris_c _ _ _).mono ?_; rintro e u2 ⟨rfl, hb⟩; obtain ⟨hc, hf⟩ := Flow.bcell hb; have hz := hb.size; (try simp only [World.size_alloc, World.size_setCell, World.size_drew] at hz); obtain ⟨z0, z1, z2, z3, z4, z5, z6, z7⟩ := Flow.zs8 (show w.heap.size + 8 ≤ u2.heap.size by omega))
  go_wp2_with fail
  refine Flow.bodyPost_k rfl (fun K hK => ?_)
  simp only [results, Tryz.results23]
  go_simp
  refine hK _ ⟨?_, ?_⟩
  · rfl
  · (repeat (first | exact Below.refl _ _ | refine Below.setCell ?_ (by first | omega | (simp <;> omega)) _ | refine Below.alloc ?_ (by first | omega | (simp <;> omega)) _ | refine Below.drew ?_ | refine Below.trans ?_ (Below.mono (by assumption) (by first | omega | (simp <;> omega)))))
set_option maxRecDepth 100000 in
set_option maxHeartbeats 8000000 in
theorem rbin_n2_2 (op ty off : Int) (x a y b : V) (e14 : (op == 14) = false) (e15 : (op == 15) = false) (e30 : (op == 30) = false) (g16 : decide ((16 : Int) ≤ op) = true) (g19 : decide (op ≤ (19 : Int)) = false) (h1 : (Rf.exBin op ty ty ty off != 0) = true) (h2 : Vb.is ty x = true) (h3 : Vb.is ty a = false) (w : World) : Calls Tryz.prog 23 #[iv op, iv ty, iv off, vv x, vv a, vv y, vv b] w fun e w' => e = .returned (.tuple #[vv (V.zero), iv 1]) ∧ Below w.heap.size w w' := by
  go_enter Tryz.func23, Tryz.ntmps23
  go_wp2_with fail
  (refine (validBin_c op ty ty ty off _ 0 _ _ 0 _ _ (by go_simp) (by go_simp) ⟨by go_simp, by go_simp, by go_simp, by go_simp, by go_simp, by go_simp, by go_simp, by go_simp, by go_simp, by go_simp, by go_simp, by go_simp⟩ ).mono ?_; rintro e u1 ⟨rfl, hb⟩; obtain ⟨hc, hf⟩ := Flow.bcell hb; have hz := hb.size; (try simp only [World.size_alloc, World.size_setCell, World.size_drew] at hz); obtain ⟨z0, z1, z2, z3, z4, z5, z6, z7⟩ := Flow.zs8 (show w.heap.size + 8 ≤ u1.heap.size by omega))
  go_wp2_with fail
  (refine (ris_c _ _ _).mono ?_; rintro e u2 ⟨rfl, hb⟩; obtain ⟨hc, hf⟩ := Flow.bcell hb; have hz := hb.size; (try simp only [World.size_alloc, World.size_setCell, World.size_drew] at hz); obtain ⟨z0, z1, z2, z3, z4, z5, z6, z7⟩ := Flow.zs8 (show w.heap.size + 8 ≤ u2.heap.size by omega))
  go_wp2_with fail
  (refine (ris_c _ _ _).mono ?_; rintro e u3 ⟨rfl, hb⟩; obtain ⟨hc, hf⟩ := Flow.bcell hb; have hz := hb.size; (try simp only [World.size_alloc, World.size_setCell, World.size_drew] at hz); obtain ⟨z0, z1, z2, z3, z4, z5, z6, z7⟩ := Flow.zs8 (show w.heap.size + 8 ≤ u3.heap.size by omega))
  go_wp2_with fail
  refine Flow.bodyPost_k rfl (fun K hK => ?_)
  simp only [results, Tryz.results23]
  go_simp
  refine hK _ ⟨?_, ?_⟩
  · rfl
  · (repeat (first | exact Below.refl _ _ | refine Below.setCell ?_ (by first | omega | (simp <;> omega)) _ | refine Below.alloc ?_ (by first | omega | (simp <;> omega)) _ | refine Below.drew ?_ | refine Below.trans ?_ (Below.mono (by assumption) (by first | omega | (simp <;> omega)))))
set_option maxRecDepth 100000 in
set_option maxHeartbeats 8000000 in
theorem rbin_n2_3 (op ty off : Int) (x a y b : V) (e14 : (op == 14) = false) (e15 : (op == 15) = false) (e30 : (op == 30) = false) (g16 : decide ((16 : Int) ≤ op) = true) (g19 : decide (op ≤ (19 : Int)) = false) (h1 : (Rf.exBin op ty ty ty off != 0) = true) (h2 : Vb.is ty x = true) (h3 : Vb.is ty a = true) (h4 : Vb.is ty y = false) (w : World) : Calls Tryz.prog 23 #[iv op, iv ty, iv off, vv x, vv a, vv y, vv b] w fun e w' => e = .returned (.tuple #[vv (V.zero), iv 1]) ∧ Below w.heap.size w w' := by
  go_enter Tryz.func23, Tryz.ntmps23
  go_wp2_with fail
  (refine (validBin_c op ty ty ty off _ 0 _ _ 0 _ _ (by go_simp) (by go_simp) ⟨by go_simp, by go_simp, by go_simp, by go_simp, by go_simp, by go_simp, by go_simp, by go_simp, by go_simp, by go_simp, by go_simp, by go_simp⟩ ).mono ?_; rintro e u1 ⟨rfl, hb⟩; obtain ⟨hc, hf⟩ := Flow.bcell hb; have hz := hb.size; (try simp only [World.size_alloc, World.size_setCell, World.size_drew] at hz); obtain ⟨z0, z1, z2, z3, z4, z5, z6, z7⟩ := Flow.zs8 (show w.heap.size + 8 ≤ u1.heap.size by omega))
  go_wp2_with fail
  (refine (ris_c _ _ _).mono ?_; rintro e u2 ⟨rfl, hb⟩; obtain ⟨hc, hf⟩ := Flow.bcell hb; have hz := hb.size; (try simp only [World.size_alloc, World.size_setCell, World.size_drew] at hz); obtain ⟨z0, z1, z2, z3, z4, z5, z6, z7⟩ := Flow.zs8 (show w.heap.size + 8 ≤ u2.heap.size by omega))
  go_wp2_with fail
  (refine (ris_c _ _ _).mono ?_; rintro e u3 ⟨rfl, hb⟩; obtain ⟨hc, hf⟩ := Flow.bcell hb; have hz := hb.size; (try simp only [World.size_alloc, World.size_setCell, World.size_drew] at hz); obtain ⟨z0, z1, z2, z3, z4, z5, z6, z7⟩ := Flow.zs8 (show w.heap.size + 8 ≤ u3.heap.size by omega))
  go_wp2_with fail
  (refine (ris_c _ _ _).mono ?_; rintro e u4 ⟨rfl, hb⟩; obtain ⟨hc, hf⟩ := Flow.bcell hb; have hz := hb.size; (try simp only [World.size_alloc, World.size_setCell, World.size_drew] at hz); obtain ⟨z0, z1, z2, z3, z4, z5, z6, z7⟩ := Flow.zs8 (show w.heap.size + 8 ≤ u4.heap.size by omega))
  go_wp2_with fail
  refine Flow.bodyPost_k rfl (fun K hK => ?_)
  simp only [results, Tryz.results23]
  go_simp
  refine hK _ ⟨?_, ?_⟩
  · rfl
  · (repeat (first | exact Below.refl _ _ | refine Below.setCell ?_ (by first | omega | (simp <;> omega)) _ | refine Below.alloc ?_ (by first | omega | (simp <;> omega)) _ | refine Below.drew ?_ | refine Below.trans ?_ (Below.mono (by assumption) (by first | omega | (simp <;> omega)))))
set_option maxRecDepth 100000 in
set_option maxHeartbeats 8000000 in
theorem rbin_n2_4 (op ty off : Int) (x a y b : V) (e14 : (op == 14) = false) (e15 : (op == 15) = false) (e30 : (op == 30) = false) (g16 : decide ((16 : Int) ≤ op) = true) (g19 : decide (op ≤ (19 : Int)) = false) (h1 : (Rf.exBin op ty ty ty off != 0) = true) (h2 : Vb.is ty x = true) (h3 : Vb.is ty a = true) (h4 : Vb.is ty y = true) (h5 : Vb.is ty b = false) (w : World) : Calls Tryz.prog 23 #[iv op, iv ty, iv off, vv x, vv a, vv y, vv b] w fun e w' => e = .returned (.tuple #[vv (V.zero), iv 1]) ∧ Below w.heap.size w w' := by
  go_enter Tryz.func23, Tryz.ntmps23
  go_wp2_with fail
  (refine (validBin_c op ty ty ty off _ 0 _ _ 0 _ _ (by go_simp) (by go_simp) ⟨by go_simp, by go_simp, by go_simp, by go_simp, by go_simp, by go_simp, by go_simp, by go_simp, by go_simp, by go_simp, by go_simp, by go_simp⟩ ).mono ?_; rintro e u1 ⟨rfl, hb⟩; obtain ⟨hc, hf⟩ := Flow.bcell hb; have hz := hb.size; (try simp only [World.size_alloc, World.size_setCell, World.size_drew] at hz); obtain ⟨z0, z1, z2, z3, z4, z5, z6, z7⟩ := Flow.zs8 (show w.heap.size + 8 ≤ u1.heap.size by omega))
  go_wp2_with fail
  (refine (ris_c _ _ _).mono ?_; rintro e u2 ⟨rfl, hb⟩; obtain ⟨hc, hf⟩ := Flow.bcell hb; have hz := hb.size; (try simp only [World.size_alloc, World.size_setCell, World.size_drew] at hz); obtain ⟨z0, z1, z2, z3, z4, z5, z6, z7⟩ := Flow.zs8 (show w.heap.size + 8 ≤ u2.heap.size by omega))
  go_wp2_with fail
  (refine (ris_c _ _ _).mono ?_; rintro e u3 ⟨rfl, hb⟩; obtain ⟨hc, hf⟩ := Flow.bcell hb; have hz := hb.size; (try simp only [World.size_alloc, World.size_setCell, World.size_drew] at hz); obtain ⟨z0, z1, z2, z3, z4, z5, z6, z7⟩ := Flow.zs8 (show w.heap.size + 8 ≤ u3.heap.size by omega))
  go_wp2_with fail
  (refine (ris_c _ _ _).mono ?_; rintro e u4 ⟨rfl, hb⟩; obtain ⟨hc, hf⟩ := Flow.bcell hb; have hz := hb.size; (try simp only [World.size_alloc, World.size_setCell, World.size_drew] at hz); obtain ⟨z0, z1, z2, z3, z4, z5, z6, z7⟩ := Flow.zs8 (show w.heap.size + 8 ≤ u4.heap.size by omega))
  go_wp2_with fail
  (refine (ris_c _ _ _).mono ?_; rintro e u5 ⟨rfl, hb⟩; obtain ⟨hc, hf⟩ := Flow.bcell hb; have hz := hb.size; (try simp only [World.size_alloc, World.size_setCell, World.size_drew] at hz); obtain ⟨z0, z1, z2, z3, z4, z5, z6, z7⟩ := Flow.zs8 (show w.heap.size + 8 ≤ u5.heap.size by omega))
  go_wp2_with fail
  refine Flow.bodyPost_k rfl (fun K hK => ?_)
  simp only [results, Tryz.results23]
  go_simp
  refine hK _ ⟨?_, ?_⟩
  · rfl
  · (repeat (first | exact Below.refl _ _ | refine Below.setCell ?_ (by first | omega | (simp <;> omega)) _ | refine Below.alloc ?_ (by first | omega | (simp <;> omega)) _ | refine Below.drew ?_ | refine Below.trans ?_ (Below.mono (by assumption) (by first | omega | (simp <;> omega)))))
end Go.Proofs.YtboknfppecgjmaaGreat
