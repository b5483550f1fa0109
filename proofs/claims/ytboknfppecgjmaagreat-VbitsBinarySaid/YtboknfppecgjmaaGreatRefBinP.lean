/- The reference's BiPut. -/
import Derived.Test.YtboknfppecgjmaaGreatRefBin
namespace Go.Proofs.YtboknfppecgjmaaGreat
set_option linter.unusedVariables false
set_option linter.unusedSimpArgs false
open Go.RowKit Go.Shelf
set_option maxRecDepth 100000 in
set_option maxHeartbeats 8000000 in
theorem rbin_30_0 (ty : Int) (x a y b : V) (h1 : (Rf.exBin 30 ty 32 ty 0 != 0) = true) (h2 : Vb.is ty x = true) (h3 : Vb.is ty a = true) (h4 : Vb.is 32 y = true) (h5 : Vb.is 32 b = true) (w : World) : Calls Tryz.prog 23 #[iv (30 : Int), iv ty, iv (0 : Int), vv x, vv a, vv y, vv b] w fun e w' => e = .returned (.tuple #[vv ({ a with a := b.a }), iv 0]) ∧ Below w.heap.size w w' := by
  go_enter Tryz.func23, Tryz.ntmps23
  go_wp2_with fail
  (refine (validBin_c 30 ty 32 ty 0 _ 0 _ _ 0 _ _ (by go_simp) (by go_simp) ⟨by go_simp, by go_simp, by go_simp, by go_simp, by go_simp, by go_simp, by go_simp, by go_simp, by go_simp, by go_simp, by go_simp, by go_simp⟩ ).mono ?_; rintro e u1 ⟨rfl, hb⟩; obtain ⟨hc, hf⟩ := Flow.bcell hb; have hz := hb.size; (try simp only [World.size_alloc, World.size_setCell, World.size_drew] at hz); obtain ⟨z0, z1, z2, z3, z4, z5, z6, z7⟩ := Flow.zs8 (show w.heap.size + 8 ≤ u1.heap.size by omega))
  go_wp2_with fail
  (refine (ris_c _ _ _).mono ?_; rintro e u2 ⟨rfl, hb⟩; obtain ⟨hc, hf⟩ := Flow.bcell hb; have hz := hb.size; (try simp only [World.size_alloc, World.size_setCell, World.size_drew] at hz); obtain ⟨z0, z1, z2, z3, z4, z5, z6, z7⟩ := Flow.zs8 (show w.heap.size + 8 ≤ u2.heap.size by omega))
  go_wp2_with fail
  (refine (ris_c _ _ _).mono ?_; rintro e u3 ⟨rfl, hb⟩; obtain ⟨hc, hf⟩ := Flow.bcell hb; have hz := hb.size; (try simp only [World.size_alloc, World.size_setCell, World.size_drew] at hz); obtain ⟨z0, z1, z2, z3, z4, z5, z6, z7⟩ := Flow.zs8 (show w.heap.size + 8 ≤ u3.heap.size by omega))
  go_wp2_with fail
  (refine (ris_c _ _ _).mono ?_; rintro e u4 ⟨rfl, hb⟩; obtain ⟨hc, hf⟩ := Flow.bcell hb; have hz := hb.size; (try simp only [World.size_alloc, World.size_setCell, World.size_drew] at hz); obtain ⟨z0, z1, z2, z3, z4, z5, z6, z7⟩ := Flow.zs8 (show w.heap.size + 8 ≤ u4.heap.size by omega))
  go_wp2_with fail
  (refine (ris_c _ _ _).mono ?_; rintro e u5 ⟨rfl, hb⟩; obtain ⟨hc, hf⟩ := Flow.bcell hb; have hz := hb.size; (try simp only [World.size_alloc, World.size_setCell, World.size_drew] at hz); obtain ⟨z0, z1, z2, z3, z4, z5, z6, z7⟩ := Flow.zs8 (show w.heap.size + 8 ≤ u5.heap.size by omega))
  have BB : Below w.heap.size w u5 := by (repeat (first | exact Below.refl _ _ | refine Below.setCell ?_ (by first | omega | (simp <;> omega)) _ | refine Below.alloc ?_ (by first | omega | (simp <;> omega)) _ | refine Below.drew ?_ | refine Below.trans ?_ (Below.mono (by assumption) (by first | omega | (simp <;> omega)))))
  obtain ⟨a0, a1, a2, a3⟩ : u5.cell? ⟨w.heap.size + 1, 0, none⟩ = some (uv a.a) ∧ u5.cell? ⟨w.heap.size + 1, 1, none⟩ = some (uv a.b) ∧ u5.cell? ⟨w.heap.size + 1, 2, none⟩ = some (uv a.c) ∧ u5.cell? ⟨w.heap.size + 1, 3, none⟩ = some (uv a.d) := ⟨by go_simp, by go_simp, by go_simp, by go_simp⟩
  obtain ⟨f0, f1, f2, f3⟩ : u5.frozen? ⟨w.heap.size + 1, 0, none⟩ = false ∧ u5.frozen? ⟨w.heap.size + 1, 1, none⟩ = false ∧ u5.frozen? ⟨w.heap.size + 1, 2, none⟩ = false ∧ u5.frozen? ⟨w.heap.size + 1, 3, none⟩ = false := ⟨by go_simp, by go_simp, by go_simp, by go_simp⟩
  obtain ⟨r0, r1, r2, r3⟩ : u5.cell? ⟨w.heap.size + 1 + 1 + 1 + 1, 0, none⟩ = some (uv 0#32) ∧ u5.cell? ⟨w.heap.size + 1 + 1 + 1 + 1, 1, none⟩ = some (uv 0#32) ∧ u5.cell? ⟨w.heap.size + 1 + 1 + 1 + 1, 2, none⟩ = some (uv 0#32) ∧ u5.cell? ⟨w.heap.size + 1 + 1 + 1 + 1, 3, none⟩ = some (uv 0#32) := ⟨by go_simp, by go_simp, by go_simp, by go_simp⟩
  obtain ⟨g0, g1, g2, g3⟩ : u5.frozen? ⟨w.heap.size + 1 + 1 + 1 + 1, 0, none⟩ = false ∧ u5.frozen? ⟨w.heap.size + 1 + 1 + 1 + 1, 1, none⟩ = false ∧ u5.frozen? ⟨w.heap.size + 1 + 1 + 1 + 1, 2, none⟩ = false ∧ u5.frozen? ⟨w.heap.size + 1 + 1 + 1 + 1, 3, none⟩ = false := ⟨by go_simp, by go_simp, by go_simp, by go_simp⟩
  have q0 : u5.cell? ⟨w.heap.size + 1 + 1 + 1, 0, none⟩ = some (uv b.a) := by go_simp
  clear hb hc hf
  go_wp2_with fail
  refine Flow.bodyPost_k rfl (fun K hK => ?_)
  simp only [results, Tryz.results23]
  go_simp
  refine hK _ ⟨?_, ?_⟩
  · rfl
  · have e1 : w.heap.size ≤ w.heap.size + 1 := by omega
    have e4 : w.heap.size ≤ w.heap.size + 1 + 1 + 1 + 1 := by omega
    exact ((((BB.setCell e1 _).setCell e4 _).setCell e4 _).setCell e4 _).setCell e4 _
set_option maxRecDepth 100000 in
set_option maxHeartbeats 8000000 in
theorem rbin_30_1 (ty : Int) (x a y b : V) (h1 : (Rf.exBin 30 ty 32 ty 1 != 0) = true) (h2 : Vb.is ty x = true) (h3 : Vb.is ty a = true) (h4 : Vb.is 32 y = true) (h5 : Vb.is 32 b = true) (w : World) : Calls Tryz.prog 23 #[iv (30 : Int), iv ty, iv (1 : Int), vv x, vv a, vv y, vv b] w fun e w' => e = .returned (.tuple #[vv ({ a with b := b.a }), iv 0]) ∧ Below w.heap.size w w' := by
  go_enter Tryz.func23, Tryz.ntmps23
  go_wp2_with fail
  (refine (validBin_c 30 ty 32 ty 1 _ 0 _ _ 0 _ _ (by go_simp) (by go_simp) ⟨by go_simp, by go_simp, by go_simp, by go_simp, by go_simp, by go_simp, by go_simp, by go_simp, by go_simp, by go_simp, by go_simp, by go_simp⟩ ).mono ?_; rintro e u1 ⟨rfl, hb⟩; obtain ⟨hc, hf⟩ := Flow.bcell hb; have hz := hb.size; (try simp only [World.size_alloc, World.size_setCell, World.size_drew] at hz); obtain ⟨z0, z1, z2, z3, z4, z5, z6, z7⟩ := Flow.zs8 (show w.heap.size + 8 ≤ u1.heap.size by omega))
  go_wp2_with fail
  (refine (ris_c _ _ _).mono ?_; rintro e u2 ⟨rfl, hb⟩; obtain ⟨hc, hf⟩ := Flow.bcell hb; have hz := hb.size; (try simp only [World.size_alloc, World.size_setCell, World.size_drew] at hz); obtain ⟨z0, z1, z2, z3, z4, z5, z6, z7⟩ := Flow.zs8 (show w.heap.size + 8 ≤ u2.heap.size by omega))
  go_wp2_with fail
  (refine (ris_c _ _ _).mono ?_; rintro e u3 ⟨rfl, hb⟩; obtain ⟨hc, hf⟩ := Flow.bcell hb; have hz := hb.size; (try simp only [World.size_alloc, World.size_setCell, World.size_drew] at hz); obtain ⟨z0, z1, z2, z3, z4, z5, z6, z7⟩ := Flow.zs8 (show w.heap.size + 8 ≤ u3.heap.size by omega))
  go_wp2_with fail
  (refine (ris_c _ _ _).mono ?_; rintro e u4 ⟨rfl, hb⟩; obtain ⟨hc, hf⟩ := Flow.bcell hb; have hz := hb.size; (try simp only [World.size_alloc, World.size_setCell, World.size_drew] at hz); obtain ⟨z0, z1, z2, z3, z4, z5, z6, z7⟩ := Flow.zs8 (show w.heap.size + 8 ≤ u4.heap.size by omega))
  go_wp2_with fail
  (refine (ris_c _ _ _).mono ?_; rintro e u5 ⟨rfl, hb⟩; obtain ⟨hc, hf⟩ := Flow.bcell hb; have hz := hb.size; (try simp only [World.size_alloc, World.size_setCell, World.size_drew] at hz); obtain ⟨z0, z1, z2, z3, z4, z5, z6, z7⟩ := Flow.zs8 (show w.heap.size + 8 ≤ u5.heap.size by omega))
  have BB : Below w.heap.size w u5 := by (repeat (first | exact Below.refl _ _ | refine Below.setCell ?_ (by first | omega | (simp <;> omega)) _ | refine Below.alloc ?_ (by first | omega | (simp <;> omega)) _ | refine Below.drew ?_ | refine Below.trans ?_ (Below.mono (by assumption) (by first | omega | (simp <;> omega)))))
  obtain ⟨a0, a1, a2, a3⟩ : u5.cell? ⟨w.heap.size + 1, 0, none⟩ = some (uv a.a) ∧ u5.cell? ⟨w.heap.size + 1, 1, none⟩ = some (uv a.b) ∧ u5.cell? ⟨w.heap.size + 1, 2, none⟩ = some (uv a.c) ∧ u5.cell? ⟨w.heap.size + 1, 3, none⟩ = some (uv a.d) := ⟨by go_simp, by go_simp, by go_simp, by go_simp⟩
  obtain ⟨f0, f1, f2, f3⟩ : u5.frozen? ⟨w.heap.size + 1, 0, none⟩ = false ∧ u5.frozen? ⟨w.heap.size + 1, 1, none⟩ = false ∧ u5.frozen? ⟨w.heap.size + 1, 2, none⟩ = false ∧ u5.frozen? ⟨w.heap.size + 1, 3, none⟩ = false := ⟨by go_simp, by go_simp, by go_simp, by go_simp⟩
  obtain ⟨r0, r1, r2, r3⟩ : u5.cell? ⟨w.heap.size + 1 + 1 + 1 + 1, 0, none⟩ = some (uv 0#32) ∧ u5.cell? ⟨w.heap.size + 1 + 1 + 1 + 1, 1, none⟩ = some (uv 0#32) ∧ u5.cell? ⟨w.heap.size + 1 + 1 + 1 + 1, 2, none⟩ = some (uv 0#32) ∧ u5.cell? ⟨w.heap.size + 1 + 1 + 1 + 1, 3, none⟩ = some (uv 0#32) := ⟨by go_simp, by go_simp, by go_simp, by go_simp⟩
  obtain ⟨g0, g1, g2, g3⟩ : u5.frozen? ⟨w.heap.size + 1 + 1 + 1 + 1, 0, none⟩ = false ∧ u5.frozen? ⟨w.heap.size + 1 + 1 + 1 + 1, 1, none⟩ = false ∧ u5.frozen? ⟨w.heap.size + 1 + 1 + 1 + 1, 2, none⟩ = false ∧ u5.frozen? ⟨w.heap.size + 1 + 1 + 1 + 1, 3, none⟩ = false := ⟨by go_simp, by go_simp, by go_simp, by go_simp⟩
  have q0 : u5.cell? ⟨w.heap.size + 1 + 1 + 1, 0, none⟩ = some (uv b.a) := by go_simp
  clear hb hc hf
  go_wp2_with fail
  refine Flow.bodyPost_k rfl (fun K hK => ?_)
  simp only [results, Tryz.results23]
  go_simp
  refine hK _ ⟨?_, ?_⟩
  · rfl
  · have e1 : w.heap.size ≤ w.heap.size + 1 := by omega
    have e4 : w.heap.size ≤ w.heap.size + 1 + 1 + 1 + 1 := by omega
    exact ((((BB.setCell e1 _).setCell e4 _).setCell e4 _).setCell e4 _).setCell e4 _
set_option maxRecDepth 100000 in
set_option maxHeartbeats 8000000 in
theorem rbin_30_2 (ty : Int) (x a y b : V) (h1 : (Rf.exBin 30 ty 32 ty 2 != 0) = true) (h2 : Vb.is ty x = true) (h3 : Vb.is ty a = true) (h4 : Vb.is 32 y = true) (h5 : Vb.is 32 b = true) (w : World) : Calls Tryz.prog 23 #[iv (30 : Int), iv ty, iv (2 : Int), vv x, vv a, vv y, vv b] w fun e w' => e = .returned (.tuple #[vv ({ a with c := b.a }), iv 0]) ∧ Below w.heap.size w w' := by
  go_enter Tryz.func23, Tryz.ntmps23
  go_wp2_with fail
  (refine (validBin_c 30 ty 32 ty 2 _ 0 _ _ 0 _ _ (by go_simp) (by go_simp) ⟨by go_simp, by go_simp, by go_simp, by go_simp, by go_simp, by go_simp, by go_simp, by go_simp, by go_simp, by go_simp, by go_simp, by go_simp⟩ ).mono ?_; rintro e u1 ⟨rfl, hb⟩; obtain ⟨hc, hf⟩ := Flow.bcell hb; have hz := hb.size; (try simp only [World.size_alloc, World.size_setCell, World.size_drew] at hz); obtain ⟨z0, z1, z2, z3, z4, z5, z6, z7⟩ := Flow.zs8 (show w.heap.size + 8 ≤ u1.heap.size by omega))
  go_wp2_with fail
  (refine (ris_c _ _ _).mono ?_; rintro e u2 ⟨rfl, hb⟩; obtain ⟨hc, hf⟩ := Flow.bcell hb; have hz := hb.size; (try simp only [World.size_alloc, World.size_setCell, World.size_drew] at hz); obtain ⟨z0, z1, z2, z3, z4, z5, z6, z7⟩ := Flow.zs8 (show w.heap.size + 8 ≤ u2.heap.size by omega))
  go_wp2_with fail
  (refine (ris_c _ _ _).mono ?_; rintro e u3 ⟨rfl, hb⟩; obtain ⟨hc, hf⟩ := Flow.bcell hb; have hz := hb.size; (try simp only [World.size_alloc, World.size_setCell, World.size_drew] at hz); obtain ⟨z0, z1, z2, z3, z4, z5, z6, z7⟩ := Flow.zs8 (show w.heap.size + 8 ≤ u3.heap.size by omega))
  go_wp2_with fail
  (refine (ris_c _ _ _).mono ?_; rintro e u4 ⟨rfl, hb⟩; obtain ⟨hc, hf⟩ := Flow.bcell hb; have hz := hb.size; (try simp only [World.size_alloc, World.size_setCell, World.size_drew] at hz); obtain ⟨z0, z1, z2, z3, z4, z5, z6, z7⟩ := Flow.zs8 (show w.heap.size + 8 ≤ u4.heap.size by omega))
  go_wp2_with fail
  (refine (ris_c _ _ _).mono ?_; rintro e u5 ⟨rfl, hb⟩; obtain ⟨hc, hf⟩ := Flow.bcell hb; have hz := hb.size; (try simp only [World.size_alloc, World.size_setCell, World.size_drew] at hz); obtain ⟨z0, z1, z2, z3, z4, z5, z6, z7⟩ := Flow.zs8 (show w.heap.size + 8 ≤ u5.heap.size by omega))
  have BB : Below w.heap.size w u5 := by (repeat (first | exact Below.refl _ _ | refine Below.setCell ?_ (by first | omega | (simp <;> omega)) _ | refine Below.alloc ?_ (by first | omega | (simp <;> omega)) _ | refine Below.drew ?_ | refine Below.trans ?_ (Below.mono (by assumption) (by first | omega | (simp <;> omega)))))
  obtain ⟨a0, a1, a2, a3⟩ : u5.cell? ⟨w.heap.size + 1, 0, none⟩ = some (uv a.a) ∧ u5.cell? ⟨w.heap.size + 1, 1, none⟩ = some (uv a.b) ∧ u5.cell? ⟨w.heap.size + 1, 2, none⟩ = some (uv a.c) ∧ u5.cell? ⟨w.heap.size + 1, 3, none⟩ = some (uv a.d) := ⟨by go_simp, by go_simp, by go_simp, by go_simp⟩
  obtain ⟨f0, f1, f2, f3⟩ : u5.frozen? ⟨w.heap.size + 1, 0, none⟩ = false ∧ u5.frozen? ⟨w.heap.size + 1, 1, none⟩ = false ∧ u5.frozen? ⟨w.heap.size + 1, 2, none⟩ = false ∧ u5.frozen? ⟨w.heap.size + 1, 3, none⟩ = false := ⟨by go_simp, by go_simp, by go_simp, by go_simp⟩
  obtain ⟨r0, r1, r2, r3⟩ : u5.cell? ⟨w.heap.size + 1 + 1 + 1 + 1, 0, none⟩ = some (uv 0#32) ∧ u5.cell? ⟨w.heap.size + 1 + 1 + 1 + 1, 1, none⟩ = some (uv 0#32) ∧ u5.cell? ⟨w.heap.size + 1 + 1 + 1 + 1, 2, none⟩ = some (uv 0#32) ∧ u5.cell? ⟨w.heap.size + 1 + 1 + 1 + 1, 3, none⟩ = some (uv 0#32) := ⟨by go_simp, by go_simp, by go_simp, by go_simp⟩
  obtain ⟨g0, g1, g2, g3⟩ : u5.frozen? ⟨w.heap.size + 1 + 1 + 1 + 1, 0, none⟩ = false ∧ u5.frozen? ⟨w.heap.size + 1 + 1 + 1 + 1, 1, none⟩ = false ∧ u5.frozen? ⟨w.heap.size + 1 + 1 + 1 + 1, 2, none⟩ = false ∧ u5.frozen? ⟨w.heap.size + 1 + 1 + 1 + 1, 3, none⟩ = false := ⟨by go_simp, by go_simp, by go_simp, by go_simp⟩
  have q0 : u5.cell? ⟨w.heap.size + 1 + 1 + 1, 0, none⟩ = some (uv b.a) := by go_simp
  clear hb hc hf
  go_wp2_with fail
  refine Flow.bodyPost_k rfl (fun K hK => ?_)
  simp only [results, Tryz.results23]
  go_simp
  refine hK _ ⟨?_, ?_⟩
  · rfl
  · have e1 : w.heap.size ≤ w.heap.size + 1 := by omega
    have e4 : w.heap.size ≤ w.heap.size + 1 + 1 + 1 + 1 := by omega
    exact ((((BB.setCell e1 _).setCell e4 _).setCell e4 _).setCell e4 _).setCell e4 _
set_option maxRecDepth 100000 in
set_option maxHeartbeats 8000000 in
theorem rbin_30_3 (ty : Int) (x a y b : V) (h1 : (Rf.exBin 30 ty 32 ty 3 != 0) = true) (h2 : Vb.is ty x = true) (h3 : Vb.is ty a = true) (h4 : Vb.is 32 y = true) (h5 : Vb.is 32 b = true) (w : World) : Calls Tryz.prog 23 #[iv (30 : Int), iv ty, iv (3 : Int), vv x, vv a, vv y, vv b] w fun e w' => e = .returned (.tuple #[vv ({ a with d := b.a }), iv 0]) ∧ Below w.heap.size w w' := by
  go_enter Tryz.func23, Tryz.ntmps23
  go_wp2_with fail
  (refine (validBin_c 30 ty 32 ty 3 _ 0 _ _ 0 _ _ (by go_simp) (by go_simp) ⟨by go_simp, by go_simp, by go_simp, by go_simp, by go_simp, by go_simp, by go_simp, by go_simp, by go_simp, by go_simp, by go_simp, by go_simp⟩ ).mono ?_; rintro e u1 ⟨rfl, hb⟩; obtain ⟨hc, hf⟩ := Flow.bcell hb; have hz := hb.size; (try simp only [World.size_alloc, World.size_setCell, World.size_drew] at hz); obtain ⟨z0, z1, z2, z3, z4, z5, z6, z7⟩ := Flow.zs8 (show w.heap.size + 8 ≤ u1.heap.size by omega))
  go_wp2_with fail
  (refine (ris_c _ _ _).mono ?_; rintro e u2 ⟨rfl, hb⟩; obtain ⟨hc, hf⟩ := Flow.bcell hb; have hz := hb.size; (try simp only [World.size_alloc, World.size_setCell, World.size_drew] at hz); obtain ⟨z0, z1, z2, z3, z4, z5, z6, z7⟩ := Flow.zs8 (show w.heap.size + 8 ≤ u2.heap.size by omega))
  go_wp2_with fail
  (refine (ris_c _ _ _).mono ?_; rintro e u3 ⟨rfl, hb⟩; obtain ⟨hc, hf⟩ := Flow.bcell hb; have hz := hb.size; (try simp only [World.size_alloc, World.size_setCell, World.size_drew] at hz); obtain ⟨z0, z1, z2, z3, z4, z5, z6, z7⟩ := Flow.zs8 (show w.heap.size + 8 ≤ u3.heap.size by omega))
  go_wp2_with fail
  (refine (ris_c _ _ _).mono ?_; rintro e u4 ⟨rfl, hb⟩; obtain ⟨hc, hf⟩ := Flow.bcell hb; have hz := hb.size; (try simp only [World.size_alloc, World.size_setCell, World.size_drew] at hz); obtain ⟨z0, z1, z2, z3, z4, z5, z6, z7⟩ := Flow.zs8 (show w.heap.size + 8 ≤ u4.heap.size by omega))
  go_wp2_with fail
  (refine (ris_c _ _ _).mono ?_; rintro e u5 ⟨rfl, hb⟩; obtain ⟨hc, hf⟩ := Flow.bcell hb; have hz := hb.size; (try simp only [World.size_alloc, World.size_setCell, World.size_drew] at hz); obtain ⟨z0, z1, z2, z3, z4, z5, z6, z7⟩ := Flow.zs8 (show w.heap.size + 8 ≤ u5.heap.size by omega))
  have BB : Below w.heap.size w u5 := by (repeat (first | exact Below.refl _ _ | refine Below.setCell ?_ (by first | omega | (simp <;> omega)) _ | refine Below.alloc ?_ (by first | omega | (simp <;> omega)) _ | refine Below.drew ?_ | refine Below.trans ?_ (Below.mono (by assumption) (by first | omega | (simp <;> omega)))))
  obtain ⟨a0, a1, a2, a3⟩ : u5.cell? ⟨w.heap.size + 1, 0, none⟩ = some (uv a.a) ∧ u5.cell? ⟨w.heap.size + 1, 1, none⟩ = some (uv a.b) ∧ u5.cell? ⟨w.heap.size + 1, 2, none⟩ = some (uv a.c) ∧ u5.cell? ⟨w.heap.size + 1, 3, none⟩ = some (uv a.d) := ⟨by go_simp, by go_simp, by go_simp, by go_simp⟩
  obtain ⟨f0, f1, f2, f3⟩ : u5.frozen? ⟨w.heap.size + 1, 0, none⟩ = false ∧ u5.frozen? ⟨w.heap.size + 1, 1, none⟩ = false ∧ u5.frozen? ⟨w.heap.size + 1, 2, none⟩ = false ∧ u5.frozen? ⟨w.heap.size + 1, 3, none⟩ = false := ⟨by go_simp, by go_simp, by go_simp, by go_simp⟩
  obtain ⟨r0, r1, r2, r3⟩ : u5.cell? ⟨w.heap.size + 1 + 1 + 1 + 1, 0, none⟩ = some (uv 0#32) ∧ u5.cell? ⟨w.heap.size + 1 + 1 + 1 + 1, 1, none⟩ = some (uv 0#32) ∧ u5.cell? ⟨w.heap.size + 1 + 1 + 1 + 1, 2, none⟩ = some (uv 0#32) ∧ u5.cell? ⟨w.heap.size + 1 + 1 + 1 + 1, 3, none⟩ = some (uv 0#32) := ⟨by go_simp, by go_simp, by go_simp, by go_simp⟩
  obtain ⟨g0, g1, g2, g3⟩ : u5.frozen? ⟨w.heap.size + 1 + 1 + 1 + 1, 0, none⟩ = false ∧ u5.frozen? ⟨w.heap.size + 1 + 1 + 1 + 1, 1, none⟩ = false ∧ u5.frozen? ⟨w.heap.size + 1 + 1 + 1 + 1, 2, none⟩ = false ∧ u5.frozen? ⟨w.heap.size + 1 + 1 + 1 + 1, 3, none⟩ = false := ⟨by go_simp, by go_simp, by go_simp, by go_simp⟩
  have q0 : u5.cell? ⟨w.heap.size + 1 + 1 + 1, 0, none⟩ = some (uv b.a) := by go_simp
  clear hb hc hf
  go_wp2_with fail
  refine Flow.bodyPost_k rfl (fun K hK => ?_)
  simp only [results, Tryz.results23]
  go_simp
  refine hK _ ⟨?_, ?_⟩
  · rfl
  · have e1 : w.heap.size ≤ w.heap.size + 1 := by omega
    have e4 : w.heap.size ≤ w.heap.size + 1 + 1 + 1 + 1 := by omega
    exact ((((BB.setCell e1 _).setCell e4 _).setCell e4 _).setCell e4 _).setCell e4 _
end Go.Proofs.YtboknfppecgjmaaGreat
