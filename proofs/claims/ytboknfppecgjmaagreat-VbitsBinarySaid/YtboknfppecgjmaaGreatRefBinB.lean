/- The reference's Bin, operation by operation. -/
import Derived.Test.YtboknfppecgjmaaGreatRefBin
namespace Go.Proofs.YtboknfppecgjmaaGreat
set_option linter.unusedVariables false
set_option linter.unusedSimpArgs false
open Go.RowKit Go.Shelf
set_option maxRecDepth 100000 in
set_option maxHeartbeats 8000000 in
theorem rbin_8 (ty off : Int) (x a y b : V) (h1 : (Rf.exBin 8 ty ty ty off != 0) = true) (h2 : Vb.is ty x = true) (h3 : Vb.is ty a = true) (h4 : Vb.is ty y = true) (h5 : Vb.is ty b = true) (w : World) : Calls Tryz.prog 23 #[iv (8 : Int), iv ty, iv off, vv x, vv a, vv y, vv b] w fun e w' => e = .returned (.tuple #[vv ((a.and (y.or b)).or (b.and (x.or a))), iv 0]) ∧ Below w.heap.size w w' := by
  go_enter Tryz.func23, Tryz.ntmps23
  go_wp2_with fail
  (refine (validBin_c 8 ty ty ty off _ 0 _ _ 0 _ _ (by go_simp) (by go_simp) ⟨by go_simp, by go_simp, by go_simp, by go_simp, by go_simp, by go_simp, by go_simp, by go_simp, by go_simp, by go_simp, by go_simp, by go_simp⟩ ).mono ?_; rintro e u1 ⟨rfl, hb⟩; obtain ⟨hc, hf⟩ := Flow.bcell hb; have hz := hb.size; (try simp only [World.size_alloc, World.size_setCell, World.size_drew] at hz); obtain ⟨z0, z1, z2, z3, z4, z5, z6, z7⟩ := Flow.zs8 (show w.heap.size + 8 ≤ u1.heap.size by omega))
  go_wp2_with fail
  (refine (ris_c _ _ _).mono ?_; rintro e u2 ⟨rfl, hb⟩; obtain ⟨hc, hf⟩ := Flow.bcell hb; have hz := hb.size; (try simp only [World.size_alloc, World.size_setCell, World.size_drew] at hz); obtain ⟨z0, z1, z2, z3, z4, z5, z6, z7⟩ := Flow.zs8 (show w.heap.size + 8 ≤ u2.heap.size by omega))
  go_wp2_with fail
  (refine (ris_c _ _ _).mono ?_; rintro e u3 ⟨rfl, hb⟩; obtain ⟨hc, hf⟩ := Flow.bcell hb; have hz := hb.size; (try simp only [World.size_alloc, World.size_setCell, World.size_drew] at hz); obtain ⟨z0, z1, z2, z3, z4, z5, z6, z7⟩ := Flow.zs8 (show w.heap.size + 8 ≤ u3.heap.size by omega))
  go_wp2_with fail
  (refine (ris_c _ _ _).mono ?_; rintro e u4 ⟨rfl, hb⟩; obtain ⟨hc, hf⟩ := Flow.bcell hb; have hz := hb.size; (try simp only [World.size_alloc, World.size_setCell, World.size_drew] at hz); obtain ⟨z0, z1, z2, z3, z4, z5, z6, z7⟩ := Flow.zs8 (show w.heap.size + 8 ≤ u4.heap.size by omega))
  go_wp2_with fail
  (refine (ris_c _ _ _).mono ?_; rintro e u5 ⟨rfl, hb⟩; obtain ⟨hc, hf⟩ := Flow.bcell hb; have hz := hb.size; (try simp only [World.size_alloc, World.size_setCell, World.size_drew] at hz); obtain ⟨z0, z1, z2, z3, z4, z5, z6, z7⟩ := Flow.zs8 (show w.heap.size + 8 ≤ u5.heap.size by omega))
  go_wp2_with fail
  refine Flow.wp_region_below 11 (by kernel_rfl) (by kernel_rfl) (fun R hRc hRt => ?_)
  simp only [List.take_succ_cons, List.take_zero, List.drop_succ_cons, List.drop_zero]
  iterate 11
    first
      | refine Flow.flow_skip rfl ?_
      | (apply Flow.flow_step; rfl; (intro w1 hb; have hc := hRc.out w1 hb; go_simp; (first | with_reducible exact ⟨rfl, hb⟩ | (go_at_call 29; refine (ror_c _ _ _).mono ?_; rintro e w2 ⟨rfl, hb2⟩; exact ⟨_, rfl, rfl, hRt.out _ _ hb hb2⟩) | (go_at_call 15; refine (rand_c _ _ _).mono ?_; rintro e w2 ⟨rfl, hb2⟩; exact ⟨_, rfl, rfl, hRt.out _ _ hb hb2⟩))))
    simp only [Act.put, List.setIfInBounds_toArray, List.set_cons_zero, List.set_cons_succ]
  apply Flow.flow_nil
  clear hRc hRt
  intro w1 hb
  obtain ⟨hc, hf⟩ := Flow.bcell hb
  have hz := hb.size
  (try simp only [World.size_alloc, World.size_setCell, World.size_drew] at hz)
  obtain ⟨z0, z1, z2, z3, z4, z5, z6, z7⟩ := Flow.zs8 (show w.heap.size + 8 ≤ w1.heap.size by omega)
  go_wp2_with fail
  refine Flow.bodyPost_k rfl (fun K hK => ?_)
  simp only [results, Tryz.results23]
  go_simp
  refine hK _ ⟨?_, ?_⟩
  · rfl
  · (repeat (first | exact Below.refl _ _ | refine Below.setCell ?_ (by first | omega | (simp <;> omega)) _ | refine Below.alloc ?_ (by first | omega | (simp <;> omega)) _ | refine Below.drew ?_ | refine Below.trans ?_ (Below.mono (by assumption) (by first | omega | (simp <;> omega)))))
set_option maxRecDepth 100000 in
set_option maxHeartbeats 8000000 in
theorem rbin_9 (ty off : Int) (x a y b : V) (h1 : (Rf.exBin 9 ty ty ty off != 0) = true) (h2 : Vb.is ty x = true) (h3 : Vb.is ty a = true) (h4 : Vb.is ty y = true) (h5 : Vb.is ty b = true) (w : World) : Calls Tryz.prog 23 #[iv (9 : Int), iv ty, iv off, vv x, vv a, vv y, vv b] w fun e w' => e = .returned (.tuple #[vv ((a.and ((Rf.not ty y).or b)).or (b.and ((Rf.not ty x).or a))), iv 0]) ∧ Below w.heap.size w w' := by
  go_enter Tryz.func23, Tryz.ntmps23
  go_wp2_with fail
  (refine (validBin_c 9 ty ty ty off _ 0 _ _ 0 _ _ (by go_simp) (by go_simp) ⟨by go_simp, by go_simp, by go_simp, by go_simp, by go_simp, by go_simp, by go_simp, by go_simp, by go_simp, by go_simp, by go_simp, by go_simp⟩ ).mono ?_; rintro e u1 ⟨rfl, hb⟩; obtain ⟨hc, hf⟩ := Flow.bcell hb; have hz := hb.size; (try simp only [World.size_alloc, World.size_setCell, World.size_drew] at hz); obtain ⟨z0, z1, z2, z3, z4, z5, z6, z7⟩ := Flow.zs8 (show w.heap.size + 8 ≤ u1.heap.size by omega))
  go_wp2_with fail
  (refine (ris_c _ _ _).mono ?_; rintro e u2 ⟨rfl, hb⟩; obtain ⟨hc, hf⟩ := Flow.bcell hb; have hz := hb.size; (try simp only [World.size_alloc, World.size_setCell, World.size_drew] at hz); obtain ⟨z0, z1, z2, z3, z4, z5, z6, z7⟩ := Flow.zs8 (show w.heap.size + 8 ≤ u2.heap.size by omega))
  go_wp2_with fail
  (refine (ris_c _ _ _).mono ?_; rintro e u3 ⟨rfl, hb⟩; obtain ⟨hc, hf⟩ := Flow.bcell hb; have hz := hb.size; (try simp only [World.size_alloc, World.size_setCell, World.size_drew] at hz); obtain ⟨z0, z1, z2, z3, z4, z5, z6, z7⟩ := Flow.zs8 (show w.heap.size + 8 ≤ u3.heap.size by omega))
  go_wp2_with fail
  (refine (ris_c _ _ _).mono ?_; rintro e u4 ⟨rfl, hb⟩; obtain ⟨hc, hf⟩ := Flow.bcell hb; have hz := hb.size; (try simp only [World.size_alloc, World.size_setCell, World.size_drew] at hz); obtain ⟨z0, z1, z2, z3, z4, z5, z6, z7⟩ := Flow.zs8 (show w.heap.size + 8 ≤ u4.heap.size by omega))
  go_wp2_with fail
  (refine (ris_c _ _ _).mono ?_; rintro e u5 ⟨rfl, hb⟩; obtain ⟨hc, hf⟩ := Flow.bcell hb; have hz := hb.size; (try simp only [World.size_alloc, World.size_setCell, World.size_drew] at hz); obtain ⟨z0, z1, z2, z3, z4, z5, z6, z7⟩ := Flow.zs8 (show w.heap.size + 8 ≤ u5.heap.size by omega))
  go_wp2_with fail
  refine Flow.wp_region_below 15 (by kernel_rfl) (by kernel_rfl) (fun R hRc hRt => ?_)
  simp only [List.take_succ_cons, List.take_zero, List.drop_succ_cons, List.drop_zero]
  iterate 15
    first
      | refine Flow.flow_skip rfl ?_
      | (apply Flow.flow_step; rfl; (intro w1 hb; have hc := hRc.out w1 hb; go_simp; (first | with_reducible exact ⟨rfl, hb⟩ | (go_at_call 14; refine (rnot_c _ _ _).mono ?_; rintro e w2 ⟨rfl, hb2⟩; exact ⟨_, rfl, rfl, hRt.out _ _ hb hb2⟩) | (go_at_call 29; refine (ror_c _ _ _).mono ?_; rintro e w2 ⟨rfl, hb2⟩; exact ⟨_, rfl, rfl, hRt.out _ _ hb hb2⟩) | (go_at_call 15; refine (rand_c _ _ _).mono ?_; rintro e w2 ⟨rfl, hb2⟩; exact ⟨_, rfl, rfl, hRt.out _ _ hb hb2⟩))))
    simp only [Act.put, List.setIfInBounds_toArray, List.set_cons_zero, List.set_cons_succ]
  apply Flow.flow_nil
  clear hRc hRt
  intro w1 hb
  obtain ⟨hc, hf⟩ := Flow.bcell hb
  have hz := hb.size
  (try simp only [World.size_alloc, World.size_setCell, World.size_drew] at hz)
  obtain ⟨z0, z1, z2, z3, z4, z5, z6, z7⟩ := Flow.zs8 (show w.heap.size + 8 ≤ w1.heap.size by omega)
  go_wp2_with fail
  refine Flow.bodyPost_k rfl (fun K hK => ?_)
  simp only [results, Tryz.results23]
  go_simp
  refine hK _ ⟨?_, ?_⟩
  · rfl
  · (repeat (first | exact Below.refl _ _ | refine Below.setCell ?_ (by first | omega | (simp <;> omega)) _ | refine Below.alloc ?_ (by first | omega | (simp <;> omega)) _ | refine Below.drew ?_ | refine Below.trans ?_ (Below.mono (by assumption) (by first | omega | (simp <;> omega)))))
set_option maxRecDepth 100000 in
set_option maxHeartbeats 8000000 in
theorem rbin_10 (ty off : Int) (x a y b : V) (h1 : (Rf.exBin 10 ty ty ty off != 0) = true) (h2 : Vb.is ty x = true) (h3 : Vb.is ty a = true) (h4 : Vb.is ty y = true) (h5 : Vb.is ty b = true) (w : World) : Calls Tryz.prog 23 #[iv (10 : Int), iv ty, iv off, vv x, vv a, vv y, vv b] w fun e w' => e = .returned (.tuple #[vv (a.or b), iv 0]) ∧ Below w.heap.size w w' := by
  go_enter Tryz.func23, Tryz.ntmps23
  go_wp2_with fail
  (refine (validBin_c 10 ty ty ty off _ 0 _ _ 0 _ _ (by go_simp) (by go_simp) ⟨by go_simp, by go_simp, by go_simp, by go_simp, by go_simp, by go_simp, by go_simp, by go_simp, by go_simp, by go_simp, by go_simp, by go_simp⟩ ).mono ?_; rintro e u1 ⟨rfl, hb⟩; obtain ⟨hc, hf⟩ := Flow.bcell hb; have hz := hb.size; (try simp only [World.size_alloc, World.size_setCell, World.size_drew] at hz); obtain ⟨z0, z1, z2, z3, z4, z5, z6, z7⟩ := Flow.zs8 (show w.heap.size + 8 ≤ u1.heap.size by omega))
  go_wp2_with fail
  (refine (ris_c _ _ _).mono ?_; rintro e u2 ⟨rfl, hb⟩; obtain ⟨hc, hf⟩ := Flow.bcell hb; have hz := hb.size; (try simp only [World.size_alloc, World.size_setCell, World.size_drew] at hz); obtain ⟨z0, z1, z2, z3, z4, z5, z6, z7⟩ := Flow.zs8 (show w.heap.size + 8 ≤ u2.heap.size by omega))
  go_wp2_with fail
  (refine (ris_c _ _ _).mono ?_; rintro e u3 ⟨rfl, hb⟩; obtain ⟨hc, hf⟩ := Flow.bcell hb; have hz := hb.size; (try simp only [World.size_alloc, World.size_setCell, World.size_drew] at hz); obtain ⟨z0, z1, z2, z3, z4, z5, z6, z7⟩ := Flow.zs8 (show w.heap.size + 8 ≤ u3.heap.size by omega))
  go_wp2_with fail
  (refine (ris_c _ _ _).mono ?_; rintro e u4 ⟨rfl, hb⟩; obtain ⟨hc, hf⟩ := Flow.bcell hb; have hz := hb.size; (try simp only [World.size_alloc, World.size_setCell, World.size_drew] at hz); obtain ⟨z0, z1, z2, z3, z4, z5, z6, z7⟩ := Flow.zs8 (show w.heap.size + 8 ≤ u4.heap.size by omega))
  go_wp2_with fail
  (refine (ris_c _ _ _).mono ?_; rintro e u5 ⟨rfl, hb⟩; obtain ⟨hc, hf⟩ := Flow.bcell hb; have hz := hb.size; (try simp only [World.size_alloc, World.size_setCell, World.size_drew] at hz); obtain ⟨z0, z1, z2, z3, z4, z5, z6, z7⟩ := Flow.zs8 (show w.heap.size + 8 ≤ u5.heap.size by omega))
  go_wp2_with fail
  (refine (ror_c _ _ _).mono ?_; rintro e u6 ⟨rfl, hb⟩; obtain ⟨hc, hf⟩ := Flow.bcell hb; have hz := hb.size; (try simp only [World.size_alloc, World.size_setCell, World.size_drew] at hz); obtain ⟨z0, z1, z2, z3, z4, z5, z6, z7⟩ := Flow.zs8 (show w.heap.size + 8 ≤ u6.heap.size by omega))
  go_wp2_with fail
  refine Flow.bodyPost_k rfl (fun K hK => ?_)
  simp only [results, Tryz.results23]
  go_simp
  refine hK _ ⟨?_, ?_⟩
  · rfl
  · (repeat (first | exact Below.refl _ _ | refine Below.setCell ?_ (by first | omega | (simp <;> omega)) _ | refine Below.alloc ?_ (by first | omega | (simp <;> omega)) _ | refine Below.drew ?_ | refine Below.trans ?_ (Below.mono (by assumption) (by first | omega | (simp <;> omega)))))
set_option maxRecDepth 100000 in
set_option maxHeartbeats 8000000 in
theorem rbin_14 (ty off : Int) (x a y b : V) (h1 : (Rf.exBin 14 ty ty 1 off != 0) = true) (h2 : Vb.is ty x = true) (h3 : Vb.is ty a = true) (h4 : Vb.is ty y = true) (h5 : Vb.is ty b = true) (w : World) : Calls Tryz.prog 23 #[iv (14 : Int), iv ty, iv off, vv x, vv a, vv y, vv b] w fun e w' => e = .returned (.tuple #[vv (V.word (Rf.bitOf (Rf.undecided (x.xor y) (a.or b)))), iv 0]) ∧ Below w.heap.size w w' := by
  go_enter Tryz.func23, Tryz.ntmps23
  go_wp2_with fail
  (refine (validBin_c 14 ty ty 1 off _ 0 _ _ 0 _ _ (by go_simp) (by go_simp) ⟨by go_simp, by go_simp, by go_simp, by go_simp, by go_simp, by go_simp, by go_simp, by go_simp, by go_simp, by go_simp, by go_simp, by go_simp⟩ ).mono ?_; rintro e u1 ⟨rfl, hb⟩; obtain ⟨hc, hf⟩ := Flow.bcell hb; have hz := hb.size; (try simp only [World.size_alloc, World.size_setCell, World.size_drew] at hz); obtain ⟨z0, z1, z2, z3, z4, z5, z6, z7⟩ := Flow.zs8 (show w.heap.size + 8 ≤ u1.heap.size by omega))
  go_wp2_with fail
  (refine (ris_c _ _ _).mono ?_; rintro e u2 ⟨rfl, hb⟩; obtain ⟨hc, hf⟩ := Flow.bcell hb; have hz := hb.size; (try simp only [World.size_alloc, World.size_setCell, World.size_drew] at hz); obtain ⟨z0, z1, z2, z3, z4, z5, z6, z7⟩ := Flow.zs8 (show w.heap.size + 8 ≤ u2.heap.size by omega))
  go_wp2_with fail
  (refine (ris_c _ _ _).mono ?_; rintro e u3 ⟨rfl, hb⟩; obtain ⟨hc, hf⟩ := Flow.bcell hb; have hz := hb.size; (try simp only [World.size_alloc, World.size_setCell, World.size_drew] at hz); obtain ⟨z0, z1, z2, z3, z4, z5, z6, z7⟩ := Flow.zs8 (show w.heap.size + 8 ≤ u3.heap.size by omega))
  go_wp2_with fail
  (refine (ris_c _ _ _).mono ?_; rintro e u4 ⟨rfl, hb⟩; obtain ⟨hc, hf⟩ := Flow.bcell hb; have hz := hb.size; (try simp only [World.size_alloc, World.size_setCell, World.size_drew] at hz); obtain ⟨z0, z1, z2, z3, z4, z5, z6, z7⟩ := Flow.zs8 (show w.heap.size + 8 ≤ u4.heap.size by omega))
  go_wp2_with fail
  (refine (ris_c _ _ _).mono ?_; rintro e u5 ⟨rfl, hb⟩; obtain ⟨hc, hf⟩ := Flow.bcell hb; have hz := hb.size; (try simp only [World.size_alloc, World.size_setCell, World.size_drew] at hz); obtain ⟨z0, z1, z2, z3, z4, z5, z6, z7⟩ := Flow.zs8 (show w.heap.size + 8 ≤ u5.heap.size by omega))
  go_wp2_with fail
  refine Flow.wp_region_below 9 (by kernel_rfl) (by kernel_rfl) (fun R hRc hRt => ?_)
  simp only [List.take_succ_cons, List.take_zero, List.drop_succ_cons, List.drop_zero]
  iterate 9
    first
      | refine Flow.flow_skip rfl ?_
      | (apply Flow.flow_step; rfl; (intro w1 hb; have hc := hRc.out w1 hb; go_simp; (first | with_reducible exact ⟨rfl, hb⟩ | (go_at_call 16; refine (rxor_c _ _ _).mono ?_; rintro e w2 ⟨rfl, hb2⟩; exact ⟨_, rfl, rfl, hRt.out _ _ hb hb2⟩) | (go_at_call 29; refine (ror_c _ _ _).mono ?_; rintro e w2 ⟨rfl, hb2⟩; exact ⟨_, rfl, rfl, hRt.out _ _ hb hb2⟩) | (go_at_call 61; refine (undecided_c (x.xor y) (a.or b) _ ).mono ?_; rintro e w2 ⟨rfl, hb2⟩; exact ⟨_, rfl, rfl, hRt.out _ _ hb hb2⟩) | (go_at_call 60; refine (bitOf_c (Rf.undecided (x.xor y) (a.or b)) _ ).mono ?_; rintro e w2 ⟨rfl, hb2⟩; exact ⟨_, rfl, rfl, hRt.out _ _ hb hb2⟩))))
    simp only [Act.put, List.setIfInBounds_toArray, List.set_cons_zero, List.set_cons_succ]
  apply Flow.flow_nil
  clear hRc hRt
  intro w1 hb
  obtain ⟨hc, hf⟩ := Flow.bcell hb
  have hz := hb.size
  (try simp only [World.size_alloc, World.size_setCell, World.size_drew] at hz)
  obtain ⟨z0, z1, z2, z3, z4, z5, z6, z7⟩ := Flow.zs8 (show w.heap.size + 8 ≤ w1.heap.size by omega)
  go_wp2_with fail
  refine Flow.bodyPost_k rfl (fun K hK => ?_)
  simp only [results, Tryz.results23]
  go_simp
  refine hK _ ⟨?_, ?_⟩
  · rfl
  · (repeat (first | exact Below.refl _ _ | refine Below.setCell ?_ (by first | omega | (simp <;> omega)) _ | refine Below.alloc ?_ (by first | omega | (simp <;> omega)) _ | refine Below.drew ?_ | refine Below.trans ?_ (Below.mono (by assumption) (by first | omega | (simp <;> omega)))))
set_option maxRecDepth 100000 in
set_option maxHeartbeats 8000000 in
theorem rbin_15 (ty off : Int) (x a y b : V) (h1 : (Rf.exBin 15 ty ty 1 off != 0) = true) (h2 : Vb.is ty x = true) (h3 : Vb.is ty a = true) (h4 : Vb.is ty y = true) (h5 : Vb.is ty b = true) (w : World) : Calls Tryz.prog 23 #[iv (15 : Int), iv ty, iv off, vv x, vv a, vv y, vv b] w fun e w' => e = .returned (.tuple #[vv (V.word (Rf.bitOf (Rf.undecided (x.xor y) (a.or b)))), iv 0]) ∧ Below w.heap.size w w' := by
  go_enter Tryz.func23, Tryz.ntmps23
  go_wp2_with fail
  (refine (validBin_c 15 ty ty 1 off _ 0 _ _ 0 _ _ (by go_simp) (by go_simp) ⟨by go_simp, by go_simp, by go_simp, by go_simp, by go_simp, by go_simp, by go_simp, by go_simp, by go_simp, by go_simp, by go_simp, by go_simp⟩ ).mono ?_; rintro e u1 ⟨rfl, hb⟩; obtain ⟨hc, hf⟩ := Flow.bcell hb; have hz := hb.size; (try simp only [World.size_alloc, World.size_setCell, World.size_drew] at hz); obtain ⟨z0, z1, z2, z3, z4, z5, z6, z7⟩ := Flow.zs8 (show w.heap.size + 8 ≤ u1.heap.size by omega))
  go_wp2_with fail
  (refine (ris_c _ _ _).mono ?_; rintro e u2 ⟨rfl, hb⟩; obtain ⟨hc, hf⟩ := Flow.bcell hb; have hz := hb.size; (try simp only [World.size_alloc, World.size_setCell, World.size_drew] at hz); obtain ⟨z0, z1, z2, z3, z4, z5, z6, z7⟩ := Flow.zs8 (show w.heap.size + 8 ≤ u2.heap.size by omega))
  go_wp2_with fail
  (refine (ris_c _ _ _).mono ?_; rintro e u3 ⟨rfl, hb⟩; obtain ⟨hc, hf⟩ := Flow.bcell hb; have hz := hb.size; (try simp only [World.size_alloc, World.size_setCell, World.size_drew] at hz); obtain ⟨z0, z1, z2, z3, z4, z5, z6, z7⟩ := Flow.zs8 (show w.heap.size + 8 ≤ u3.heap.size by omega))
  go_wp2_with fail
  (refine (ris_c _ _ _).mono ?_; rintro e u4 ⟨rfl, hb⟩; obtain ⟨hc, hf⟩ := Flow.bcell hb; have hz := hb.size; (try simp only [World.size_alloc, World.size_setCell, World.size_drew] at hz); obtain ⟨z0, z1, z2, z3, z4, z5, z6, z7⟩ := Flow.zs8 (show w.heap.size + 8 ≤ u4.heap.size by omega))
  go_wp2_with fail
  (refine (ris_c _ _ _).mono ?_; rintro e u5 ⟨rfl, hb⟩; obtain ⟨hc, hf⟩ := Flow.bcell hb; have hz := hb.size; (try simp only [World.size_alloc, World.size_setCell, World.size_drew] at hz); obtain ⟨z0, z1, z2, z3, z4, z5, z6, z7⟩ := Flow.zs8 (show w.heap.size + 8 ≤ u5.heap.size by omega))
  go_wp2_with fail
  refine Flow.wp_region_below 9 (by kernel_rfl) (by kernel_rfl) (fun R hRc hRt => ?_)
  simp only [List.take_succ_cons, List.take_zero, List.drop_succ_cons, List.drop_zero]
  iterate 9
    first
      | refine Flow.flow_skip rfl ?_
      | (apply Flow.flow_step; rfl; (intro w1 hb; have hc := hRc.out w1 hb; go_simp; (first | with_reducible exact ⟨rfl, hb⟩ | (go_at_call 16; refine (rxor_c _ _ _).mono ?_; rintro e w2 ⟨rfl, hb2⟩; exact ⟨_, rfl, rfl, hRt.out _ _ hb hb2⟩) | (go_at_call 29; refine (ror_c _ _ _).mono ?_; rintro e w2 ⟨rfl, hb2⟩; exact ⟨_, rfl, rfl, hRt.out _ _ hb hb2⟩) | (go_at_call 61; refine (undecided_c (x.xor y) (a.or b) _ ).mono ?_; rintro e w2 ⟨rfl, hb2⟩; exact ⟨_, rfl, rfl, hRt.out _ _ hb hb2⟩) | (go_at_call 60; refine (bitOf_c (Rf.undecided (x.xor y) (a.or b)) _ ).mono ?_; rintro e w2 ⟨rfl, hb2⟩; exact ⟨_, rfl, rfl, hRt.out _ _ hb hb2⟩))))
    simp only [Act.put, List.setIfInBounds_toArray, List.set_cons_zero, List.set_cons_succ]
  apply Flow.flow_nil
  clear hRc hRt
  intro w1 hb
  obtain ⟨hc, hf⟩ := Flow.bcell hb
  have hz := hb.size
  (try simp only [World.size_alloc, World.size_setCell, World.size_drew] at hz)
  obtain ⟨z0, z1, z2, z3, z4, z5, z6, z7⟩ := Flow.zs8 (show w.heap.size + 8 ≤ w1.heap.size by omega)
  go_wp2_with fail
  refine Flow.bodyPost_k rfl (fun K hK => ?_)
  simp only [results, Tryz.results23]
  go_simp
  refine hK _ ⟨?_, ?_⟩
  · rfl
  · (repeat (first | exact Below.refl _ _ | refine Below.setCell ?_ (by first | omega | (simp <;> omega)) _ | refine Below.alloc ?_ (by first | omega | (simp <;> omega)) _ | refine Below.drew ?_ | refine Below.trans ?_ (Below.mono (by assumption) (by first | omega | (simp <;> omega)))))
set_option maxRecDepth 100000 in
set_option maxHeartbeats 8000000 in
theorem rbin_29 (ty off : Int) (x a y b : V) (h1 : (Rf.exBin 29 ty ty ty off != 0) = true) (h2 : Vb.is ty x = true) (h3 : Vb.is ty a = true) (h4 : Vb.is ty y = true) (h5 : Vb.is ty b = true) (w : World) : Calls Tryz.prog 23 #[iv (29 : Int), iv ty, iv off, vv x, vv a, vv y, vv b] w fun e w' => e = .returned (.tuple #[vv (Rf.shufTo a y b 16), iv 0]) ∧ Below w.heap.size w w' := by
  go_enter Tryz.func23, Tryz.ntmps23
  go_wp2_with fail
  (refine (validBin_c 29 ty ty ty off _ 0 _ _ 0 _ _ (by go_simp) (by go_simp) ⟨by go_simp, by go_simp, by go_simp, by go_simp, by go_simp, by go_simp, by go_simp, by go_simp, by go_simp, by go_simp, by go_simp, by go_simp⟩ ).mono ?_; rintro e u1 ⟨rfl, hb⟩; obtain ⟨hc, hf⟩ := Flow.bcell hb; have hz := hb.size; (try simp only [World.size_alloc, World.size_setCell, World.size_drew] at hz); obtain ⟨z0, z1, z2, z3, z4, z5, z6, z7⟩ := Flow.zs8 (show w.heap.size + 8 ≤ u1.heap.size by omega))
  go_wp2_with fail
  (refine (ris_c _ _ _).mono ?_; rintro e u2 ⟨rfl, hb⟩; obtain ⟨hc, hf⟩ := Flow.bcell hb; have hz := hb.size; (try simp only [World.size_alloc, World.size_setCell, World.size_drew] at hz); obtain ⟨z0, z1, z2, z3, z4, z5, z6, z7⟩ := Flow.zs8 (show w.heap.size + 8 ≤ u2.heap.size by omega))
  go_wp2_with fail
  (refine (ris_c _ _ _).mono ?_; rintro e u3 ⟨rfl, hb⟩; obtain ⟨hc, hf⟩ := Flow.bcell hb; have hz := hb.size; (try simp only [World.size_alloc, World.size_setCell, World.size_drew] at hz); obtain ⟨z0, z1, z2, z3, z4, z5, z6, z7⟩ := Flow.zs8 (show w.heap.size + 8 ≤ u3.heap.size by omega))
  go_wp2_with fail
  (refine (ris_c _ _ _).mono ?_; rintro e u4 ⟨rfl, hb⟩; obtain ⟨hc, hf⟩ := Flow.bcell hb; have hz := hb.size; (try simp only [World.size_alloc, World.size_setCell, World.size_drew] at hz); obtain ⟨z0, z1, z2, z3, z4, z5, z6, z7⟩ := Flow.zs8 (show w.heap.size + 8 ≤ u4.heap.size by omega))
  go_wp2_with fail
  (refine (ris_c _ _ _).mono ?_; rintro e u5 ⟨rfl, hb⟩; obtain ⟨hc, hf⟩ := Flow.bcell hb; have hz := hb.size; (try simp only [World.size_alloc, World.size_setCell, World.size_drew] at hz); obtain ⟨z0, z1, z2, z3, z4, z5, z6, z7⟩ := Flow.zs8 (show w.heap.size + 8 ≤ u5.heap.size by omega))
  go_wp2_with fail
  (refine (shuffled_c a y b _ ).mono ?_; rintro e u6 ⟨rfl, hb⟩; obtain ⟨hc, hf⟩ := Flow.bcell hb; have hz := hb.size; (try simp only [World.size_alloc, World.size_setCell, World.size_drew] at hz); obtain ⟨z0, z1, z2, z3, z4, z5, z6, z7⟩ := Flow.zs8 (show w.heap.size + 8 ≤ u6.heap.size by omega))
  go_wp2_with fail
  refine Flow.bodyPost_k rfl (fun K hK => ?_)
  simp only [results, Tryz.results23]
  go_simp
  refine hK _ ⟨?_, ?_⟩
  · rfl
  · (repeat (first | exact Below.refl _ _ | refine Below.setCell ?_ (by first | omega | (simp <;> omega)) _ | refine Below.alloc ?_ (by first | omega | (simp <;> omega)) _ | refine Below.drew ?_ | refine Below.trans ?_ (Below.mono (by assumption) (by first | omega | (simp <;> omega)))))
set_option maxRecDepth 100000 in
set_option maxHeartbeats 8000000 in
theorem rbin_20 (ty off : Int) (x a y b : V) (h1 : (Rf.exBin 20 ty ty ty off != 0) = true) (h2 : Vb.is ty x = true) (h3 : Vb.is ty a = true) (h4 : Vb.is ty y = true) (h5 : Vb.is ty b = true) (w : World) : Calls Tryz.prog 23 #[iv (20 : Int), iv ty, iv off, vv x, vv a, vv y, vv b] w fun e w' => e = .returned (.tuple #[vv (Rf.lanedTo Vb.added x a y b 8 16), iv 0]) ∧ Below w.heap.size w w' := by
  go_enter Tryz.func23, Tryz.ntmps23
  go_wp2_with fail
  (refine (validBin_c 20 ty ty ty off _ 0 _ _ 0 _ _ (by go_simp) (by go_simp) ⟨by go_simp, by go_simp, by go_simp, by go_simp, by go_simp, by go_simp, by go_simp, by go_simp, by go_simp, by go_simp, by go_simp, by go_simp⟩ ).mono ?_; rintro e u1 ⟨rfl, hb⟩; obtain ⟨hc, hf⟩ := Flow.bcell hb; have hz := hb.size; (try simp only [World.size_alloc, World.size_setCell, World.size_drew] at hz); obtain ⟨z0, z1, z2, z3, z4, z5, z6, z7⟩ := Flow.zs8 (show w.heap.size + 8 ≤ u1.heap.size by omega))
  go_wp2_with fail
  (refine (ris_c _ _ _).mono ?_; rintro e u2 ⟨rfl, hb⟩; obtain ⟨hc, hf⟩ := Flow.bcell hb; have hz := hb.size; (try simp only [World.size_alloc, World.size_setCell, World.size_drew] at hz); obtain ⟨z0, z1, z2, z3, z4, z5, z6, z7⟩ := Flow.zs8 (show w.heap.size + 8 ≤ u2.heap.size by omega))
  go_wp2_with fail
  (refine (ris_c _ _ _).mono ?_; rintro e u3 ⟨rfl, hb⟩; obtain ⟨hc, hf⟩ := Flow.bcell hb; have hz := hb.size; (try simp only [World.size_alloc, World.size_setCell, World.size_drew] at hz); obtain ⟨z0, z1, z2, z3, z4, z5, z6, z7⟩ := Flow.zs8 (show w.heap.size + 8 ≤ u3.heap.size by omega))
  go_wp2_with fail
  (refine (ris_c _ _ _).mono ?_; rintro e u4 ⟨rfl, hb⟩; obtain ⟨hc, hf⟩ := Flow.bcell hb; have hz := hb.size; (try simp only [World.size_alloc, World.size_setCell, World.size_drew] at hz); obtain ⟨z0, z1, z2, z3, z4, z5, z6, z7⟩ := Flow.zs8 (show w.heap.size + 8 ≤ u4.heap.size by omega))
  go_wp2_with fail
  (refine (ris_c _ _ _).mono ?_; rintro e u5 ⟨rfl, hb⟩; obtain ⟨hc, hf⟩ := Flow.bcell hb; have hz := hb.size; (try simp only [World.size_alloc, World.size_setCell, World.size_drew] at hz); obtain ⟨z0, z1, z2, z3, z4, z5, z6, z7⟩ := Flow.zs8 (show w.heap.size + 8 ≤ u5.heap.size by omega))
  go_wp2_with fail
  (refine (laned20_c x a y b _ ).mono ?_; rintro e u6 ⟨rfl, hb⟩; obtain ⟨hc, hf⟩ := Flow.bcell hb; have hz := hb.size; (try simp only [World.size_alloc, World.size_setCell, World.size_drew] at hz); obtain ⟨z0, z1, z2, z3, z4, z5, z6, z7⟩ := Flow.zs8 (show w.heap.size + 8 ≤ u6.heap.size by omega))
  go_wp2_with fail
  refine Flow.bodyPost_k rfl (fun K hK => ?_)
  simp only [results, Tryz.results23]
  go_simp
  refine hK _ ⟨?_, ?_⟩
  · rfl
  · (repeat (first | exact Below.refl _ _ | refine Below.setCell ?_ (by first | omega | (simp <;> omega)) _ | refine Below.alloc ?_ (by first | omega | (simp <;> omega)) _ | refine Below.drew ?_ | refine Below.trans ?_ (Below.mono (by assumption) (by first | omega | (simp <;> omega)))))
set_option maxRecDepth 100000 in
set_option maxHeartbeats 8000000 in
theorem rbin_21 (ty off : Int) (x a y b : V) (h1 : (Rf.exBin 21 ty ty ty off != 0) = true) (h2 : Vb.is ty x = true) (h3 : Vb.is ty a = true) (h4 : Vb.is ty y = true) (h5 : Vb.is ty b = true) (w : World) : Calls Tryz.prog 23 #[iv (21 : Int), iv ty, iv off, vv x, vv a, vv y, vv b] w fun e w' => e = .returned (.tuple #[vv (Rf.lanedTo Vb.added x a y b 16 8), iv 0]) ∧ Below w.heap.size w w' := by
  go_enter Tryz.func23, Tryz.ntmps23
  go_wp2_with fail
  (refine (validBin_c 21 ty ty ty off _ 0 _ _ 0 _ _ (by go_simp) (by go_simp) ⟨by go_simp, by go_simp, by go_simp, by go_simp, by go_simp, by go_simp, by go_simp, by go_simp, by go_simp, by go_simp, by go_simp, by go_simp⟩ ).mono ?_; rintro e u1 ⟨rfl, hb⟩; obtain ⟨hc, hf⟩ := Flow.bcell hb; have hz := hb.size; (try simp only [World.size_alloc, World.size_setCell, World.size_drew] at hz); obtain ⟨z0, z1, z2, z3, z4, z5, z6, z7⟩ := Flow.zs8 (show w.heap.size + 8 ≤ u1.heap.size by omega))
  go_wp2_with fail
  (refine (ris_c _ _ _).mono ?_; rintro e u2 ⟨rfl, hb⟩; obtain ⟨hc, hf⟩ := Flow.bcell hb; have hz := hb.size; (try simp only [World.size_alloc, World.size_setCell, World.size_drew] at hz); obtain ⟨z0, z1, z2, z3, z4, z5, z6, z7⟩ := Flow.zs8 (show w.heap.size + 8 ≤ u2.heap.size by omega))
  go_wp2_with fail
  (refine (ris_c _ _ _).mono ?_; rintro e u3 ⟨rfl, hb⟩; obtain ⟨hc, hf⟩ := Flow.bcell hb; have hz := hb.size; (try simp only [World.size_alloc, World.size_setCell, World.size_drew] at hz); obtain ⟨z0, z1, z2, z3, z4, z5, z6, z7⟩ := Flow.zs8 (show w.heap.size + 8 ≤ u3.heap.size by omega))
  go_wp2_with fail
  (refine (ris_c _ _ _).mono ?_; rintro e u4 ⟨rfl, hb⟩; obtain ⟨hc, hf⟩ := Flow.bcell hb; have hz := hb.size; (try simp only [World.size_alloc, World.size_setCell, World.size_drew] at hz); obtain ⟨z0, z1, z2, z3, z4, z5, z6, z7⟩ := Flow.zs8 (show w.heap.size + 8 ≤ u4.heap.size by omega))
  go_wp2_with fail
  (refine (ris_c _ _ _).mono ?_; rintro e u5 ⟨rfl, hb⟩; obtain ⟨hc, hf⟩ := Flow.bcell hb; have hz := hb.size; (try simp only [World.size_alloc, World.size_setCell, World.size_drew] at hz); obtain ⟨z0, z1, z2, z3, z4, z5, z6, z7⟩ := Flow.zs8 (show w.heap.size + 8 ≤ u5.heap.size by omega))
  go_wp2_with fail
  (refine (laned21_c x a y b _ ).mono ?_; rintro e u6 ⟨rfl, hb⟩; obtain ⟨hc, hf⟩ := Flow.bcell hb; have hz := hb.size; (try simp only [World.size_alloc, World.size_setCell, World.size_drew] at hz); obtain ⟨z0, z1, z2, z3, z4, z5, z6, z7⟩ := Flow.zs8 (show w.heap.size + 8 ≤ u6.heap.size by omega))
  go_wp2_with fail
  refine Flow.bodyPost_k rfl (fun K hK => ?_)
  simp only [results, Tryz.results23]
  go_simp
  refine hK _ ⟨?_, ?_⟩
  · rfl
  · (repeat (first | exact Below.refl _ _ | refine Below.setCell ?_ (by first | omega | (simp <;> omega)) _ | refine Below.alloc ?_ (by first | omega | (simp <;> omega)) _ | refine Below.drew ?_ | refine Below.trans ?_ (Below.mono (by assumption) (by first | omega | (simp <;> omega)))))
set_option maxRecDepth 100000 in
set_option maxHeartbeats 8000000 in
theorem rbin_22 (ty off : Int) (x a y b : V) (h1 : (Rf.exBin 22 ty ty ty off != 0) = true) (h2 : Vb.is ty x = true) (h3 : Vb.is ty a = true) (h4 : Vb.is ty y = true) (h5 : Vb.is ty b = true) (w : World) : Calls Tryz.prog 23 #[iv (22 : Int), iv ty, iv off, vv x, vv a, vv y, vv b] w fun e w' => e = .returned (.tuple #[vv (Rf.lanedTo Vb.added x a y b 32 4), iv 0]) ∧ Below w.heap.size w w' := by
  go_enter Tryz.func23, Tryz.ntmps23
  go_wp2_with fail
  (refine (validBin_c 22 ty ty ty off _ 0 _ _ 0 _ _ (by go_simp) (by go_simp) ⟨by go_simp, by go_simp, by go_simp, by go_simp, by go_simp, by go_simp, by go_simp, by go_simp, by go_simp, by go_simp, by go_simp, by go_simp⟩ ).mono ?_; rintro e u1 ⟨rfl, hb⟩; obtain ⟨hc, hf⟩ := Flow.bcell hb; have hz := hb.size; (try simp only [World.size_alloc, World.size_setCell, World.size_drew] at hz); obtain ⟨z0, z1, z2, z3, z4, z5, z6, z7⟩ := Flow.zs8 (show w.heap.size + 8 ≤ u1.heap.size by omega))
  go_wp2_with fail
  (refine (ris_c _ _ _).mono ?_; rintro e u2 ⟨rfl, hb⟩; obtain ⟨hc, hf⟩ := Flow.bcell hb; have hz := hb.size; (try simp only [World.size_alloc, World.size_setCell, World.size_drew] at hz); obtain ⟨z0, z1, z2, z3, z4, z5, z6, z7⟩ := Flow.zs8 (show w.heap.size + 8 ≤ u2.heap.size by omega))
  go_wp2_with fail
  (refine (ris_c _ _ _).mono ?_; rintro e u3 ⟨rfl, hb⟩; obtain ⟨hc, hf⟩ := Flow.bcell hb; have hz := hb.size; (try simp only [World.size_alloc, World.size_setCell, World.size_drew] at hz); obtain ⟨z0, z1, z2, z3, z4, z5, z6, z7⟩ := Flow.zs8 (show w.heap.size + 8 ≤ u3.heap.size by omega))
  go_wp2_with fail
  (refine (ris_c _ _ _).mono ?_; rintro e u4 ⟨rfl, hb⟩; obtain ⟨hc, hf⟩ := Flow.bcell hb; have hz := hb.size; (try simp only [World.size_alloc, World.size_setCell, World.size_drew] at hz); obtain ⟨z0, z1, z2, z3, z4, z5, z6, z7⟩ := Flow.zs8 (show w.heap.size + 8 ≤ u4.heap.size by omega))
  go_wp2_with fail
  (refine (ris_c _ _ _).mono ?_; rintro e u5 ⟨rfl, hb⟩; obtain ⟨hc, hf⟩ := Flow.bcell hb; have hz := hb.size; (try simp only [World.size_alloc, World.size_setCell, World.size_drew] at hz); obtain ⟨z0, z1, z2, z3, z4, z5, z6, z7⟩ := Flow.zs8 (show w.heap.size + 8 ≤ u5.heap.size by omega))
  go_wp2_with fail
  (refine (laned22_c x a y b _ ).mono ?_; rintro e u6 ⟨rfl, hb⟩; obtain ⟨hc, hf⟩ := Flow.bcell hb; have hz := hb.size; (try simp only [World.size_alloc, World.size_setCell, World.size_drew] at hz); obtain ⟨z0, z1, z2, z3, z4, z5, z6, z7⟩ := Flow.zs8 (show w.heap.size + 8 ≤ u6.heap.size by omega))
  go_wp2_with fail
  refine Flow.bodyPost_k rfl (fun K hK => ?_)
  simp only [results, Tryz.results23]
  go_simp
  refine hK _ ⟨?_, ?_⟩
  · rfl
  · (repeat (first | exact Below.refl _ _ | refine Below.setCell ?_ (by first | omega | (simp <;> omega)) _ | refine Below.alloc ?_ (by first | omega | (simp <;> omega)) _ | refine Below.drew ?_ | refine Below.trans ?_ (Below.mono (by assumption) (by first | omega | (simp <;> omega)))))
set_option maxRecDepth 100000 in
set_option maxHeartbeats 8000000 in
theorem rbin_23 (ty off : Int) (x a y b : V) (h1 : (Rf.exBin 23 ty ty ty off != 0) = true) (h2 : Vb.is ty x = true) (h3 : Vb.is ty a = true) (h4 : Vb.is ty y = true) (h5 : Vb.is ty b = true) (w : World) : Calls Tryz.prog 23 #[iv (23 : Int), iv ty, iv off, vv x, vv a, vv y, vv b] w fun e w' => e = .returned (.tuple #[vv (Rf.lanedTo Vb.subtracted x a y b 8 16), iv 0]) ∧ Below w.heap.size w w' := by
  go_enter Tryz.func23, Tryz.ntmps23
  go_wp2_with fail
  (refine (validBin_c 23 ty ty ty off _ 0 _ _ 0 _ _ (by go_simp) (by go_simp) ⟨by go_simp, by go_simp, by go_simp, by go_simp, by go_simp, by go_simp, by go_simp, by go_simp, by go_simp, by go_simp, by go_simp, by go_simp⟩ ).mono ?_; rintro e u1 ⟨rfl, hb⟩; obtain ⟨hc, hf⟩ := Flow.bcell hb; have hz := hb.size; (try simp only [World.size_alloc, World.size_setCell, World.size_drew] at hz); obtain ⟨z0, z1, z2, z3, z4, z5, z6, z7⟩ := Flow.zs8 (show w.heap.size + 8 ≤ u1.heap.size by omega))
  go_wp2_with fail
  (refine (ris_c _ _ _).mono ?_; rintro e u2 ⟨rfl, hb⟩; obtain ⟨hc, hf⟩ := Flow.bcell hb; have hz := hb.size; (try simp only [World.size_alloc, World.size_setCell, World.size_drew] at hz); obtain ⟨z0, z1, z2, z3, z4, z5, z6, z7⟩ := Flow.zs8 (show w.heap.size + 8 ≤ u2.heap.size by omega))
  go_wp2_with fail
  (refine (ris_c _ _ _).mono ?_; rintro e u3 ⟨rfl, hb⟩; obtain ⟨hc, hf⟩ := Flow.bcell hb; have hz := hb.size; (try simp only [World.size_alloc, World.size_setCell, World.size_drew] at hz); obtain ⟨z0, z1, z2, z3, z4, z5, z6, z7⟩ := Flow.zs8 (show w.heap.size + 8 ≤ u3.heap.size by omega))
  go_wp2_with fail
  (refine (ris_c _ _ _).mono ?_; rintro e u4 ⟨rfl, hb⟩; obtain ⟨hc, hf⟩ := Flow.bcell hb; have hz := hb.size; (try simp only [World.size_alloc, World.size_setCell, World.size_drew] at hz); obtain ⟨z0, z1, z2, z3, z4, z5, z6, z7⟩ := Flow.zs8 (show w.heap.size + 8 ≤ u4.heap.size by omega))
  go_wp2_with fail
  (refine (ris_c _ _ _).mono ?_; rintro e u5 ⟨rfl, hb⟩; obtain ⟨hc, hf⟩ := Flow.bcell hb; have hz := hb.size; (try simp only [World.size_alloc, World.size_setCell, World.size_drew] at hz); obtain ⟨z0, z1, z2, z3, z4, z5, z6, z7⟩ := Flow.zs8 (show w.heap.size + 8 ≤ u5.heap.size by omega))
  go_wp2_with fail
  (refine (laned23_c x a y b _ ).mono ?_; rintro e u6 ⟨rfl, hb⟩; obtain ⟨hc, hf⟩ := Flow.bcell hb; have hz := hb.size; (try simp only [World.size_alloc, World.size_setCell, World.size_drew] at hz); obtain ⟨z0, z1, z2, z3, z4, z5, z6, z7⟩ := Flow.zs8 (show w.heap.size + 8 ≤ u6.heap.size by omega))
  go_wp2_with fail
  refine Flow.bodyPost_k rfl (fun K hK => ?_)
  simp only [results, Tryz.results23]
  go_simp
  refine hK _ ⟨?_, ?_⟩
  · rfl
  · (repeat (first | exact Below.refl _ _ | refine Below.setCell ?_ (by first | omega | (simp <;> omega)) _ | refine Below.alloc ?_ (by first | omega | (simp <;> omega)) _ | refine Below.drew ?_ | refine Below.trans ?_ (Below.mono (by assumption) (by first | omega | (simp <;> omega)))))
set_option maxRecDepth 100000 in
set_option maxHeartbeats 8000000 in
theorem rbin_24 (ty off : Int) (x a y b : V) (h1 : (Rf.exBin 24 ty ty ty off != 0) = true) (h2 : Vb.is ty x = true) (h3 : Vb.is ty a = true) (h4 : Vb.is ty y = true) (h5 : Vb.is ty b = true) (w : World) : Calls Tryz.prog 23 #[iv (24 : Int), iv ty, iv off, vv x, vv a, vv y, vv b] w fun e w' => e = .returned (.tuple #[vv (Rf.lanedTo Vb.subtracted x a y b 16 8), iv 0]) ∧ Below w.heap.size w w' := by
  go_enter Tryz.func23, Tryz.ntmps23
  go_wp2_with fail
  (refine (validBin_c 24 ty ty ty off _ 0 _ _ 0 _ _ (by go_simp) (by go_simp) ⟨by go_simp, by go_simp, by go_simp, by go_simp, by go_simp, by go_simp, by go_simp, by go_simp, by go_simp, by go_simp, by go_simp, by go_simp⟩ ).mono ?_; rintro e u1 ⟨rfl, hb⟩; obtain ⟨hc, hf⟩ := Flow.bcell hb; have hz := hb.size; (try simp only [World.size_alloc, World.size_setCell, World.size_drew] at hz); obtain ⟨z0, z1, z2, z3, z4, z5, z6, z7⟩ := Flow.zs8 (show w.heap.size + 8 ≤ u1.heap.size by omega))
  go_wp2_with fail
  (refine (ris_c _ _ _).mono ?_; rintro e u2 ⟨rfl, hb⟩; obtain ⟨hc, hf⟩ := Flow.bcell hb; have hz := hb.size; (try simp only [World.size_alloc, World.size_setCell, World.size_drew] at hz); obtain ⟨z0, z1, z2, z3, z4, z5, z6, z7⟩ := Flow.zs8 (show w.heap.size + 8 ≤ u2.heap.size by omega))
  go_wp2_with fail
  (refine (ris_c _ _ _).mono ?_; rintro e u3 ⟨rfl, hb⟩; obtain ⟨hc, hf⟩ := Flow.bcell hb; have hz := hb.size; (try simp only [World.size_alloc, World.size_setCell, World.size_drew] at hz); obtain ⟨z0, z1, z2, z3, z4, z5, z6, z7⟩ := Flow.zs8 (show w.heap.size + 8 ≤ u3.heap.size by omega))
  go_wp2_with fail
  (refine (ris_c _ _ _).mono ?_; rintro e u4 ⟨rfl, hb⟩; obtain ⟨hc, hf⟩ := Flow.bcell hb; have hz := hb.size; (try simp only [World.size_alloc, World.size_setCell, World.size_drew] at hz); obtain ⟨z0, z1, z2, z3, z4, z5, z6, z7⟩ := Flow.zs8 (show w.heap.size + 8 ≤ u4.heap.size by omega))
  go_wp2_with fail
  (refine (ris_c _ _ _).mono ?_; rintro e u5 ⟨rfl, hb⟩; obtain ⟨hc, hf⟩ := Flow.bcell hb; have hz := hb.size; (try simp only [World.size_alloc, World.size_setCell, World.size_drew] at hz); obtain ⟨z0, z1, z2, z3, z4, z5, z6, z7⟩ := Flow.zs8 (show w.heap.size + 8 ≤ u5.heap.size by omega))
  go_wp2_with fail
  (refine (laned24_c x a y b _ ).mono ?_; rintro e u6 ⟨rfl, hb⟩; obtain ⟨hc, hf⟩ := Flow.bcell hb; have hz := hb.size; (try simp only [World.size_alloc, World.size_setCell, World.size_drew] at hz); obtain ⟨z0, z1, z2, z3, z4, z5, z6, z7⟩ := Flow.zs8 (show w.heap.size + 8 ≤ u6.heap.size by omega))
  go_wp2_with fail
  refine Flow.bodyPost_k rfl (fun K hK => ?_)
  simp only [results, Tryz.results23]
  go_simp
  refine hK _ ⟨?_, ?_⟩
  · rfl
  · (repeat (first | exact Below.refl _ _ | refine Below.setCell ?_ (by first | omega | (simp <;> omega)) _ | refine Below.alloc ?_ (by first | omega | (simp <;> omega)) _ | refine Below.drew ?_ | refine Below.trans ?_ (Below.mono (by assumption) (by first | omega | (simp <;> omega)))))
set_option maxRecDepth 100000 in
set_option maxHeartbeats 8000000 in
theorem rbin_25 (ty off : Int) (x a y b : V) (h1 : (Rf.exBin 25 ty ty ty off != 0) = true) (h2 : Vb.is ty x = true) (h3 : Vb.is ty a = true) (h4 : Vb.is ty y = true) (h5 : Vb.is ty b = true) (w : World) : Calls Tryz.prog 23 #[iv (25 : Int), iv ty, iv off, vv x, vv a, vv y, vv b] w fun e w' => e = .returned (.tuple #[vv (Rf.lanedTo Vb.subtracted x a y b 32 4), iv 0]) ∧ Below w.heap.size w w' := by
  go_enter Tryz.func23, Tryz.ntmps23
  go_wp2_with fail
  (refine (validBin_c 25 ty ty ty off _ 0 _ _ 0 _ _ (by go_simp) (by go_simp) ⟨by go_simp, by go_simp, by go_simp, by go_simp, by go_simp, by go_simp, by go_simp, by go_simp, by go_simp, by go_simp, by go_simp, by go_simp⟩ ).mono ?_; rintro e u1 ⟨rfl, hb⟩; obtain ⟨hc, hf⟩ := Flow.bcell hb; have hz := hb.size; (try simp only [World.size_alloc, World.size_setCell, World.size_drew] at hz); obtain ⟨z0, z1, z2, z3, z4, z5, z6, z7⟩ := Flow.zs8 (show w.heap.size + 8 ≤ u1.heap.size by omega))
  go_wp2_with fail
  (refine (ris_c _ _ _).mono ?_; rintro e u2 ⟨rfl, hb⟩; obtain ⟨hc, hf⟩ := Flow.bcell hb; have hz := hb.size; (try simp only [World.size_alloc, World.size_setCell, World.size_drew] at hz); obtain ⟨z0, z1, z2, z3, z4, z5, z6, z7⟩ := Flow.zs8 (show w.heap.size + 8 ≤ u2.heap.size by omega))
  go_wp2_with fail
  (refine (ris_c _ _ _).mono ?_; rintro e u3 ⟨rfl, hb⟩; obtain ⟨hc, hf⟩ := Flow.bcell hb; have hz := hb.size; (try simp only [World.size_alloc, World.size_setCell, World.size_drew] at hz); obtain ⟨z0, z1, z2, z3, z4, z5, z6, z7⟩ := Flow.zs8 (show w.heap.size + 8 ≤ u3.heap.size by omega))
  go_wp2_with fail
  (refine (ris_c _ _ _).mono ?_; rintro e u4 ⟨rfl, hb⟩; obtain ⟨hc, hf⟩ := Flow.bcell hb; have hz := hb.size; (try simp only [World.size_alloc, World.size_setCell, World.size_drew] at hz); obtain ⟨z0, z1, z2, z3, z4, z5, z6, z7⟩ := Flow.zs8 (show w.heap.size + 8 ≤ u4.heap.size by omega))
  go_wp2_with fail
  (refine (ris_c _ _ _).mono ?_; rintro e u5 ⟨rfl, hb⟩; obtain ⟨hc, hf⟩ := Flow.bcell hb; have hz := hb.size; (try simp only [World.size_alloc, World.size_setCell, World.size_drew] at hz); obtain ⟨z0, z1, z2, z3, z4, z5, z6, z7⟩ := Flow.zs8 (show w.heap.size + 8 ≤ u5.heap.size by omega))
  go_wp2_with fail
  (refine (laned25_c x a y b _ ).mono ?_; rintro e u6 ⟨rfl, hb⟩; obtain ⟨hc, hf⟩ := Flow.bcell hb; have hz := hb.size; (try simp only [World.size_alloc, World.size_setCell, World.size_drew] at hz); obtain ⟨z0, z1, z2, z3, z4, z5, z6, z7⟩ := Flow.zs8 (show w.heap.size + 8 ≤ u6.heap.size by omega))
  go_wp2_with fail
  refine Flow.bodyPost_k rfl (fun K hK => ?_)
  simp only [results, Tryz.results23]
  go_simp
  refine hK _ ⟨?_, ?_⟩
  · rfl
  · (repeat (first | exact Below.refl _ _ | refine Below.setCell ?_ (by first | omega | (simp <;> omega)) _ | refine Below.alloc ?_ (by first | omega | (simp <;> omega)) _ | refine Below.drew ?_ | refine Below.trans ?_ (Below.mono (by assumption) (by first | omega | (simp <;> omega)))))
set_option maxRecDepth 100000 in
set_option maxHeartbeats 8000000 in
theorem rbin_26 (ty off : Int) (x a y b : V) (h1 : (Rf.exBin 26 ty ty ty off != 0) = true) (h2 : Vb.is ty x = true) (h3 : Vb.is ty a = true) (h4 : Vb.is ty y = true) (h5 : Vb.is ty b = true) (w : World) : Calls Tryz.prog 23 #[iv (26 : Int), iv ty, iv off, vv x, vv a, vv y, vv b] w fun e w' => e = .returned (.tuple #[vv (Rf.lanedTo Rf.equal x a y b 8 16), iv 0]) ∧ Below w.heap.size w w' := by
  go_enter Tryz.func23, Tryz.ntmps23
  go_wp2_with fail
  (refine (validBin_c 26 ty ty ty off _ 0 _ _ 0 _ _ (by go_simp) (by go_simp) ⟨by go_simp, by go_simp, by go_simp, by go_simp, by go_simp, by go_simp, by go_simp, by go_simp, by go_simp, by go_simp, by go_simp, by go_simp⟩ ).mono ?_; rintro e u1 ⟨rfl, hb⟩; obtain ⟨hc, hf⟩ := Flow.bcell hb; have hz := hb.size; (try simp only [World.size_alloc, World.size_setCell, World.size_drew] at hz); obtain ⟨z0, z1, z2, z3, z4, z5, z6, z7⟩ := Flow.zs8 (show w.heap.size + 8 ≤ u1.heap.size by omega))
  go_wp2_with fail
  (refine (ris_c _ _ _).mono ?_; rintro e u2 ⟨rfl, hb⟩; obtain ⟨hc, hf⟩ := Flow.bcell hb; have hz := hb.size; (try simp only [World.size_alloc, World.size_setCell, World.size_drew] at hz); obtain ⟨z0, z1, z2, z3, z4, z5, z6, z7⟩ := Flow.zs8 (show w.heap.size + 8 ≤ u2.heap.size by omega))
  go_wp2_with fail
  (refine (ris_c _ _ _).mono ?_; rintro e u3 ⟨rfl, hb⟩; obtain ⟨hc, hf⟩ := Flow.bcell hb; have hz := hb.size; (try simp only [World.size_alloc, World.size_setCell, World.size_drew] at hz); obtain ⟨z0, z1, z2, z3, z4, z5, z6, z7⟩ := Flow.zs8 (show w.heap.size + 8 ≤ u3.heap.size by omega))
  go_wp2_with fail
  (refine (ris_c _ _ _).mono ?_; rintro e u4 ⟨rfl, hb⟩; obtain ⟨hc, hf⟩ := Flow.bcell hb; have hz := hb.size; (try simp only [World.size_alloc, World.size_setCell, World.size_drew] at hz); obtain ⟨z0, z1, z2, z3, z4, z5, z6, z7⟩ := Flow.zs8 (show w.heap.size + 8 ≤ u4.heap.size by omega))
  go_wp2_with fail
  (refine (ris_c _ _ _).mono ?_; rintro e u5 ⟨rfl, hb⟩; obtain ⟨hc, hf⟩ := Flow.bcell hb; have hz := hb.size; (try simp only [World.size_alloc, World.size_setCell, World.size_drew] at hz); obtain ⟨z0, z1, z2, z3, z4, z5, z6, z7⟩ := Flow.zs8 (show w.heap.size + 8 ≤ u5.heap.size by omega))
  go_wp2_with fail
  (refine (laned26_c x a y b _ ).mono ?_; rintro e u6 ⟨rfl, hb⟩; obtain ⟨hc, hf⟩ := Flow.bcell hb; have hz := hb.size; (try simp only [World.size_alloc, World.size_setCell, World.size_drew] at hz); obtain ⟨z0, z1, z2, z3, z4, z5, z6, z7⟩ := Flow.zs8 (show w.heap.size + 8 ≤ u6.heap.size by omega))
  go_wp2_with fail
  refine Flow.bodyPost_k rfl (fun K hK => ?_)
  simp only [results, Tryz.results23]
  go_simp
  refine hK _ ⟨?_, ?_⟩
  · rfl
  · (repeat (first | exact Below.refl _ _ | refine Below.setCell ?_ (by first | omega | (simp <;> omega)) _ | refine Below.alloc ?_ (by first | omega | (simp <;> omega)) _ | refine Below.drew ?_ | refine Below.trans ?_ (Below.mono (by assumption) (by first | omega | (simp <;> omega)))))
set_option maxRecDepth 100000 in
set_option maxHeartbeats 8000000 in
theorem rbin_27 (ty off : Int) (x a y b : V) (h1 : (Rf.exBin 27 ty ty ty off != 0) = true) (h2 : Vb.is ty x = true) (h3 : Vb.is ty a = true) (h4 : Vb.is ty y = true) (h5 : Vb.is ty b = true) (w : World) : Calls Tryz.prog 23 #[iv (27 : Int), iv ty, iv off, vv x, vv a, vv y, vv b] w fun e w' => e = .returned (.tuple #[vv (Rf.lanedTo Rf.equal x a y b 16 8), iv 0]) ∧ Below w.heap.size w w' := by
  go_enter Tryz.func23, Tryz.ntmps23
  go_wp2_with fail
  (refine (validBin_c 27 ty ty ty off _ 0 _ _ 0 _ _ (by go_simp) (by go_simp) ⟨by go_simp, by go_simp, by go_simp, by go_simp, by go_simp, by go_simp, by go_simp, by go_simp, by go_simp, by go_simp, by go_simp, by go_simp⟩ ).mono ?_; rintro e u1 ⟨rfl, hb⟩; obtain ⟨hc, hf⟩ := Flow.bcell hb; have hz := hb.size; (try simp only [World.size_alloc, World.size_setCell, World.size_drew] at hz); obtain ⟨z0, z1, z2, z3, z4, z5, z6, z7⟩ := Flow.zs8 (show w.heap.size + 8 ≤ u1.heap.size by omega))
  go_wp2_with fail
  (refine (ris_c _ _ _).mono ?_; rintro e u2 ⟨rfl, hb⟩; obtain ⟨hc, hf⟩ := Flow.bcell hb; have hz := hb.size; (try simp only [World.size_alloc, World.size_setCell, World.size_drew] at hz); obtain ⟨z0, z1, z2, z3, z4, z5, z6, z7⟩ := Flow.zs8 (show w.heap.size + 8 ≤ u2.heap.size by omega))
  go_wp2_with fail
  (refine (ris_c _ _ _).mono ?_; rintro e u3 ⟨rfl, hb⟩; obtain ⟨hc, hf⟩ := Flow.bcell hb; have hz := hb.size; (try simp only [World.size_alloc, World.size_setCell, World.size_drew] at hz); obtain ⟨z0, z1, z2, z3, z4, z5, z6, z7⟩ := Flow.zs8 (show w.heap.size + 8 ≤ u3.heap.size by omega))
  go_wp2_with fail
  (refine (ris_c _ _ _).mono ?_; rintro e u4 ⟨rfl, hb⟩; obtain ⟨hc, hf⟩ := Flow.bcell hb; have hz := hb.size; (try simp only [World.size_alloc, World.size_setCell, World.size_drew] at hz); obtain ⟨z0, z1, z2, z3, z4, z5, z6, z7⟩ := Flow.zs8 (show w.heap.size + 8 ≤ u4.heap.size by omega))
  go_wp2_with fail
  (refine (ris_c _ _ _).mono ?_; rintro e u5 ⟨rfl, hb⟩; obtain ⟨hc, hf⟩ := Flow.bcell hb; have hz := hb.size; (try simp only [World.size_alloc, World.size_setCell, World.size_drew] at hz); obtain ⟨z0, z1, z2, z3, z4, z5, z6, z7⟩ := Flow.zs8 (show w.heap.size + 8 ≤ u5.heap.size by omega))
  go_wp2_with fail
  (refine (laned27_c x a y b _ ).mono ?_; rintro e u6 ⟨rfl, hb⟩; obtain ⟨hc, hf⟩ := Flow.bcell hb; have hz := hb.size; (try simp only [World.size_alloc, World.size_setCell, World.size_drew] at hz); obtain ⟨z0, z1, z2, z3, z4, z5, z6, z7⟩ := Flow.zs8 (show w.heap.size + 8 ≤ u6.heap.size by omega))
  go_wp2_with fail
  refine Flow.bodyPost_k rfl (fun K hK => ?_)
  simp only [results, Tryz.results23]
  go_simp
  refine hK _ ⟨?_, ?_⟩
  · rfl
  · (repeat (first | exact Below.refl _ _ | refine Below.setCell ?_ (by first | omega | (simp <;> omega)) _ | refine Below.alloc ?_ (by first | omega | (simp <;> omega)) _ | refine Below.drew ?_ | refine Below.trans ?_ (Below.mono (by assumption) (by first | omega | (simp <;> omega)))))
set_option maxRecDepth 100000 in
set_option maxHeartbeats 8000000 in
theorem rbin_28 (ty off : Int) (x a y b : V) (h1 : (Rf.exBin 28 ty ty ty off != 0) = true) (h2 : Vb.is ty x = true) (h3 : Vb.is ty a = true) (h4 : Vb.is ty y = true) (h5 : Vb.is ty b = true) (w : World) : Calls Tryz.prog 23 #[iv (28 : Int), iv ty, iv off, vv x, vv a, vv y, vv b] w fun e w' => e = .returned (.tuple #[vv (Rf.lanedTo Rf.equal x a y b 32 4), iv 0]) ∧ Below w.heap.size w w' := by
  go_enter Tryz.func23, Tryz.ntmps23
  go_wp2_with fail
  (refine (validBin_c 28 ty ty ty off _ 0 _ _ 0 _ _ (by go_simp) (by go_simp) ⟨by go_simp, by go_simp, by go_simp, by go_simp, by go_simp, by go_simp, by go_simp, by go_simp, by go_simp, by go_simp, by go_simp, by go_simp⟩ ).mono ?_; rintro e u1 ⟨rfl, hb⟩; obtain ⟨hc, hf⟩ := Flow.bcell hb; have hz := hb.size; (try simp only [World.size_alloc, World.size_setCell, World.size_drew] at hz); obtain ⟨z0, z1, z2, z3, z4, z5, z6, z7⟩ := Flow.zs8 (show w.heap.size + 8 ≤ u1.heap.size by omega))
  go_wp2_with fail
  (refine (ris_c _ _ _).mono ?_; rintro e u2 ⟨rfl, hb⟩; obtain ⟨hc, hf⟩ := Flow.bcell hb; have hz := hb.size; (try simp only [World.size_alloc, World.size_setCell, World.size_drew] at hz); obtain ⟨z0, z1, z2, z3, z4, z5, z6, z7⟩ := Flow.zs8 (show w.heap.size + 8 ≤ u2.heap.size by omega))
  go_wp2_with fail
  (refine (ris_c _ _ _).mono ?_; rintro e u3 ⟨rfl, hb⟩; obtain ⟨hc, hf⟩ := Flow.bcell hb; have hz := hb.size; (try simp only [World.size_alloc, World.size_setCell, World.size_drew] at hz); obtain ⟨z0, z1, z2, z3, z4, z5, z6, z7⟩ := Flow.zs8 (show w.heap.size + 8 ≤ u3.heap.size by omega))
  go_wp2_with fail
  (refine (ris_c _ _ _).mono ?_; rintro e u4 ⟨rfl, hb⟩; obtain ⟨hc, hf⟩ := Flow.bcell hb; have hz := hb.size; (try simp only [World.size_alloc, World.size_setCell, World.size_drew] at hz); obtain ⟨z0, z1, z2, z3, z4, z5, z6, z7⟩ := Flow.zs8 (show w.heap.size + 8 ≤ u4.heap.size by omega))
  go_wp2_with fail
  (refine (ris_c _ _ _).mono ?_; rintro e u5 ⟨rfl, hb⟩; obtain ⟨hc, hf⟩ := Flow.bcell hb; have hz := hb.size; (try simp only [World.size_alloc, World.size_setCell, World.size_drew] at hz); obtain ⟨z0, z1, z2, z3, z4, z5, z6, z7⟩ := Flow.zs8 (show w.heap.size + 8 ≤ u5.heap.size by omega))
  go_wp2_with fail
  (refine (laned28_c x a y b _ ).mono ?_; rintro e u6 ⟨rfl, hb⟩; obtain ⟨hc, hf⟩ := Flow.bcell hb; have hz := hb.size; (try simp only [World.size_alloc, World.size_setCell, World.size_drew] at hz); obtain ⟨z0, z1, z2, z3, z4, z5, z6, z7⟩ := Flow.zs8 (show w.heap.size + 8 ≤ u6.heap.size by omega))
  go_wp2_with fail
  refine Flow.bodyPost_k rfl (fun K hK => ?_)
  simp only [results, Tryz.results23]
  go_simp
  refine hK _ ⟨?_, ?_⟩
  · rfl
  · (repeat (first | exact Below.refl _ _ | refine Below.setCell ?_ (by first | omega | (simp <;> omega)) _ | refine Below.alloc ?_ (by first | omega | (simp <;> omega)) _ | refine Below.drew ?_ | refine Below.trans ?_ (Below.mono (by assumption) (by first | omega | (simp <;> omega)))))
set_option maxRecDepth 100000 in
set_option maxHeartbeats 8000000 in
theorem rbin_1 (ty off : Int) (x a y b : V) (h1 : (Rf.exBin 1 ty ty ty off != 0) = true) (h2 : Vb.is ty x = true) (h3 : Vb.is ty a = true) (h4 : Vb.is ty y = true) (h5 : Vb.is ty b = true) (w : World) : Calls Tryz.prog 23 #[iv (1 : Int), iv ty, iv off, vv x, vv a, vv y, vv b] w fun e w' => e = .returned (.tuple #[vv (V.word (Vb.added x.a a.a y.a b.a)), iv 0]) ∧ Below w.heap.size w w' := by
  go_enter Tryz.func23, Tryz.ntmps23
  go_wp2_with fail
  (refine (validBin_c 1 ty ty ty off _ 0 _ _ 0 _ _ (by go_simp) (by go_simp) ⟨by go_simp, by go_simp, by go_simp, by go_simp, by go_simp, by go_simp, by go_simp, by go_simp, by go_simp, by go_simp, by go_simp, by go_simp⟩ ).mono ?_; rintro e u1 ⟨rfl, hb⟩; obtain ⟨hc, hf⟩ := Flow.bcell hb; have hz := hb.size; (try simp only [World.size_alloc, World.size_setCell, World.size_drew] at hz); obtain ⟨z0, z1, z2, z3, z4, z5, z6, z7⟩ := Flow.zs8 (show w.heap.size + 8 ≤ u1.heap.size by omega))
  go_wp2_with fail
  (refine (ris_c _ _ _).mono ?_; rintro e u2 ⟨rfl, hb⟩; obtain ⟨hc, hf⟩ := Flow.bcell hb; have hz := hb.size; (try simp only [World.size_alloc, World.size_setCell, World.size_drew] at hz); obtain ⟨z0, z1, z2, z3, z4, z5, z6, z7⟩ := Flow.zs8 (show w.heap.size + 8 ≤ u2.heap.size by omega))
  go_wp2_with fail
  (refine (ris_c _ _ _).mono ?_; rintro e u3 ⟨rfl, hb⟩; obtain ⟨hc, hf⟩ := Flow.bcell hb; have hz := hb.size; (try simp only [World.size_alloc, World.size_setCell, World.size_drew] at hz); obtain ⟨z0, z1, z2, z3, z4, z5, z6, z7⟩ := Flow.zs8 (show w.heap.size + 8 ≤ u3.heap.size by omega))
  go_wp2_with fail
  (refine (ris_c _ _ _).mono ?_; rintro e u4 ⟨rfl, hb⟩; obtain ⟨hc, hf⟩ := Flow.bcell hb; have hz := hb.size; (try simp only [World.size_alloc, World.size_setCell, World.size_drew] at hz); obtain ⟨z0, z1, z2, z3, z4, z5, z6, z7⟩ := Flow.zs8 (show w.heap.size + 8 ≤ u4.heap.size by omega))
  go_wp2_with fail
  (refine (ris_c _ _ _).mono ?_; rintro e u5 ⟨rfl, hb⟩; obtain ⟨hc, hf⟩ := Flow.bcell hb; have hz := hb.size; (try simp only [World.size_alloc, World.size_setCell, World.size_drew] at hz); obtain ⟨z0, z1, z2, z3, z4, z5, z6, z7⟩ := Flow.zs8 (show w.heap.size + 8 ≤ u5.heap.size by omega))
  go_wp2_with fail
  (refine (word1_c x.a a.a y.a b.a _ ).mono ?_; rintro e u6 ⟨rfl, hb⟩; obtain ⟨hc, hf⟩ := Flow.bcell hb; have hz := hb.size; (try simp only [World.size_alloc, World.size_setCell, World.size_drew] at hz); obtain ⟨z0, z1, z2, z3, z4, z5, z6, z7⟩ := Flow.zs8 (show w.heap.size + 8 ≤ u6.heap.size by omega))
  go_wp2_with fail
  refine Flow.bodyPost_k rfl (fun K hK => ?_)
  simp only [results, Tryz.results23]
  go_simp
  refine hK _ ⟨?_, ?_⟩
  · rfl
  · (repeat (first | exact Below.refl _ _ | refine Below.setCell ?_ (by first | omega | (simp <;> omega)) _ | refine Below.alloc ?_ (by first | omega | (simp <;> omega)) _ | refine Below.drew ?_ | refine Below.trans ?_ (Below.mono (by assumption) (by first | omega | (simp <;> omega)))))
set_option maxRecDepth 100000 in
set_option maxHeartbeats 8000000 in
theorem rbin_2 (ty off : Int) (x a y b : V) (h1 : (Rf.exBin 2 ty ty ty off != 0) = true) (h2 : Vb.is ty x = true) (h3 : Vb.is ty a = true) (h4 : Vb.is ty y = true) (h5 : Vb.is ty b = true) (w : World) : Calls Tryz.prog 23 #[iv (2 : Int), iv ty, iv off, vv x, vv a, vv y, vv b] w fun e w' => e = .returned (.tuple #[vv (V.word (Vb.subtracted x.a a.a y.a b.a)), iv 0]) ∧ Below w.heap.size w w' := by
  go_enter Tryz.func23, Tryz.ntmps23
  go_wp2_with fail
  (refine (validBin_c 2 ty ty ty off _ 0 _ _ 0 _ _ (by go_simp) (by go_simp) ⟨by go_simp, by go_simp, by go_simp, by go_simp, by go_simp, by go_simp, by go_simp, by go_simp, by go_simp, by go_simp, by go_simp, by go_simp⟩ ).mono ?_; rintro e u1 ⟨rfl, hb⟩; obtain ⟨hc, hf⟩ := Flow.bcell hb; have hz := hb.size; (try simp only [World.size_alloc, World.size_setCell, World.size_drew] at hz); obtain ⟨z0, z1, z2, z3, z4, z5, z6, z7⟩ := Flow.zs8 (show w.heap.size + 8 ≤ u1.heap.size by omega))
  go_wp2_with fail
  (refine (ris_c _ _ _).mono ?_; rintro e u2 ⟨rfl, hb⟩; obtain ⟨hc, hf⟩ := Flow.bcell hb; have hz := hb.size; (try simp only [World.size_alloc, World.size_setCell, World.size_drew] at hz); obtain ⟨z0, z1, z2, z3, z4, z5, z6, z7⟩ := Flow.zs8 (show w.heap.size + 8 ≤ u2.heap.size by omega))
  go_wp2_with fail
  (refine (ris_c _ _ _).mono ?_; rintro e u3 ⟨rfl, hb⟩; obtain ⟨hc, hf⟩ := Flow.bcell hb; have hz := hb.size; (try simp only [World.size_alloc, World.size_setCell, World.size_drew] at hz); obtain ⟨z0, z1, z2, z3, z4, z5, z6, z7⟩ := Flow.zs8 (show w.heap.size + 8 ≤ u3.heap.size by omega))
  go_wp2_with fail
  (refine (ris_c _ _ _).mono ?_; rintro e u4 ⟨rfl, hb⟩; obtain ⟨hc, hf⟩ := Flow.bcell hb; have hz := hb.size; (try simp only [World.size_alloc, World.size_setCell, World.size_drew] at hz); obtain ⟨z0, z1, z2, z3, z4, z5, z6, z7⟩ := Flow.zs8 (show w.heap.size + 8 ≤ u4.heap.size by omega))
  go_wp2_with fail
  (refine (ris_c _ _ _).mono ?_; rintro e u5 ⟨rfl, hb⟩; obtain ⟨hc, hf⟩ := Flow.bcell hb; have hz := hb.size; (try simp only [World.size_alloc, World.size_setCell, World.size_drew] at hz); obtain ⟨z0, z1, z2, z3, z4, z5, z6, z7⟩ := Flow.zs8 (show w.heap.size + 8 ≤ u5.heap.size by omega))
  go_wp2_with fail
  (refine (word2_c x.a a.a y.a b.a _ ).mono ?_; rintro e u6 ⟨rfl, hb⟩; obtain ⟨hc, hf⟩ := Flow.bcell hb; have hz := hb.size; (try simp only [World.size_alloc, World.size_setCell, World.size_drew] at hz); obtain ⟨z0, z1, z2, z3, z4, z5, z6, z7⟩ := Flow.zs8 (show w.heap.size + 8 ≤ u6.heap.size by omega))
  go_wp2_with fail
  refine Flow.bodyPost_k rfl (fun K hK => ?_)
  simp only [results, Tryz.results23]
  go_simp
  refine hK _ ⟨?_, ?_⟩
  · rfl
  · (repeat (first | exact Below.refl _ _ | refine Below.setCell ?_ (by first | omega | (simp <;> omega)) _ | refine Below.alloc ?_ (by first | omega | (simp <;> omega)) _ | refine Below.drew ?_ | refine Below.trans ?_ (Below.mono (by assumption) (by first | omega | (simp <;> omega)))))
set_option maxRecDepth 100000 in
set_option maxHeartbeats 8000000 in
theorem rbin_3 (ty off : Int) (x a y b : V) (h1 : (Rf.exBin 3 ty ty ty off != 0) = true) (h2 : Vb.is ty x = true) (h3 : Vb.is ty a = true) (h4 : Vb.is ty y = true) (h5 : Vb.is ty b = true) (w : World) : Calls Tryz.prog 23 #[iv (3 : Int), iv ty, iv off, vv x, vv a, vv y, vv b] w fun e w' => e = .returned (.tuple #[vv (V.word (Vb.left (a.a ||| b.a))), iv 0]) ∧ Below w.heap.size w w' := by
  go_enter Tryz.func23, Tryz.ntmps23
  go_wp2_with fail
  (refine (validBin_c 3 ty ty ty off _ 0 _ _ 0 _ _ (by go_simp) (by go_simp) ⟨by go_simp, by go_simp, by go_simp, by go_simp, by go_simp, by go_simp, by go_simp, by go_simp, by go_simp, by go_simp, by go_simp, by go_simp⟩ ).mono ?_; rintro e u1 ⟨rfl, hb⟩; obtain ⟨hc, hf⟩ := Flow.bcell hb; have hz := hb.size; (try simp only [World.size_alloc, World.size_setCell, World.size_drew] at hz); obtain ⟨z0, z1, z2, z3, z4, z5, z6, z7⟩ := Flow.zs8 (show w.heap.size + 8 ≤ u1.heap.size by omega))
  go_wp2_with fail
  (refine (ris_c _ _ _).mono ?_; rintro e u2 ⟨rfl, hb⟩; obtain ⟨hc, hf⟩ := Flow.bcell hb; have hz := hb.size; (try simp only [World.size_alloc, World.size_setCell, World.size_drew] at hz); obtain ⟨z0, z1, z2, z3, z4, z5, z6, z7⟩ := Flow.zs8 (show w.heap.size + 8 ≤ u2.heap.size by omega))
  go_wp2_with fail
  (refine (ris_c _ _ _).mono ?_; rintro e u3 ⟨rfl, hb⟩; obtain ⟨hc, hf⟩ := Flow.bcell hb; have hz := hb.size; (try simp only [World.size_alloc, World.size_setCell, World.size_drew] at hz); obtain ⟨z0, z1, z2, z3, z4, z5, z6, z7⟩ := Flow.zs8 (show w.heap.size + 8 ≤ u3.heap.size by omega))
  go_wp2_with fail
  (refine (ris_c _ _ _).mono ?_; rintro e u4 ⟨rfl, hb⟩; obtain ⟨hc, hf⟩ := Flow.bcell hb; have hz := hb.size; (try simp only [World.size_alloc, World.size_setCell, World.size_drew] at hz); obtain ⟨z0, z1, z2, z3, z4, z5, z6, z7⟩ := Flow.zs8 (show w.heap.size + 8 ≤ u4.heap.size by omega))
  go_wp2_with fail
  (refine (ris_c _ _ _).mono ?_; rintro e u5 ⟨rfl, hb⟩; obtain ⟨hc, hf⟩ := Flow.bcell hb; have hz := hb.size; (try simp only [World.size_alloc, World.size_setCell, World.size_drew] at hz); obtain ⟨z0, z1, z2, z3, z4, z5, z6, z7⟩ := Flow.zs8 (show w.heap.size + 8 ≤ u5.heap.size by omega))
  go_wp2_with fail
  (refine (word3_c x.a a.a y.a b.a _ ).mono ?_; rintro e u6 ⟨rfl, hb⟩; obtain ⟨hc, hf⟩ := Flow.bcell hb; have hz := hb.size; (try simp only [World.size_alloc, World.size_setCell, World.size_drew] at hz); obtain ⟨z0, z1, z2, z3, z4, z5, z6, z7⟩ := Flow.zs8 (show w.heap.size + 8 ≤ u6.heap.size by omega))
  go_wp2_with fail
  refine Flow.bodyPost_k rfl (fun K hK => ?_)
  simp only [results, Tryz.results23]
  go_simp
  refine hK _ ⟨?_, ?_⟩
  · rfl
  · (repeat (first | exact Below.refl _ _ | refine Below.setCell ?_ (by first | omega | (simp <;> omega)) _ | refine Below.alloc ?_ (by first | omega | (simp <;> omega)) _ | refine Below.drew ?_ | refine Below.trans ?_ (Below.mono (by assumption) (by first | omega | (simp <;> omega)))))
set_option maxRecDepth 100000 in
set_option maxHeartbeats 8000000 in
theorem rbin_4 (ty off : Int) (x a y b : V) (h1 : (Rf.exBin 4 ty ty ty off != 0) = true) (h2 : Vb.is ty x = true) (h3 : Vb.is ty a = true) (h4 : Vb.is ty y = true) (h5 : Vb.is ty b = true) (w : World) : Calls Tryz.prog 23 #[iv (4 : Int), iv ty, iv off, vv x, vv a, vv y, vv b] w fun e w' => e = .returned (.tuple #[vv (V.word (Vb.some (a.a ||| b.a))), iv 0]) ∧ Below w.heap.size w w' := by
  go_enter Tryz.func23, Tryz.ntmps23
  go_wp2_with fail
  (refine (validBin_c 4 ty ty ty off _ 0 _ _ 0 _ _ (by go_simp) (by go_simp) ⟨by go_simp, by go_simp, by go_simp, by go_simp, by go_simp, by go_simp, by go_simp, by go_simp, by go_simp, by go_simp, by go_simp, by go_simp⟩ ).mono ?_; rintro e u1 ⟨rfl, hb⟩; obtain ⟨hc, hf⟩ := Flow.bcell hb; have hz := hb.size; (try simp only [World.size_alloc, World.size_setCell, World.size_drew] at hz); obtain ⟨z0, z1, z2, z3, z4, z5, z6, z7⟩ := Flow.zs8 (show w.heap.size + 8 ≤ u1.heap.size by omega))
  go_wp2_with fail
  (refine (ris_c _ _ _).mono ?_; rintro e u2 ⟨rfl, hb⟩; obtain ⟨hc, hf⟩ := Flow.bcell hb; have hz := hb.size; (try simp only [World.size_alloc, World.size_setCell, World.size_drew] at hz); obtain ⟨z0, z1, z2, z3, z4, z5, z6, z7⟩ := Flow.zs8 (show w.heap.size + 8 ≤ u2.heap.size by omega))
  go_wp2_with fail
  (refine (ris_c _ _ _).mono ?_; rintro e u3 ⟨rfl, hb⟩; obtain ⟨hc, hf⟩ := Flow.bcell hb; have hz := hb.size; (try simp only [World.size_alloc, World.size_setCell, World.size_drew] at hz); obtain ⟨z0, z1, z2, z3, z4, z5, z6, z7⟩ := Flow.zs8 (show w.heap.size + 8 ≤ u3.heap.size by omega))
  go_wp2_with fail
  (refine (ris_c _ _ _).mono ?_; rintro e u4 ⟨rfl, hb⟩; obtain ⟨hc, hf⟩ := Flow.bcell hb; have hz := hb.size; (try simp only [World.size_alloc, World.size_setCell, World.size_drew] at hz); obtain ⟨z0, z1, z2, z3, z4, z5, z6, z7⟩ := Flow.zs8 (show w.heap.size + 8 ≤ u4.heap.size by omega))
  go_wp2_with fail
  (refine (ris_c _ _ _).mono ?_; rintro e u5 ⟨rfl, hb⟩; obtain ⟨hc, hf⟩ := Flow.bcell hb; have hz := hb.size; (try simp only [World.size_alloc, World.size_setCell, World.size_drew] at hz); obtain ⟨z0, z1, z2, z3, z4, z5, z6, z7⟩ := Flow.zs8 (show w.heap.size + 8 ≤ u5.heap.size by omega))
  go_wp2_with fail
  (refine (word4_c x.a a.a y.a b.a _ ).mono ?_; rintro e u6 ⟨rfl, hb⟩; obtain ⟨hc, hf⟩ := Flow.bcell hb; have hz := hb.size; (try simp only [World.size_alloc, World.size_setCell, World.size_drew] at hz); obtain ⟨z0, z1, z2, z3, z4, z5, z6, z7⟩ := Flow.zs8 (show w.heap.size + 8 ≤ u6.heap.size by omega))
  go_wp2_with fail
  refine Flow.bodyPost_k rfl (fun K hK => ?_)
  simp only [results, Tryz.results23]
  go_simp
  refine hK _ ⟨?_, ?_⟩
  · rfl
  · (repeat (first | exact Below.refl _ _ | refine Below.setCell ?_ (by first | omega | (simp <;> omega)) _ | refine Below.alloc ?_ (by first | omega | (simp <;> omega)) _ | refine Below.drew ?_ | refine Below.trans ?_ (Below.mono (by assumption) (by first | omega | (simp <;> omega)))))
set_option maxRecDepth 100000 in
set_option maxHeartbeats 8000000 in
theorem rbin_5 (ty off : Int) (x a y b : V) (h1 : (Rf.exBin 5 ty ty ty off != 0) = true) (h2 : Vb.is ty x = true) (h3 : Vb.is ty a = true) (h4 : Vb.is ty y = true) (h5 : Vb.is ty b = true) (w : World) : Calls Tryz.prog 23 #[iv (5 : Int), iv ty, iv off, vv x, vv a, vv y, vv b] w fun e w' => e = .returned (.tuple #[vv (V.word (Vb.some (a.a ||| b.a))), iv 0]) ∧ Below w.heap.size w w' := by
  go_enter Tryz.func23, Tryz.ntmps23
  go_wp2_with fail
  (refine (validBin_c 5 ty ty ty off _ 0 _ _ 0 _ _ (by go_simp) (by go_simp) ⟨by go_simp, by go_simp, by go_simp, by go_simp, by go_simp, by go_simp, by go_simp, by go_simp, by go_simp, by go_simp, by go_simp, by go_simp⟩ ).mono ?_; rintro e u1 ⟨rfl, hb⟩; obtain ⟨hc, hf⟩ := Flow.bcell hb; have hz := hb.size; (try simp only [World.size_alloc, World.size_setCell, World.size_drew] at hz); obtain ⟨z0, z1, z2, z3, z4, z5, z6, z7⟩ := Flow.zs8 (show w.heap.size + 8 ≤ u1.heap.size by omega))
  go_wp2_with fail
  (refine (ris_c _ _ _).mono ?_; rintro e u2 ⟨rfl, hb⟩; obtain ⟨hc, hf⟩ := Flow.bcell hb; have hz := hb.size; (try simp only [World.size_alloc, World.size_setCell, World.size_drew] at hz); obtain ⟨z0, z1, z2, z3, z4, z5, z6, z7⟩ := Flow.zs8 (show w.heap.size + 8 ≤ u2.heap.size by omega))
  go_wp2_with fail
  (refine (ris_c _ _ _).mono ?_; rintro e u3 ⟨rfl, hb⟩; obtain ⟨hc, hf⟩ := Flow.bcell hb; have hz := hb.size; (try simp only [World.size_alloc, World.size_setCell, World.size_drew] at hz); obtain ⟨z0, z1, z2, z3, z4, z5, z6, z7⟩ := Flow.zs8 (show w.heap.size + 8 ≤ u3.heap.size by omega))
  go_wp2_with fail
  (refine (ris_c _ _ _).mono ?_; rintro e u4 ⟨rfl, hb⟩; obtain ⟨hc, hf⟩ := Flow.bcell hb; have hz := hb.size; (try simp only [World.size_alloc, World.size_setCell, World.size_drew] at hz); obtain ⟨z0, z1, z2, z3, z4, z5, z6, z7⟩ := Flow.zs8 (show w.heap.size + 8 ≤ u4.heap.size by omega))
  go_wp2_with fail
  (refine (ris_c _ _ _).mono ?_; rintro e u5 ⟨rfl, hb⟩; obtain ⟨hc, hf⟩ := Flow.bcell hb; have hz := hb.size; (try simp only [World.size_alloc, World.size_setCell, World.size_drew] at hz); obtain ⟨z0, z1, z2, z3, z4, z5, z6, z7⟩ := Flow.zs8 (show w.heap.size + 8 ≤ u5.heap.size by omega))
  go_wp2_with fail
  (refine (word5_c x.a a.a y.a b.a _ ).mono ?_; rintro e u6 ⟨rfl, hb⟩; obtain ⟨hc, hf⟩ := Flow.bcell hb; have hz := hb.size; (try simp only [World.size_alloc, World.size_setCell, World.size_drew] at hz); obtain ⟨z0, z1, z2, z3, z4, z5, z6, z7⟩ := Flow.zs8 (show w.heap.size + 8 ≤ u6.heap.size by omega))
  go_wp2_with fail
  refine Flow.bodyPost_k rfl (fun K hK => ?_)
  simp only [results, Tryz.results23]
  go_simp
  refine hK _ ⟨?_, ?_⟩
  · rfl
  · (repeat (first | exact Below.refl _ _ | refine Below.setCell ?_ (by first | omega | (simp <;> omega)) _ | refine Below.alloc ?_ (by first | omega | (simp <;> omega)) _ | refine Below.drew ?_ | refine Below.trans ?_ (Below.mono (by assumption) (by first | omega | (simp <;> omega)))))
set_option maxRecDepth 100000 in
set_option maxHeartbeats 8000000 in
theorem rbin_6 (ty off : Int) (x a y b : V) (h1 : (Rf.exBin 6 ty ty ty off != 0) = true) (h2 : Vb.is ty x = true) (h3 : Vb.is ty a = true) (h4 : Vb.is ty y = true) (h5 : Vb.is ty b = true) (w : World) : Calls Tryz.prog 23 #[iv (6 : Int), iv ty, iv off, vv x, vv a, vv y, vv b] w fun e w' => e = .returned (.tuple #[vv (V.word (Vb.some (a.a ||| b.a))), iv 0]) ∧ Below w.heap.size w w' := by
  go_enter Tryz.func23, Tryz.ntmps23
  go_wp2_with fail
  (refine (validBin_c 6 ty ty ty off _ 0 _ _ 0 _ _ (by go_simp) (by go_simp) ⟨by go_simp, by go_simp, by go_simp, by go_simp, by go_simp, by go_simp, by go_simp, by go_simp, by go_simp, by go_simp, by go_simp, by go_simp⟩ ).mono ?_; rintro e u1 ⟨rfl, hb⟩; obtain ⟨hc, hf⟩ := Flow.bcell hb; have hz := hb.size; (try simp only [World.size_alloc, World.size_setCell, World.size_drew] at hz); obtain ⟨z0, z1, z2, z3, z4, z5, z6, z7⟩ := Flow.zs8 (show w.heap.size + 8 ≤ u1.heap.size by omega))
  go_wp2_with fail
  (refine (ris_c _ _ _).mono ?_; rintro e u2 ⟨rfl, hb⟩; obtain ⟨hc, hf⟩ := Flow.bcell hb; have hz := hb.size; (try simp only [World.size_alloc, World.size_setCell, World.size_drew] at hz); obtain ⟨z0, z1, z2, z3, z4, z5, z6, z7⟩ := Flow.zs8 (show w.heap.size + 8 ≤ u2.heap.size by omega))
  go_wp2_with fail
  (refine (ris_c _ _ _).mono ?_; rintro e u3 ⟨rfl, hb⟩; obtain ⟨hc, hf⟩ := Flow.bcell hb; have hz := hb.size; (try simp only [World.size_alloc, World.size_setCell, World.size_drew] at hz); obtain ⟨z0, z1, z2, z3, z4, z5, z6, z7⟩ := Flow.zs8 (show w.heap.size + 8 ≤ u3.heap.size by omega))
  go_wp2_with fail
  (refine (ris_c _ _ _).mono ?_; rintro e u4 ⟨rfl, hb⟩; obtain ⟨hc, hf⟩ := Flow.bcell hb; have hz := hb.size; (try simp only [World.size_alloc, World.size_setCell, World.size_drew] at hz); obtain ⟨z0, z1, z2, z3, z4, z5, z6, z7⟩ := Flow.zs8 (show w.heap.size + 8 ≤ u4.heap.size by omega))
  go_wp2_with fail
  (refine (ris_c _ _ _).mono ?_; rintro e u5 ⟨rfl, hb⟩; obtain ⟨hc, hf⟩ := Flow.bcell hb; have hz := hb.size; (try simp only [World.size_alloc, World.size_setCell, World.size_drew] at hz); obtain ⟨z0, z1, z2, z3, z4, z5, z6, z7⟩ := Flow.zs8 (show w.heap.size + 8 ≤ u5.heap.size by omega))
  go_wp2_with fail
  (refine (word6_c x.a a.a y.a b.a _ ).mono ?_; rintro e u6 ⟨rfl, hb⟩; obtain ⟨hc, hf⟩ := Flow.bcell hb; have hz := hb.size; (try simp only [World.size_alloc, World.size_setCell, World.size_drew] at hz); obtain ⟨z0, z1, z2, z3, z4, z5, z6, z7⟩ := Flow.zs8 (show w.heap.size + 8 ≤ u6.heap.size by omega))
  go_wp2_with fail
  refine Flow.bodyPost_k rfl (fun K hK => ?_)
  simp only [results, Tryz.results23]
  go_simp
  refine hK _ ⟨?_, ?_⟩
  · rfl
  · (repeat (first | exact Below.refl _ _ | refine Below.setCell ?_ (by first | omega | (simp <;> omega)) _ | refine Below.alloc ?_ (by first | omega | (simp <;> omega)) _ | refine Below.drew ?_ | refine Below.trans ?_ (Below.mono (by assumption) (by first | omega | (simp <;> omega)))))
set_option maxRecDepth 100000 in
set_option maxHeartbeats 8000000 in
theorem rbin_7 (ty off : Int) (x a y b : V) (h1 : (Rf.exBin 7 ty ty ty off != 0) = true) (h2 : Vb.is ty x = true) (h3 : Vb.is ty a = true) (h4 : Vb.is ty y = true) (h5 : Vb.is ty b = true) (w : World) : Calls Tryz.prog 23 #[iv (7 : Int), iv ty, iv off, vv x, vv a, vv y, vv b] w fun e w' => e = .returned (.tuple #[vv (V.word (Vb.some (a.a ||| b.a))), iv 0]) ∧ Below w.heap.size w w' := by
  go_enter Tryz.func23, Tryz.ntmps23
  go_wp2_with fail
  (refine (validBin_c 7 ty ty ty off _ 0 _ _ 0 _ _ (by go_simp) (by go_simp) ⟨by go_simp, by go_simp, by go_simp, by go_simp, by go_simp, by go_simp, by go_simp, by go_simp, by go_simp, by go_simp, by go_simp, by go_simp⟩ ).mono ?_; rintro e u1 ⟨rfl, hb⟩; obtain ⟨hc, hf⟩ := Flow.bcell hb; have hz := hb.size; (try simp only [World.size_alloc, World.size_setCell, World.size_drew] at hz); obtain ⟨z0, z1, z2, z3, z4, z5, z6, z7⟩ := Flow.zs8 (show w.heap.size + 8 ≤ u1.heap.size by omega))
  go_wp2_with fail
  (refine (ris_c _ _ _).mono ?_; rintro e u2 ⟨rfl, hb⟩; obtain ⟨hc, hf⟩ := Flow.bcell hb; have hz := hb.size; (try simp only [World.size_alloc, World.size_setCell, World.size_drew] at hz); obtain ⟨z0, z1, z2, z3, z4, z5, z6, z7⟩ := Flow.zs8 (show w.heap.size + 8 ≤ u2.heap.size by omega))
  go_wp2_with fail
  (refine (ris_c _ _ _).mono ?_; rintro e u3 ⟨rfl, hb⟩; obtain ⟨hc, hf⟩ := Flow.bcell hb; have hz := hb.size; (try simp only [World.size_alloc, World.size_setCell, World.size_drew] at hz); obtain ⟨z0, z1, z2, z3, z4, z5, z6, z7⟩ := Flow.zs8 (show w.heap.size + 8 ≤ u3.heap.size by omega))
  go_wp2_with fail
  (refine (ris_c _ _ _).mono ?_; rintro e u4 ⟨rfl, hb⟩; obtain ⟨hc, hf⟩ := Flow.bcell hb; have hz := hb.size; (try simp only [World.size_alloc, World.size_setCell, World.size_drew] at hz); obtain ⟨z0, z1, z2, z3, z4, z5, z6, z7⟩ := Flow.zs8 (show w.heap.size + 8 ≤ u4.heap.size by omega))
  go_wp2_with fail
  (refine (ris_c _ _ _).mono ?_; rintro e u5 ⟨rfl, hb⟩; obtain ⟨hc, hf⟩ := Flow.bcell hb; have hz := hb.size; (try simp only [World.size_alloc, World.size_setCell, World.size_drew] at hz); obtain ⟨z0, z1, z2, z3, z4, z5, z6, z7⟩ := Flow.zs8 (show w.heap.size + 8 ≤ u5.heap.size by omega))
  go_wp2_with fail
  (refine (word7_c x.a a.a y.a b.a _ ).mono ?_; rintro e u6 ⟨rfl, hb⟩; obtain ⟨hc, hf⟩ := Flow.bcell hb; have hz := hb.size; (try simp only [World.size_alloc, World.size_setCell, World.size_drew] at hz); obtain ⟨z0, z1, z2, z3, z4, z5, z6, z7⟩ := Flow.zs8 (show w.heap.size + 8 ≤ u6.heap.size by omega))
  go_wp2_with fail
  refine Flow.bodyPost_k rfl (fun K hK => ?_)
  simp only [results, Tryz.results23]
  go_simp
  refine hK _ ⟨?_, ?_⟩
  · rfl
  · (repeat (first | exact Below.refl _ _ | refine Below.setCell ?_ (by first | omega | (simp <;> omega)) _ | refine Below.alloc ?_ (by first | omega | (simp <;> omega)) _ | refine Below.drew ?_ | refine Below.trans ?_ (Below.mono (by assumption) (by first | omega | (simp <;> omega)))))
set_option maxRecDepth 100000 in
set_option maxHeartbeats 8000000 in
theorem rbin_11 (ty off : Int) (x a y b : V) (h1 : (Rf.exBin 11 ty ty ty off != 0) = true) (h2 : Vb.is ty x = true) (h3 : Vb.is ty a = true) (h4 : Vb.is ty y = true) (h5 : Vb.is ty b = true) (w : World) : Calls Tryz.prog 23 #[iv (11 : Int), iv ty, iv off, vv x, vv a, vv y, vv b] w fun e w' => e = .returned (.tuple #[vv (V.word ((a.a <<< (y.a &&& 31#32).toNat) ||| Vb.some (b.a &&& 31#32))), iv 0]) ∧ Below w.heap.size w w' := by
  go_enter Tryz.func23, Tryz.ntmps23
  go_wp2_with fail
  (refine (validBin_c 11 ty ty ty off _ 0 _ _ 0 _ _ (by go_simp) (by go_simp) ⟨by go_simp, by go_simp, by go_simp, by go_simp, by go_simp, by go_simp, by go_simp, by go_simp, by go_simp, by go_simp, by go_simp, by go_simp⟩ ).mono ?_; rintro e u1 ⟨rfl, hb⟩; obtain ⟨hc, hf⟩ := Flow.bcell hb; have hz := hb.size; (try simp only [World.size_alloc, World.size_setCell, World.size_drew] at hz); obtain ⟨z0, z1, z2, z3, z4, z5, z6, z7⟩ := Flow.zs8 (show w.heap.size + 8 ≤ u1.heap.size by omega))
  go_wp2_with fail
  (refine (ris_c _ _ _).mono ?_; rintro e u2 ⟨rfl, hb⟩; obtain ⟨hc, hf⟩ := Flow.bcell hb; have hz := hb.size; (try simp only [World.size_alloc, World.size_setCell, World.size_drew] at hz); obtain ⟨z0, z1, z2, z3, z4, z5, z6, z7⟩ := Flow.zs8 (show w.heap.size + 8 ≤ u2.heap.size by omega))
  go_wp2_with fail
  (refine (ris_c _ _ _).mono ?_; rintro e u3 ⟨rfl, hb⟩; obtain ⟨hc, hf⟩ := Flow.bcell hb; have hz := hb.size; (try simp only [World.size_alloc, World.size_setCell, World.size_drew] at hz); obtain ⟨z0, z1, z2, z3, z4, z5, z6, z7⟩ := Flow.zs8 (show w.heap.size + 8 ≤ u3.heap.size by omega))
  go_wp2_with fail
  (refine (ris_c _ _ _).mono ?_; rintro e u4 ⟨rfl, hb⟩; obtain ⟨hc, hf⟩ := Flow.bcell hb; have hz := hb.size; (try simp only [World.size_alloc, World.size_setCell, World.size_drew] at hz); obtain ⟨z0, z1, z2, z3, z4, z5, z6, z7⟩ := Flow.zs8 (show w.heap.size + 8 ≤ u4.heap.size by omega))
  go_wp2_with fail
  (refine (ris_c _ _ _).mono ?_; rintro e u5 ⟨rfl, hb⟩; obtain ⟨hc, hf⟩ := Flow.bcell hb; have hz := hb.size; (try simp only [World.size_alloc, World.size_setCell, World.size_drew] at hz); obtain ⟨z0, z1, z2, z3, z4, z5, z6, z7⟩ := Flow.zs8 (show w.heap.size + 8 ≤ u5.heap.size by omega))
  go_wp2_with fail
  (refine (word11_c x.a a.a y.a b.a _ ).mono ?_; rintro e u6 ⟨rfl, hb⟩; obtain ⟨hc, hf⟩ := Flow.bcell hb; have hz := hb.size; (try simp only [World.size_alloc, World.size_setCell, World.size_drew] at hz); obtain ⟨z0, z1, z2, z3, z4, z5, z6, z7⟩ := Flow.zs8 (show w.heap.size + 8 ≤ u6.heap.size by omega))
  go_wp2_with fail
  refine Flow.bodyPost_k rfl (fun K hK => ?_)
  simp only [results, Tryz.results23]
  go_simp
  refine hK _ ⟨?_, ?_⟩
  · rfl
  · (repeat (first | exact Below.refl _ _ | refine Below.setCell ?_ (by first | omega | (simp <;> omega)) _ | refine Below.alloc ?_ (by first | omega | (simp <;> omega)) _ | refine Below.drew ?_ | refine Below.trans ?_ (Below.mono (by assumption) (by first | omega | (simp <;> omega)))))
set_option maxRecDepth 100000 in
set_option maxHeartbeats 8000000 in
theorem rbin_12 (ty off : Int) (x a y b : V) (h1 : (Rf.exBin 12 ty ty ty off != 0) = true) (h2 : Vb.is ty x = true) (h3 : Vb.is ty a = true) (h4 : Vb.is ty y = true) (h5 : Vb.is ty b = true) (w : World) : Calls Tryz.prog 23 #[iv (12 : Int), iv ty, iv off, vv x, vv a, vv y, vv b] w fun e w' => e = .returned (.tuple #[vv (V.word ((a.a >>> (y.a &&& 31#32).toNat) ||| Vb.some (b.a &&& 31#32))), iv 0]) ∧ Below w.heap.size w w' := by
  go_enter Tryz.func23, Tryz.ntmps23
  go_wp2_with fail
  (refine (validBin_c 12 ty ty ty off _ 0 _ _ 0 _ _ (by go_simp) (by go_simp) ⟨by go_simp, by go_simp, by go_simp, by go_simp, by go_simp, by go_simp, by go_simp, by go_simp, by go_simp, by go_simp, by go_simp, by go_simp⟩ ).mono ?_; rintro e u1 ⟨rfl, hb⟩; obtain ⟨hc, hf⟩ := Flow.bcell hb; have hz := hb.size; (try simp only [World.size_alloc, World.size_setCell, World.size_drew] at hz); obtain ⟨z0, z1, z2, z3, z4, z5, z6, z7⟩ := Flow.zs8 (show w.heap.size + 8 ≤ u1.heap.size by omega))
  go_wp2_with fail
  (refine (ris_c _ _ _).mono ?_; rintro e u2 ⟨rfl, hb⟩; obtain ⟨hc, hf⟩ := Flow.bcell hb; have hz := hb.size; (try simp only [World.size_alloc, World.size_setCell, World.size_drew] at hz); obtain ⟨z0, z1, z2, z3, z4, z5, z6, z7⟩ := Flow.zs8 (show w.heap.size + 8 ≤ u2.heap.size by omega))
  go_wp2_with fail
  (refine (ris_c _ _ _).mono ?_; rintro e u3 ⟨rfl, hb⟩; obtain ⟨hc, hf⟩ := Flow.bcell hb; have hz := hb.size; (try simp only [World.size_alloc, World.size_setCell, World.size_drew] at hz); obtain ⟨z0, z1, z2, z3, z4, z5, z6, z7⟩ := Flow.zs8 (show w.heap.size + 8 ≤ u3.heap.size by omega))
  go_wp2_with fail
  (refine (ris_c _ _ _).mono ?_; rintro e u4 ⟨rfl, hb⟩; obtain ⟨hc, hf⟩ := Flow.bcell hb; have hz := hb.size; (try simp only [World.size_alloc, World.size_setCell, World.size_drew] at hz); obtain ⟨z0, z1, z2, z3, z4, z5, z6, z7⟩ := Flow.zs8 (show w.heap.size + 8 ≤ u4.heap.size by omega))
  go_wp2_with fail
  (refine (ris_c _ _ _).mono ?_; rintro e u5 ⟨rfl, hb⟩; obtain ⟨hc, hf⟩ := Flow.bcell hb; have hz := hb.size; (try simp only [World.size_alloc, World.size_setCell, World.size_drew] at hz); obtain ⟨z0, z1, z2, z3, z4, z5, z6, z7⟩ := Flow.zs8 (show w.heap.size + 8 ≤ u5.heap.size by omega))
  go_wp2_with fail
  (refine (word12_c x.a a.a y.a b.a _ ).mono ?_; rintro e u6 ⟨rfl, hb⟩; obtain ⟨hc, hf⟩ := Flow.bcell hb; have hz := hb.size; (try simp only [World.size_alloc, World.size_setCell, World.size_drew] at hz); obtain ⟨z0, z1, z2, z3, z4, z5, z6, z7⟩ := Flow.zs8 (show w.heap.size + 8 ≤ u6.heap.size by omega))
  go_wp2_with fail
  refine Flow.bodyPost_k rfl (fun K hK => ?_)
  simp only [results, Tryz.results23]
  go_simp
  refine hK _ ⟨?_, ?_⟩
  · rfl
  · (repeat (first | exact Below.refl _ _ | refine Below.setCell ?_ (by first | omega | (simp <;> omega)) _ | refine Below.alloc ?_ (by first | omega | (simp <;> omega)) _ | refine Below.drew ?_ | refine Below.trans ?_ (Below.mono (by assumption) (by first | omega | (simp <;> omega)))))
set_option maxRecDepth 100000 in
set_option maxHeartbeats 8000000 in
theorem rbin_13 (ty off : Int) (x a y b : V) (h1 : (Rf.exBin 13 ty ty ty off != 0) = true) (h2 : Vb.is ty x = true) (h3 : Vb.is ty a = true) (h4 : Vb.is ty y = true) (h5 : Vb.is ty b = true) (w : World) : Calls Tryz.prog 23 #[iv (13 : Int), iv ty, iv off, vv x, vv a, vv y, vv b] w fun e w' => e = .returned (.tuple #[vv (V.word ((a.a.sshiftRight (y.a &&& 31#32).toNat) ||| Vb.some (b.a &&& 31#32))), iv 0]) ∧ Below w.heap.size w w' := by
  go_enter Tryz.func23, Tryz.ntmps23
  go_wp2_with fail
  (refine (validBin_c 13 ty ty ty off _ 0 _ _ 0 _ _ (by go_simp) (by go_simp) ⟨by go_simp, by go_simp, by go_simp, by go_simp, by go_simp, by go_simp, by go_simp, by go_simp, by go_simp, by go_simp, by go_simp, by go_simp⟩ ).mono ?_; rintro e u1 ⟨rfl, hb⟩; obtain ⟨hc, hf⟩ := Flow.bcell hb; have hz := hb.size; (try simp only [World.size_alloc, World.size_setCell, World.size_drew] at hz); obtain ⟨z0, z1, z2, z3, z4, z5, z6, z7⟩ := Flow.zs8 (show w.heap.size + 8 ≤ u1.heap.size by omega))
  go_wp2_with fail
  (refine (ris_c _ _ _).mono ?_; rintro e u2 ⟨rfl, hb⟩; obtain ⟨hc, hf⟩ := Flow.bcell hb; have hz := hb.size; (try simp only [World.size_alloc, World.size_setCell, World.size_drew] at hz); obtain ⟨z0, z1, z2, z3, z4, z5, z6, z7⟩ := Flow.zs8 (show w.heap.size + 8 ≤ u2.heap.size by omega))
  go_wp2_with fail
  (refine (ris_c _ _ _).mono ?_; rintro e u3 ⟨rfl, hb⟩; obtain ⟨hc, hf⟩ := Flow.bcell hb; have hz := hb.size; (try simp only [World.size_alloc, World.size_setCell, World.size_drew] at hz); obtain ⟨z0, z1, z2, z3, z4, z5, z6, z7⟩ := Flow.zs8 (show w.heap.size + 8 ≤ u3.heap.size by omega))
  go_wp2_with fail
  (refine (ris_c _ _ _).mono ?_; rintro e u4 ⟨rfl, hb⟩; obtain ⟨hc, hf⟩ := Flow.bcell hb; have hz := hb.size; (try simp only [World.size_alloc, World.size_setCell, World.size_drew] at hz); obtain ⟨z0, z1, z2, z3, z4, z5, z6, z7⟩ := Flow.zs8 (show w.heap.size + 8 ≤ u4.heap.size by omega))
  go_wp2_with fail
  (refine (ris_c _ _ _).mono ?_; rintro e u5 ⟨rfl, hb⟩; obtain ⟨hc, hf⟩ := Flow.bcell hb; have hz := hb.size; (try simp only [World.size_alloc, World.size_setCell, World.size_drew] at hz); obtain ⟨z0, z1, z2, z3, z4, z5, z6, z7⟩ := Flow.zs8 (show w.heap.size + 8 ≤ u5.heap.size by omega))
  go_wp2_with fail
  (refine (word13_c x.a a.a y.a b.a _ ).mono ?_; rintro e u6 ⟨rfl, hb⟩; obtain ⟨hc, hf⟩ := Flow.bcell hb; have hz := hb.size; (try simp only [World.size_alloc, World.size_setCell, World.size_drew] at hz); obtain ⟨z0, z1, z2, z3, z4, z5, z6, z7⟩ := Flow.zs8 (show w.heap.size + 8 ≤ u6.heap.size by omega))
  go_wp2_with fail
  refine Flow.bodyPost_k rfl (fun K hK => ?_)
  simp only [results, Tryz.results23]
  go_simp
  refine hK _ ⟨?_, ?_⟩
  · rfl
  · (repeat (first | exact Below.refl _ _ | refine Below.setCell ?_ (by first | omega | (simp <;> omega)) _ | refine Below.alloc ?_ (by first | omega | (simp <;> omega)) _ | refine Below.drew ?_ | refine Below.trans ?_ (Below.mono (by assumption) (by first | omega | (simp <;> omega)))))
set_option maxRecDepth 100000 in
set_option maxHeartbeats 8000000 in
theorem rbin_16 (ty off : Int) (x a y b : V) (h1 : (Rf.exBin 16 ty ty 1 off != 0) = true) (h2 : Vb.is ty x = true) (h3 : Vb.is ty a = true) (h4 : Vb.is ty y = true) (h5 : Vb.is ty b = true) (w : World) : Calls Tryz.prog 23 #[iv (16 : Int), iv ty, iv off, vv x, vv a, vv y, vv b] w fun e w' => e = .returned (.tuple #[vv (V.word (Rf.bitOf (decide (Vb.least x.a a.a < Vb.greatest y.a b.a) != decide (Vb.greatest x.a a.a < Vb.least y.a b.a)))), iv 0]) ∧ Below w.heap.size w w' := by
  go_enter Tryz.func23, Tryz.ntmps23
  go_wp2_with fail
  (refine (validBin_c 16 ty ty 1 off _ 0 _ _ 0 _ _ (by go_simp) (by go_simp) ⟨by go_simp, by go_simp, by go_simp, by go_simp, by go_simp, by go_simp, by go_simp, by go_simp, by go_simp, by go_simp, by go_simp, by go_simp⟩ ).mono ?_; rintro e u1 ⟨rfl, hb⟩; obtain ⟨hc, hf⟩ := Flow.bcell hb; have hz := hb.size; (try simp only [World.size_alloc, World.size_setCell, World.size_drew] at hz); obtain ⟨z0, z1, z2, z3, z4, z5, z6, z7⟩ := Flow.zs8 (show w.heap.size + 8 ≤ u1.heap.size by omega))
  go_wp2_with fail
  (refine (ris_c _ _ _).mono ?_; rintro e u2 ⟨rfl, hb⟩; obtain ⟨hc, hf⟩ := Flow.bcell hb; have hz := hb.size; (try simp only [World.size_alloc, World.size_setCell, World.size_drew] at hz); obtain ⟨z0, z1, z2, z3, z4, z5, z6, z7⟩ := Flow.zs8 (show w.heap.size + 8 ≤ u2.heap.size by omega))
  go_wp2_with fail
  (refine (ris_c _ _ _).mono ?_; rintro e u3 ⟨rfl, hb⟩; obtain ⟨hc, hf⟩ := Flow.bcell hb; have hz := hb.size; (try simp only [World.size_alloc, World.size_setCell, World.size_drew] at hz); obtain ⟨z0, z1, z2, z3, z4, z5, z6, z7⟩ := Flow.zs8 (show w.heap.size + 8 ≤ u3.heap.size by omega))
  go_wp2_with fail
  (refine (ris_c _ _ _).mono ?_; rintro e u4 ⟨rfl, hb⟩; obtain ⟨hc, hf⟩ := Flow.bcell hb; have hz := hb.size; (try simp only [World.size_alloc, World.size_setCell, World.size_drew] at hz); obtain ⟨z0, z1, z2, z3, z4, z5, z6, z7⟩ := Flow.zs8 (show w.heap.size + 8 ≤ u4.heap.size by omega))
  go_wp2_with fail
  (refine (ris_c _ _ _).mono ?_; rintro e u5 ⟨rfl, hb⟩; obtain ⟨hc, hf⟩ := Flow.bcell hb; have hz := hb.size; (try simp only [World.size_alloc, World.size_setCell, World.size_drew] at hz); obtain ⟨z0, z1, z2, z3, z4, z5, z6, z7⟩ := Flow.zs8 (show w.heap.size + 8 ≤ u5.heap.size by omega))
  go_wp2_with fail
  (refine (word16_c x.a a.a y.a b.a _ ).mono ?_; rintro e u6 ⟨rfl, hb⟩; obtain ⟨hc, hf⟩ := Flow.bcell hb; have hz := hb.size; (try simp only [World.size_alloc, World.size_setCell, World.size_drew] at hz); obtain ⟨z0, z1, z2, z3, z4, z5, z6, z7⟩ := Flow.zs8 (show w.heap.size + 8 ≤ u6.heap.size by omega))
  go_wp2_with fail
  refine Flow.bodyPost_k rfl (fun K hK => ?_)
  simp only [results, Tryz.results23]
  go_simp
  refine hK _ ⟨?_, ?_⟩
  · rfl
  · (repeat (first | exact Below.refl _ _ | refine Below.setCell ?_ (by first | omega | (simp <;> omega)) _ | refine Below.alloc ?_ (by first | omega | (simp <;> omega)) _ | refine Below.drew ?_ | refine Below.trans ?_ (Below.mono (by assumption) (by first | omega | (simp <;> omega)))))
set_option maxRecDepth 100000 in
set_option maxHeartbeats 8000000 in
theorem rbin_17 (ty off : Int) (x a y b : V) (h1 : (Rf.exBin 17 ty ty 1 off != 0) = true) (h2 : Vb.is ty x = true) (h3 : Vb.is ty a = true) (h4 : Vb.is ty y = true) (h5 : Vb.is ty b = true) (w : World) : Calls Tryz.prog 23 #[iv (17 : Int), iv ty, iv off, vv x, vv a, vv y, vv b] w fun e w' => e = .returned (.tuple #[vv (V.word (Rf.bitOf (decide (S (Rf.low x.a a.a) < S (Rf.high y.a b.a)) != decide (S (Rf.high x.a a.a) < S (Rf.low y.a b.a))))), iv 0]) ∧ Below w.heap.size w w' := by
  go_enter Tryz.func23, Tryz.ntmps23
  go_wp2_with fail
  (refine (validBin_c 17 ty ty 1 off _ 0 _ _ 0 _ _ (by go_simp) (by go_simp) ⟨by go_simp, by go_simp, by go_simp, by go_simp, by go_simp, by go_simp, by go_simp, by go_simp, by go_simp, by go_simp, by go_simp, by go_simp⟩ ).mono ?_; rintro e u1 ⟨rfl, hb⟩; obtain ⟨hc, hf⟩ := Flow.bcell hb; have hz := hb.size; (try simp only [World.size_alloc, World.size_setCell, World.size_drew] at hz); obtain ⟨z0, z1, z2, z3, z4, z5, z6, z7⟩ := Flow.zs8 (show w.heap.size + 8 ≤ u1.heap.size by omega))
  go_wp2_with fail
  (refine (ris_c _ _ _).mono ?_; rintro e u2 ⟨rfl, hb⟩; obtain ⟨hc, hf⟩ := Flow.bcell hb; have hz := hb.size; (try simp only [World.size_alloc, World.size_setCell, World.size_drew] at hz); obtain ⟨z0, z1, z2, z3, z4, z5, z6, z7⟩ := Flow.zs8 (show w.heap.size + 8 ≤ u2.heap.size by omega))
  go_wp2_with fail
  (refine (ris_c _ _ _).mono ?_; rintro e u3 ⟨rfl, hb⟩; obtain ⟨hc, hf⟩ := Flow.bcell hb; have hz := hb.size; (try simp only [World.size_alloc, World.size_setCell, World.size_drew] at hz); obtain ⟨z0, z1, z2, z3, z4, z5, z6, z7⟩ := Flow.zs8 (show w.heap.size + 8 ≤ u3.heap.size by omega))
  go_wp2_with fail
  (refine (ris_c _ _ _).mono ?_; rintro e u4 ⟨rfl, hb⟩; obtain ⟨hc, hf⟩ := Flow.bcell hb; have hz := hb.size; (try simp only [World.size_alloc, World.size_setCell, World.size_drew] at hz); obtain ⟨z0, z1, z2, z3, z4, z5, z6, z7⟩ := Flow.zs8 (show w.heap.size + 8 ≤ u4.heap.size by omega))
  go_wp2_with fail
  (refine (ris_c _ _ _).mono ?_; rintro e u5 ⟨rfl, hb⟩; obtain ⟨hc, hf⟩ := Flow.bcell hb; have hz := hb.size; (try simp only [World.size_alloc, World.size_setCell, World.size_drew] at hz); obtain ⟨z0, z1, z2, z3, z4, z5, z6, z7⟩ := Flow.zs8 (show w.heap.size + 8 ≤ u5.heap.size by omega))
  go_wp2_with fail
  (refine (word17_c x.a a.a y.a b.a _ ).mono ?_; rintro e u6 ⟨rfl, hb⟩; obtain ⟨hc, hf⟩ := Flow.bcell hb; have hz := hb.size; (try simp only [World.size_alloc, World.size_setCell, World.size_drew] at hz); obtain ⟨z0, z1, z2, z3, z4, z5, z6, z7⟩ := Flow.zs8 (show w.heap.size + 8 ≤ u6.heap.size by omega))
  go_wp2_with fail
  refine Flow.bodyPost_k rfl (fun K hK => ?_)
  simp only [results, Tryz.results23]
  go_simp
  refine hK _ ⟨?_, ?_⟩
  · rfl
  · (repeat (first | exact Below.refl _ _ | refine Below.setCell ?_ (by first | omega | (simp <;> omega)) _ | refine Below.alloc ?_ (by first | omega | (simp <;> omega)) _ | refine Below.drew ?_ | refine Below.trans ?_ (Below.mono (by assumption) (by first | omega | (simp <;> omega)))))
set_option maxRecDepth 100000 in
set_option maxHeartbeats 8000000 in
theorem rbin_18 (ty off : Int) (x a y b : V) (h1 : (Rf.exBin 18 ty ty 1 off != 0) = true) (h2 : Vb.is ty x = true) (h3 : Vb.is ty a = true) (h4 : Vb.is ty y = true) (h5 : Vb.is ty b = true) (w : World) : Calls Tryz.prog 23 #[iv (18 : Int), iv ty, iv off, vv x, vv a, vv y, vv b] w fun e w' => e = .returned (.tuple #[vv (V.word (Rf.bitOf (decide (Vb.least x.a a.a ≤ Vb.greatest y.a b.a) != decide (Vb.greatest x.a a.a ≤ Vb.least y.a b.a)))), iv 0]) ∧ Below w.heap.size w w' := by
  go_enter Tryz.func23, Tryz.ntmps23
  go_wp2_with fail
  (refine (validBin_c 18 ty ty 1 off _ 0 _ _ 0 _ _ (by go_simp) (by go_simp) ⟨by go_simp, by go_simp, by go_simp, by go_simp, by go_simp, by go_simp, by go_simp, by go_simp, by go_simp, by go_simp, by go_simp, by go_simp⟩ ).mono ?_; rintro e u1 ⟨rfl, hb⟩; obtain ⟨hc, hf⟩ := Flow.bcell hb; have hz := hb.size; (try simp only [World.size_alloc, World.size_setCell, World.size_drew] at hz); obtain ⟨z0, z1, z2, z3, z4, z5, z6, z7⟩ := Flow.zs8 (show w.heap.size + 8 ≤ u1.heap.size by omega))
  go_wp2_with fail
  (refine (ris_c _ _ _).mono ?_; rintro e u2 ⟨rfl, hb⟩; obtain ⟨hc, hf⟩ := Flow.bcell hb; have hz := hb.size; (try simp only [World.size_alloc, World.size_setCell, World.size_drew] at hz); obtain ⟨z0, z1, z2, z3, z4, z5, z6, z7⟩ := Flow.zs8 (show w.heap.size + 8 ≤ u2.heap.size by omega))
  go_wp2_with fail
  (refine (ris_c _ _ _).mono ?_; rintro e u3 ⟨rfl, hb⟩; obtain ⟨hc, hf⟩ := Flow.bcell hb; have hz := hb.size; (try simp only [World.size_alloc, World.size_setCell, World.size_drew] at hz); obtain ⟨z0, z1, z2, z3, z4, z5, z6, z7⟩ := Flow.zs8 (show w.heap.size + 8 ≤ u3.heap.size by omega))
  go_wp2_with fail
  (refine (ris_c _ _ _).mono ?_; rintro e u4 ⟨rfl, hb⟩; obtain ⟨hc, hf⟩ := Flow.bcell hb; have hz := hb.size; (try simp only [World.size_alloc, World.size_setCell, World.size_drew] at hz); obtain ⟨z0, z1, z2, z3, z4, z5, z6, z7⟩ := Flow.zs8 (show w.heap.size + 8 ≤ u4.heap.size by omega))
  go_wp2_with fail
  (refine (ris_c _ _ _).mono ?_; rintro e u5 ⟨rfl, hb⟩; obtain ⟨hc, hf⟩ := Flow.bcell hb; have hz := hb.size; (try simp only [World.size_alloc, World.size_setCell, World.size_drew] at hz); obtain ⟨z0, z1, z2, z3, z4, z5, z6, z7⟩ := Flow.zs8 (show w.heap.size + 8 ≤ u5.heap.size by omega))
  go_wp2_with fail
  (refine (word18_c x.a a.a y.a b.a _ ).mono ?_; rintro e u6 ⟨rfl, hb⟩; obtain ⟨hc, hf⟩ := Flow.bcell hb; have hz := hb.size; (try simp only [World.size_alloc, World.size_setCell, World.size_drew] at hz); obtain ⟨z0, z1, z2, z3, z4, z5, z6, z7⟩ := Flow.zs8 (show w.heap.size + 8 ≤ u6.heap.size by omega))
  go_wp2_with fail
  refine Flow.bodyPost_k rfl (fun K hK => ?_)
  simp only [results, Tryz.results23]
  go_simp
  refine hK _ ⟨?_, ?_⟩
  · rfl
  · (repeat (first | exact Below.refl _ _ | refine Below.setCell ?_ (by first | omega | (simp <;> omega)) _ | refine Below.alloc ?_ (by first | omega | (simp <;> omega)) _ | refine Below.drew ?_ | refine Below.trans ?_ (Below.mono (by assumption) (by first | omega | (simp <;> omega)))))
set_option maxRecDepth 100000 in
set_option maxHeartbeats 8000000 in
theorem rbin_19 (ty off : Int) (x a y b : V) (h1 : (Rf.exBin 19 ty ty 1 off != 0) = true) (h2 : Vb.is ty x = true) (h3 : Vb.is ty a = true) (h4 : Vb.is ty y = true) (h5 : Vb.is ty b = true) (w : World) : Calls Tryz.prog 23 #[iv (19 : Int), iv ty, iv off, vv x, vv a, vv y, vv b] w fun e w' => e = .returned (.tuple #[vv (V.word (Rf.bitOf (decide (S (Rf.low x.a a.a) ≤ S (Rf.high y.a b.a)) != decide (S (Rf.high x.a a.a) ≤ S (Rf.low y.a b.a))))), iv 0]) ∧ Below w.heap.size w w' := by
  go_enter Tryz.func23, Tryz.ntmps23
  go_wp2_with fail
  (refine (validBin_c 19 ty ty 1 off _ 0 _ _ 0 _ _ (by go_simp) (by go_simp) ⟨by go_simp, by go_simp, by go_simp, by go_simp, by go_simp, by go_simp, by go_simp, by go_simp, by go_simp, by go_simp, by go_simp, by go_simp⟩ ).mono ?_; rintro e u1 ⟨rfl, hb⟩; obtain ⟨hc, hf⟩ := Flow.bcell hb; have hz := hb.size; (try simp only [World.size_alloc, World.size_setCell, World.size_drew] at hz); obtain ⟨z0, z1, z2, z3, z4, z5, z6, z7⟩ := Flow.zs8 (show w.heap.size + 8 ≤ u1.heap.size by omega))
  go_wp2_with fail
  (refine (ris_c _ _ _).mono ?_; rintro e u2 ⟨rfl, hb⟩; obtain ⟨hc, hf⟩ := Flow.bcell hb; have hz := hb.size; (try simp only [World.size_alloc, World.size_setCell, World.size_drew] at hz); obtain ⟨z0, z1, z2, z3, z4, z5, z6, z7⟩ := Flow.zs8 (show w.heap.size + 8 ≤ u2.heap.size by omega))
  go_wp2_with fail
  (refine (ris_c _ _ _).mono ?_; rintro e u3 ⟨rfl, hb⟩; obtain ⟨hc, hf⟩ := Flow.bcell hb; have hz := hb.size; (try simp only [World.size_alloc, World.size_setCell, World.size_drew] at hz); obtain ⟨z0, z1, z2, z3, z4, z5, z6, z7⟩ := Flow.zs8 (show w.heap.size + 8 ≤ u3.heap.size by omega))
  go_wp2_with fail
  (refine (ris_c _ _ _).mono ?_; rintro e u4 ⟨rfl, hb⟩; obtain ⟨hc, hf⟩ := Flow.bcell hb; have hz := hb.size; (try simp only [World.size_alloc, World.size_setCell, World.size_drew] at hz); obtain ⟨z0, z1, z2, z3, z4, z5, z6, z7⟩ := Flow.zs8 (show w.heap.size + 8 ≤ u4.heap.size by omega))
  go_wp2_with fail
  (refine (ris_c _ _ _).mono ?_; rintro e u5 ⟨rfl, hb⟩; obtain ⟨hc, hf⟩ := Flow.bcell hb; have hz := hb.size; (try simp only [World.size_alloc, World.size_setCell, World.size_drew] at hz); obtain ⟨z0, z1, z2, z3, z4, z5, z6, z7⟩ := Flow.zs8 (show w.heap.size + 8 ≤ u5.heap.size by omega))
  go_wp2_with fail
  (refine (word19_c x.a a.a y.a b.a _ ).mono ?_; rintro e u6 ⟨rfl, hb⟩; obtain ⟨hc, hf⟩ := Flow.bcell hb; have hz := hb.size; (try simp only [World.size_alloc, World.size_setCell, World.size_drew] at hz); obtain ⟨z0, z1, z2, z3, z4, z5, z6, z7⟩ := Flow.zs8 (show w.heap.size + 8 ≤ u6.heap.size by omega))
  go_wp2_with fail
  refine Flow.bodyPost_k rfl (fun K hK => ?_)
  simp only [results, Tryz.results23]
  go_simp
  refine hK _ ⟨?_, ?_⟩
  · rfl
  · (repeat (first | exact Below.refl _ _ | refine Below.setCell ?_ (by first | omega | (simp <;> omega)) _ | refine Below.alloc ?_ (by first | omega | (simp <;> omega)) _ | refine Below.drew ?_ | refine Below.trans ?_ (Below.mono (by assumption) (by first | omega | (simp <;> omega)))))
end Go.Proofs.YtboknfppecgjmaaGreat
