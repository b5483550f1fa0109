/- The reference's Un, operation by operation. -/
import Derived.Test.YtboknfppecgjmaaRefUn
namespace Go.Proofs.Ytboknfppecgjmaa
set_option linter.unusedVariables false
set_option linter.unusedSimpArgs false
open Go.RowKit Go.Shelf
set_option maxRecDepth 100000 in
set_option maxHeartbeats 8000000 in
theorem run_e1 (op p to off : Int) (x a : V) (h1 : (Rf.exUn op p to off != 0) = false) (w : World) : Calls Try.prog 36 #[iv op, iv p, iv to, iv off, vv x, vv a] w fun e w' => e = .returned (.tuple #[vv (V.zero), iv 1]) ∧ Below w.heap.size w w' := by
  go_enter Try.func36, Try.ntmps36
  go_wp2_with fail
  (refine (validUn_c op p to off _ 0 _ _ 0 _ _ (by go_simp) (by go_simp) (by go_simp) (by go_simp) (by go_simp) (by go_simp) (by go_simp) ).mono ?_; rintro e u1 ⟨rfl, hb⟩; obtain ⟨hc, hf⟩ := Flow.bcell hb; have hz := hb.size; (try simp only [World.size_alloc, World.size_setCell, World.size_drew] at hz); obtain ⟨z0, z1, z2, z3, z4⟩ := Flow.zs5 (show w.heap.size + 5 ≤ u1.heap.size by omega))
  go_wp2_with fail
  refine Flow.bodyPost_k rfl (fun K hK => ?_)
  simp only [results, Try.results36]
  go_simp
  refine hK _ ⟨?_, ?_⟩
  · rfl
  · (repeat (first | exact Below.refl _ _ | refine Below.setCell ?_ (by first | omega | (simp <;> omega)) _ | refine Below.alloc ?_ (by first | omega | (simp <;> omega)) _ | refine Below.drew ?_ | refine Below.trans ?_ (Below.mono (by assumption) (by first | omega | (simp <;> omega)))))
set_option maxRecDepth 100000 in
set_option maxHeartbeats 8000000 in
theorem run_e2 (op p to off : Int) (x a : V) (h1 : (Rf.exUn op p to off != 0) = true) (h2 : Vb.is p x = false) (w : World) : Calls Try.prog 36 #[iv op, iv p, iv to, iv off, vv x, vv a] w fun e w' => e = .returned (.tuple #[vv (V.zero), iv 1]) ∧ Below w.heap.size w w' := by
  go_enter Try.func36, Try.ntmps36
  go_wp2_with fail
  (refine (validUn_c op p to off _ 0 _ _ 0 _ _ (by go_simp) (by go_simp) (by go_simp) (by go_simp) (by go_simp) (by go_simp) (by go_simp) ).mono ?_; rintro e u1 ⟨rfl, hb⟩; obtain ⟨hc, hf⟩ := Flow.bcell hb; have hz := hb.size; (try simp only [World.size_alloc, World.size_setCell, World.size_drew] at hz); obtain ⟨z0, z1, z2, z3, z4⟩ := Flow.zs5 (show w.heap.size + 5 ≤ u1.heap.size by omega))
  go_wp2_with fail
  (refine (ris_c _ _ _).mono ?_; rintro e u2 ⟨rfl, hb⟩; obtain ⟨hc, hf⟩ := Flow.bcell hb; have hz := hb.size; (try simp only [World.size_alloc, World.size_setCell, World.size_drew] at hz); obtain ⟨z0, z1, z2, z3, z4⟩ := Flow.zs5 (show w.heap.size + 5 ≤ u2.heap.size by omega))
  go_wp2_with fail
  refine Flow.bodyPost_k rfl (fun K hK => ?_)
  simp only [results, Try.results36]
  go_simp
  refine hK _ ⟨?_, ?_⟩
  · rfl
  · (repeat (first | exact Below.refl _ _ | refine Below.setCell ?_ (by first | omega | (simp <;> omega)) _ | refine Below.alloc ?_ (by first | omega | (simp <;> omega)) _ | refine Below.drew ?_ | refine Below.trans ?_ (Below.mono (by assumption) (by first | omega | (simp <;> omega)))))
set_option maxRecDepth 100000 in
set_option maxHeartbeats 8000000 in
theorem run_e3 (op p to off : Int) (x a : V) (h1 : (Rf.exUn op p to off != 0) = true) (h2 : Vb.is p x = true) (h3 : Vb.is p a = false) (w : World) : Calls Try.prog 36 #[iv op, iv p, iv to, iv off, vv x, vv a] w fun e w' => e = .returned (.tuple #[vv (V.zero), iv 1]) ∧ Below w.heap.size w w' := by
  go_enter Try.func36, Try.ntmps36
  go_wp2_with fail
  (refine (validUn_c op p to off _ 0 _ _ 0 _ _ (by go_simp) (by go_simp) (by go_simp) (by go_simp) (by go_simp) (by go_simp) (by go_simp) ).mono ?_; rintro e u1 ⟨rfl, hb⟩; obtain ⟨hc, hf⟩ := Flow.bcell hb; have hz := hb.size; (try simp only [World.size_alloc, World.size_setCell, World.size_drew] at hz); obtain ⟨z0, z1, z2, z3, z4⟩ := Flow.zs5 (show w.heap.size + 5 ≤ u1.heap.size by omega))
  go_wp2_with fail
  (refine (ris_c _ _ _).mono ?_; rintro e u2 ⟨rfl, hb⟩; obtain ⟨hc, hf⟩ := Flow.bcell hb; have hz := hb.size; (try simp only [World.size_alloc, World.size_setCell, World.size_drew] at hz); obtain ⟨z0, z1, z2, z3, z4⟩ := Flow.zs5 (show w.heap.size + 5 ≤ u2.heap.size by omega))
  go_wp2_with fail
  (refine (ris_c _ _ _).mono ?_; rintro e u3 ⟨rfl, hb⟩; obtain ⟨hc, hf⟩ := Flow.bcell hb; have hz := hb.size; (try simp only [World.size_alloc, World.size_setCell, World.size_drew] at hz); obtain ⟨z0, z1, z2, z3, z4⟩ := Flow.zs5 (show w.heap.size + 5 ≤ u3.heap.size by omega))
  go_wp2_with fail
  refine Flow.bodyPost_k rfl (fun K hK => ?_)
  simp only [results, Try.results36]
  go_simp
  refine hK _ ⟨?_, ?_⟩
  · rfl
  · (repeat (first | exact Below.refl _ _ | refine Below.setCell ?_ (by first | omega | (simp <;> omega)) _ | refine Below.alloc ?_ (by first | omega | (simp <;> omega)) _ | refine Below.drew ?_ | refine Below.trans ?_ (Below.mono (by assumption) (by first | omega | (simp <;> omega)))))
set_option maxRecDepth 100000 in
set_option maxHeartbeats 8000000 in
theorem run_1 (op p to off : Int) (x a : V) (h1 : (Rf.exUn op p to off != 0) = true) (h2 : Vb.is p x = true) (h3 : Vb.is p a = true) (ho : op = 1 ∨ op = 2) (w : World) : Calls Try.prog 36 #[iv op, iv p, iv to, iv off, vv x, vv a] w fun e w' => e = .returned (.tuple #[vv (a), iv 0]) ∧ Below w.heap.size w w' := by
  go_enter Try.func36, Try.ntmps36
  go_wp2_with fail
  (refine (validUn_c op p to off _ 0 _ _ 0 _ _ (by go_simp) (by go_simp) (by go_simp) (by go_simp) (by go_simp) (by go_simp) (by go_simp) ).mono ?_; rintro e u1 ⟨rfl, hb⟩; obtain ⟨hc, hf⟩ := Flow.bcell hb; have hz := hb.size; (try simp only [World.size_alloc, World.size_setCell, World.size_drew] at hz); obtain ⟨z0, z1, z2, z3, z4⟩ := Flow.zs5 (show w.heap.size + 5 ≤ u1.heap.size by omega))
  go_wp2_with fail
  (refine (ris_c _ _ _).mono ?_; rintro e u2 ⟨rfl, hb⟩; obtain ⟨hc, hf⟩ := Flow.bcell hb; have hz := hb.size; (try simp only [World.size_alloc, World.size_setCell, World.size_drew] at hz); obtain ⟨z0, z1, z2, z3, z4⟩ := Flow.zs5 (show w.heap.size + 5 ≤ u2.heap.size by omega))
  go_wp2_with fail
  (refine (ris_c _ _ _).mono ?_; rintro e u3 ⟨rfl, hb⟩; obtain ⟨hc, hf⟩ := Flow.bcell hb; have hz := hb.size; (try simp only [World.size_alloc, World.size_setCell, World.size_drew] at hz); obtain ⟨z0, z1, z2, z3, z4⟩ := Flow.zs5 (show w.heap.size + 5 ≤ u3.heap.size by omega))
  go_wp2_with fail
  refine Flow.bodyPost_k rfl (fun K hK => ?_)
  simp only [results, Try.results36]
  go_simp
  refine hK _ ⟨?_, ?_⟩
  · rfl
  · (repeat (first | exact Below.refl _ _ | refine Below.setCell ?_ (by first | omega | (simp <;> omega)) _ | refine Below.alloc ?_ (by first | omega | (simp <;> omega)) _ | refine Below.drew ?_ | refine Below.trans ?_ (Below.mono (by assumption) (by first | omega | (simp <;> omega)))))
set_option maxRecDepth 100000 in
set_option maxHeartbeats 8000000 in
theorem run_3_1 (to off : Int) (x a : V) (h1 : (Rf.exUn 3 1 to off != 0) = true) (h2 : Vb.is 1 x = true) (h3 : Vb.is 1 a = true) (w : World) : Calls Try.prog 36 #[iv (3 : Int), iv (1 : Int), iv to, iv off, vv x, vv a] w fun e w' => e = .returned (.tuple #[vv (V.word (Rf.signed a.a 1)), iv 0]) ∧ Below w.heap.size w w' := by
  go_enter Try.func36, Try.ntmps36
  go_wp2_with fail
  (refine (validUn_c 3 1 to off _ 0 _ _ 0 _ _ (by go_simp) (by go_simp) (by go_simp) (by go_simp) (by go_simp) (by go_simp) (by go_simp) ).mono ?_; rintro e u1 ⟨rfl, hb⟩; obtain ⟨hc, hf⟩ := Flow.bcell hb; have hz := hb.size; (try simp only [World.size_alloc, World.size_setCell, World.size_drew] at hz); obtain ⟨z0, z1, z2, z3, z4⟩ := Flow.zs5 (show w.heap.size + 5 ≤ u1.heap.size by omega))
  go_wp2_with fail
  (refine (ris_c _ _ _).mono ?_; rintro e u2 ⟨rfl, hb⟩; obtain ⟨hc, hf⟩ := Flow.bcell hb; have hz := hb.size; (try simp only [World.size_alloc, World.size_setCell, World.size_drew] at hz); obtain ⟨z0, z1, z2, z3, z4⟩ := Flow.zs5 (show w.heap.size + 5 ≤ u2.heap.size by omega))
  go_wp2_with fail
  (refine (ris_c _ _ _).mono ?_; rintro e u3 ⟨rfl, hb⟩; obtain ⟨hc, hf⟩ := Flow.bcell hb; have hz := hb.size; (try simp only [World.size_alloc, World.size_setCell, World.size_drew] at hz); obtain ⟨z0, z1, z2, z3, z4⟩ := Flow.zs5 (show w.heap.size + 5 ≤ u3.heap.size by omega))
  go_wp2_with fail
  refine Flow.wp_region_below 6 (by kernel_rfl) (by kernel_rfl) (fun R hRc hRt => ?_)
  simp only [List.take_succ_cons, List.take_zero, List.drop_succ_cons, List.drop_zero]
  iterate 6
    first
      | refine Flow.flow_skip rfl ?_
      | (apply Flow.flow_step; rfl; (intro w1 hb; have hc := hRc.out w1 hb; go_simp; (first | with_reducible exact ⟨rfl, hb⟩ | (go_at_call 56; refine (bits_c _ _).mono ?_; rintro e w2 ⟨rfl, hb2⟩; exact ⟨_, rfl, rfl, hRt.out _ _ hb hb2⟩) | (go_at_call 55; refine (signed1_c _ _).mono ?_; rintro e w2 ⟨rfl, hb2⟩; exact ⟨_, rfl, rfl, hRt.out _ _ hb hb2⟩))))
    simp only [Act.put, List.setIfInBounds_toArray, List.set_cons_zero, List.set_cons_succ]
  apply Flow.flow_nil
  clear hRc hRt
  intro w1 hb
  obtain ⟨hc, hf⟩ := Flow.bcell hb
  have hz := hb.size
  (try simp only [World.size_alloc, World.size_setCell, World.size_drew] at hz)
  obtain ⟨z0, z1, z2, z3, z4⟩ := Flow.zs5 (show w.heap.size + 5 ≤ w1.heap.size by omega)
  go_wp2_with fail
  refine Flow.bodyPost_k rfl (fun K hK => ?_)
  simp only [results, Try.results36]
  go_simp
  refine hK _ ⟨?_, ?_⟩
  · rfl
  · (repeat (first | exact Below.refl _ _ | refine Below.setCell ?_ (by first | omega | (simp <;> omega)) _ | refine Below.alloc ?_ (by first | omega | (simp <;> omega)) _ | refine Below.drew ?_ | refine Below.trans ?_ (Below.mono (by assumption) (by first | omega | (simp <;> omega)))))
set_option maxRecDepth 100000 in
set_option maxHeartbeats 8000000 in
theorem run_3_8 (to off : Int) (x a : V) (h1 : (Rf.exUn 3 8 to off != 0) = true) (h2 : Vb.is 8 x = true) (h3 : Vb.is 8 a = true) (w : World) : Calls Try.prog 36 #[iv (3 : Int), iv (8 : Int), iv to, iv off, vv x, vv a] w fun e w' => e = .returned (.tuple #[vv (V.word (Rf.signed a.a 8)), iv 0]) ∧ Below w.heap.size w w' := by
  go_enter Try.func36, Try.ntmps36
  go_wp2_with fail
  (refine (validUn_c 3 8 to off _ 0 _ _ 0 _ _ (by go_simp) (by go_simp) (by go_simp) (by go_simp) (by go_simp) (by go_simp) (by go_simp) ).mono ?_; rintro e u1 ⟨rfl, hb⟩; obtain ⟨hc, hf⟩ := Flow.bcell hb; have hz := hb.size; (try simp only [World.size_alloc, World.size_setCell, World.size_drew] at hz); obtain ⟨z0, z1, z2, z3, z4⟩ := Flow.zs5 (show w.heap.size + 5 ≤ u1.heap.size by omega))
  go_wp2_with fail
  (refine (ris_c _ _ _).mono ?_; rintro e u2 ⟨rfl, hb⟩; obtain ⟨hc, hf⟩ := Flow.bcell hb; have hz := hb.size; (try simp only [World.size_alloc, World.size_setCell, World.size_drew] at hz); obtain ⟨z0, z1, z2, z3, z4⟩ := Flow.zs5 (show w.heap.size + 5 ≤ u2.heap.size by omega))
  go_wp2_with fail
  (refine (ris_c _ _ _).mono ?_; rintro e u3 ⟨rfl, hb⟩; obtain ⟨hc, hf⟩ := Flow.bcell hb; have hz := hb.size; (try simp only [World.size_alloc, World.size_setCell, World.size_drew] at hz); obtain ⟨z0, z1, z2, z3, z4⟩ := Flow.zs5 (show w.heap.size + 5 ≤ u3.heap.size by omega))
  go_wp2_with fail
  refine Flow.wp_region_below 6 (by kernel_rfl) (by kernel_rfl) (fun R hRc hRt => ?_)
  simp only [List.take_succ_cons, List.take_zero, List.drop_succ_cons, List.drop_zero]
  iterate 6
    first
      | refine Flow.flow_skip rfl ?_
      | (apply Flow.flow_step; rfl; (intro w1 hb; have hc := hRc.out w1 hb; go_simp; (first | with_reducible exact ⟨rfl, hb⟩ | (go_at_call 56; refine (bits_c _ _).mono ?_; rintro e w2 ⟨rfl, hb2⟩; exact ⟨_, rfl, rfl, hRt.out _ _ hb hb2⟩) | (go_at_call 55; refine (signed8_c _ _).mono ?_; rintro e w2 ⟨rfl, hb2⟩; exact ⟨_, rfl, rfl, hRt.out _ _ hb hb2⟩))))
    simp only [Act.put, List.setIfInBounds_toArray, List.set_cons_zero, List.set_cons_succ]
  apply Flow.flow_nil
  clear hRc hRt
  intro w1 hb
  obtain ⟨hc, hf⟩ := Flow.bcell hb
  have hz := hb.size
  (try simp only [World.size_alloc, World.size_setCell, World.size_drew] at hz)
  obtain ⟨z0, z1, z2, z3, z4⟩ := Flow.zs5 (show w.heap.size + 5 ≤ w1.heap.size by omega)
  go_wp2_with fail
  refine Flow.bodyPost_k rfl (fun K hK => ?_)
  simp only [results, Try.results36]
  go_simp
  refine hK _ ⟨?_, ?_⟩
  · rfl
  · (repeat (first | exact Below.refl _ _ | refine Below.setCell ?_ (by first | omega | (simp <;> omega)) _ | refine Below.alloc ?_ (by first | omega | (simp <;> omega)) _ | refine Below.drew ?_ | refine Below.trans ?_ (Below.mono (by assumption) (by first | omega | (simp <;> omega)))))
set_option maxRecDepth 100000 in
set_option maxHeartbeats 8000000 in
theorem run_3_16 (to off : Int) (x a : V) (h1 : (Rf.exUn 3 16 to off != 0) = true) (h2 : Vb.is 16 x = true) (h3 : Vb.is 16 a = true) (w : World) : Calls Try.prog 36 #[iv (3 : Int), iv (16 : Int), iv to, iv off, vv x, vv a] w fun e w' => e = .returned (.tuple #[vv (V.word (Rf.signed a.a 16)), iv 0]) ∧ Below w.heap.size w w' := by
  go_enter Try.func36, Try.ntmps36
  go_wp2_with fail
  (refine (validUn_c 3 16 to off _ 0 _ _ 0 _ _ (by go_simp) (by go_simp) (by go_simp) (by go_simp) (by go_simp) (by go_simp) (by go_simp) ).mono ?_; rintro e u1 ⟨rfl, hb⟩; obtain ⟨hc, hf⟩ := Flow.bcell hb; have hz := hb.size; (try simp only [World.size_alloc, World.size_setCell, World.size_drew] at hz); obtain ⟨z0, z1, z2, z3, z4⟩ := Flow.zs5 (show w.heap.size + 5 ≤ u1.heap.size by omega))
  go_wp2_with fail
  (refine (ris_c _ _ _).mono ?_; rintro e u2 ⟨rfl, hb⟩; obtain ⟨hc, hf⟩ := Flow.bcell hb; have hz := hb.size; (try simp only [World.size_alloc, World.size_setCell, World.size_drew] at hz); obtain ⟨z0, z1, z2, z3, z4⟩ := Flow.zs5 (show w.heap.size + 5 ≤ u2.heap.size by omega))
  go_wp2_with fail
  (refine (ris_c _ _ _).mono ?_; rintro e u3 ⟨rfl, hb⟩; obtain ⟨hc, hf⟩ := Flow.bcell hb; have hz := hb.size; (try simp only [World.size_alloc, World.size_setCell, World.size_drew] at hz); obtain ⟨z0, z1, z2, z3, z4⟩ := Flow.zs5 (show w.heap.size + 5 ≤ u3.heap.size by omega))
  go_wp2_with fail
  refine Flow.wp_region_below 6 (by kernel_rfl) (by kernel_rfl) (fun R hRc hRt => ?_)
  simp only [List.take_succ_cons, List.take_zero, List.drop_succ_cons, List.drop_zero]
  iterate 6
    first
      | refine Flow.flow_skip rfl ?_
      | (apply Flow.flow_step; rfl; (intro w1 hb; have hc := hRc.out w1 hb; go_simp; (first | with_reducible exact ⟨rfl, hb⟩ | (go_at_call 56; refine (bits_c _ _).mono ?_; rintro e w2 ⟨rfl, hb2⟩; exact ⟨_, rfl, rfl, hRt.out _ _ hb hb2⟩) | (go_at_call 55; refine (signed16_c _ _).mono ?_; rintro e w2 ⟨rfl, hb2⟩; exact ⟨_, rfl, rfl, hRt.out _ _ hb hb2⟩))))
    simp only [Act.put, List.setIfInBounds_toArray, List.set_cons_zero, List.set_cons_succ]
  apply Flow.flow_nil
  clear hRc hRt
  intro w1 hb
  obtain ⟨hc, hf⟩ := Flow.bcell hb
  have hz := hb.size
  (try simp only [World.size_alloc, World.size_setCell, World.size_drew] at hz)
  obtain ⟨z0, z1, z2, z3, z4⟩ := Flow.zs5 (show w.heap.size + 5 ≤ w1.heap.size by omega)
  go_wp2_with fail
  refine Flow.bodyPost_k rfl (fun K hK => ?_)
  simp only [results, Try.results36]
  go_simp
  refine hK _ ⟨?_, ?_⟩
  · rfl
  · (repeat (first | exact Below.refl _ _ | refine Below.setCell ?_ (by first | omega | (simp <;> omega)) _ | refine Below.alloc ?_ (by first | omega | (simp <;> omega)) _ | refine Below.drew ?_ | refine Below.trans ?_ (Below.mono (by assumption) (by first | omega | (simp <;> omega)))))
set_option maxRecDepth 100000 in
set_option maxHeartbeats 8000000 in
theorem run_4 (p to off : Int) (x a : V) (h1 : (Rf.exUn 4 p to off != 0) = true) (h2 : Vb.is p x = true) (h3 : Vb.is p a = true) (w : World) : Calls Try.prog 36 #[iv (4 : Int), iv p, iv to, iv off, vv x, vv a] w fun e w' => e = .returned (.tuple #[vv (a.and (Vb.ones to)), iv 0]) ∧ Below w.heap.size w w' := by
  go_enter Try.func36, Try.ntmps36
  go_wp2_with fail
  (refine (validUn_c 4 p to off _ 0 _ _ 0 _ _ (by go_simp) (by go_simp) (by go_simp) (by go_simp) (by go_simp) (by go_simp) (by go_simp) ).mono ?_; rintro e u1 ⟨rfl, hb⟩; obtain ⟨hc, hf⟩ := Flow.bcell hb; have hz := hb.size; (try simp only [World.size_alloc, World.size_setCell, World.size_drew] at hz); obtain ⟨z0, z1, z2, z3, z4⟩ := Flow.zs5 (show w.heap.size + 5 ≤ u1.heap.size by omega))
  go_wp2_with fail
  (refine (ris_c _ _ _).mono ?_; rintro e u2 ⟨rfl, hb⟩; obtain ⟨hc, hf⟩ := Flow.bcell hb; have hz := hb.size; (try simp only [World.size_alloc, World.size_setCell, World.size_drew] at hz); obtain ⟨z0, z1, z2, z3, z4⟩ := Flow.zs5 (show w.heap.size + 5 ≤ u2.heap.size by omega))
  go_wp2_with fail
  (refine (ris_c _ _ _).mono ?_; rintro e u3 ⟨rfl, hb⟩; obtain ⟨hc, hf⟩ := Flow.bcell hb; have hz := hb.size; (try simp only [World.size_alloc, World.size_setCell, World.size_drew] at hz); obtain ⟨z0, z1, z2, z3, z4⟩ := Flow.zs5 (show w.heap.size + 5 ≤ u3.heap.size by omega))
  go_wp2_with fail
  refine Flow.wp_region_below 4 (by kernel_rfl) (by kernel_rfl) (fun R hRc hRt => ?_)
  simp only [List.take_succ_cons, List.take_zero, List.drop_succ_cons, List.drop_zero]
  iterate 4
    first
      | refine Flow.flow_skip rfl ?_
      | (apply Flow.flow_step; rfl; (intro w1 hb; have hc := hRc.out w1 hb; go_simp; (first | with_reducible exact ⟨rfl, hb⟩ | (go_at_call 18; refine (rones_c _ _).mono ?_; rintro e w2 ⟨rfl, hb2⟩; exact ⟨_, rfl, rfl, hRt.out _ _ hb hb2⟩) | (go_at_call 17; refine (rand_c _ _ _).mono ?_; rintro e w2 ⟨rfl, hb2⟩; exact ⟨_, rfl, rfl, hRt.out _ _ hb hb2⟩))))
    simp only [Act.put, List.setIfInBounds_toArray, List.set_cons_zero, List.set_cons_succ]
  apply Flow.flow_nil
  clear hRc hRt
  intro w1 hb
  obtain ⟨hc, hf⟩ := Flow.bcell hb
  have hz := hb.size
  (try simp only [World.size_alloc, World.size_setCell, World.size_drew] at hz)
  obtain ⟨z0, z1, z2, z3, z4⟩ := Flow.zs5 (show w.heap.size + 5 ≤ w1.heap.size by omega)
  go_wp2_with fail
  refine Flow.bodyPost_k rfl (fun K hK => ?_)
  simp only [results, Try.results36]
  go_simp
  refine hK _ ⟨?_, ?_⟩
  · rfl
  · (repeat (first | exact Below.refl _ _ | refine Below.setCell ?_ (by first | omega | (simp <;> omega)) _ | refine Below.alloc ?_ (by first | omega | (simp <;> omega)) _ | refine Below.drew ?_ | refine Below.trans ?_ (Below.mono (by assumption) (by first | omega | (simp <;> omega)))))
set_option maxRecDepth 100000 in
set_option maxHeartbeats 8000000 in
theorem run_5t (p to off : Int) (x a : V) (h1 : (Rf.exUn 5 p to off != 0) = true) (h2 : Vb.is p x = true) (h3 : Vb.is p a = true) (hu : Rf.undecided x a = true) (w : World) : Calls Try.prog 36 #[iv (5 : Int), iv p, iv to, iv off, vv x, vv a] w fun e w' => e = .returned (.tuple #[vv (V.word 1#32), iv 0]) ∧ Below w.heap.size w w' := by
  go_enter Try.func36, Try.ntmps36
  go_wp2_with fail
  (refine (validUn_c 5 p to off _ 0 _ _ 0 _ _ (by go_simp) (by go_simp) (by go_simp) (by go_simp) (by go_simp) (by go_simp) (by go_simp) ).mono ?_; rintro e u1 ⟨rfl, hb⟩; obtain ⟨hc, hf⟩ := Flow.bcell hb; have hz := hb.size; (try simp only [World.size_alloc, World.size_setCell, World.size_drew] at hz); obtain ⟨z0, z1, z2, z3, z4⟩ := Flow.zs5 (show w.heap.size + 5 ≤ u1.heap.size by omega))
  go_wp2_with fail
  (refine (ris_c _ _ _).mono ?_; rintro e u2 ⟨rfl, hb⟩; obtain ⟨hc, hf⟩ := Flow.bcell hb; have hz := hb.size; (try simp only [World.size_alloc, World.size_setCell, World.size_drew] at hz); obtain ⟨z0, z1, z2, z3, z4⟩ := Flow.zs5 (show w.heap.size + 5 ≤ u2.heap.size by omega))
  go_wp2_with fail
  (refine (ris_c _ _ _).mono ?_; rintro e u3 ⟨rfl, hb⟩; obtain ⟨hc, hf⟩ := Flow.bcell hb; have hz := hb.size; (try simp only [World.size_alloc, World.size_setCell, World.size_drew] at hz); obtain ⟨z0, z1, z2, z3, z4⟩ := Flow.zs5 (show w.heap.size + 5 ≤ u3.heap.size by omega))
  go_wp2_with fail
  (refine (undecided_c x a _ ).mono ?_; rintro e u4 ⟨rfl, hb⟩; obtain ⟨hc, hf⟩ := Flow.bcell hb; have hz := hb.size; (try simp only [World.size_alloc, World.size_setCell, World.size_drew] at hz); obtain ⟨z0, z1, z2, z3, z4⟩ := Flow.zs5 (show w.heap.size + 5 ≤ u4.heap.size by omega))
  go_wp2_with fail
  (refine (bit_c true _ ).mono ?_; rintro e u5 ⟨rfl, hb⟩; obtain ⟨hc, hf⟩ := Flow.bcell hb; have hz := hb.size; (try simp only [World.size_alloc, World.size_setCell, World.size_drew] at hz); obtain ⟨z0, z1, z2, z3, z4⟩ := Flow.zs5 (show w.heap.size + 5 ≤ u5.heap.size by omega))
  go_wp2_with fail
  refine Flow.bodyPost_k rfl (fun K hK => ?_)
  simp only [results, Try.results36]
  go_simp
  refine hK _ ⟨?_, ?_⟩
  · rfl
  · (repeat (first | exact Below.refl _ _ | refine Below.setCell ?_ (by first | omega | (simp <;> omega)) _ | refine Below.alloc ?_ (by first | omega | (simp <;> omega)) _ | refine Below.drew ?_ | refine Below.trans ?_ (Below.mono (by assumption) (by first | omega | (simp <;> omega)))))
set_option maxRecDepth 100000 in
set_option maxHeartbeats 8000000 in
theorem run_5f (p to off : Int) (x a : V) (h1 : (Rf.exUn 5 p to off != 0) = true) (h2 : Vb.is p x = true) (h3 : Vb.is p a = true) (hu : Rf.undecided x a = false) (w : World) : Calls Try.prog 36 #[iv (5 : Int), iv p, iv to, iv off, vv x, vv a] w fun e w' => e = .returned (.tuple #[vv (V.word 0#32), iv 0]) ∧ Below w.heap.size w w' := by
  go_enter Try.func36, Try.ntmps36
  go_wp2_with fail
  (refine (validUn_c 5 p to off _ 0 _ _ 0 _ _ (by go_simp) (by go_simp) (by go_simp) (by go_simp) (by go_simp) (by go_simp) (by go_simp) ).mono ?_; rintro e u1 ⟨rfl, hb⟩; obtain ⟨hc, hf⟩ := Flow.bcell hb; have hz := hb.size; (try simp only [World.size_alloc, World.size_setCell, World.size_drew] at hz); obtain ⟨z0, z1, z2, z3, z4⟩ := Flow.zs5 (show w.heap.size + 5 ≤ u1.heap.size by omega))
  go_wp2_with fail
  (refine (ris_c _ _ _).mono ?_; rintro e u2 ⟨rfl, hb⟩; obtain ⟨hc, hf⟩ := Flow.bcell hb; have hz := hb.size; (try simp only [World.size_alloc, World.size_setCell, World.size_drew] at hz); obtain ⟨z0, z1, z2, z3, z4⟩ := Flow.zs5 (show w.heap.size + 5 ≤ u2.heap.size by omega))
  go_wp2_with fail
  (refine (ris_c _ _ _).mono ?_; rintro e u3 ⟨rfl, hb⟩; obtain ⟨hc, hf⟩ := Flow.bcell hb; have hz := hb.size; (try simp only [World.size_alloc, World.size_setCell, World.size_drew] at hz); obtain ⟨z0, z1, z2, z3, z4⟩ := Flow.zs5 (show w.heap.size + 5 ≤ u3.heap.size by omega))
  go_wp2_with fail
  (refine (undecided_c x a _ ).mono ?_; rintro e u4 ⟨rfl, hb⟩; obtain ⟨hc, hf⟩ := Flow.bcell hb; have hz := hb.size; (try simp only [World.size_alloc, World.size_setCell, World.size_drew] at hz); obtain ⟨z0, z1, z2, z3, z4⟩ := Flow.zs5 (show w.heap.size + 5 ≤ u4.heap.size by omega))
  go_wp2_with fail
  (refine (bit_c false _ ).mono ?_; rintro e u5 ⟨rfl, hb⟩; obtain ⟨hc, hf⟩ := Flow.bcell hb; have hz := hb.size; (try simp only [World.size_alloc, World.size_setCell, World.size_drew] at hz); obtain ⟨z0, z1, z2, z3, z4⟩ := Flow.zs5 (show w.heap.size + 5 ≤ u5.heap.size by omega))
  go_wp2_with fail
  refine Flow.bodyPost_k rfl (fun K hK => ?_)
  simp only [results, Try.results36]
  go_simp
  refine hK _ ⟨?_, ?_⟩
  · rfl
  · (repeat (first | exact Below.refl _ _ | refine Below.setCell ?_ (by first | omega | (simp <;> omega)) _ | refine Below.alloc ?_ (by first | omega | (simp <;> omega)) _ | refine Below.drew ?_ | refine Below.trans ?_ (Below.mono (by assumption) (by first | omega | (simp <;> omega)))))
set_option maxRecDepth 100000 in
set_option maxHeartbeats 8000000 in
theorem run_6z (p to off : Int) (x a : V) (h1 : (Rf.exUn 6 p to off != 0) = true) (h2 : Vb.is p x = true) (h3 : Vb.is p a = true) (hz : decide (a.a = 0#32) = true) (w : World) : Calls Try.prog 36 #[iv (6 : Int), iv p, iv to, iv off, vv x, vv a] w fun e w' => e = .returned (.tuple #[vv (V.zero), iv 0]) ∧ Below w.heap.size w w' := by
  go_enter Try.func36, Try.ntmps36
  go_wp2_with fail
  (refine (validUn_c 6 p to off _ 0 _ _ 0 _ _ (by go_simp) (by go_simp) (by go_simp) (by go_simp) (by go_simp) (by go_simp) (by go_simp) ).mono ?_; rintro e u1 ⟨rfl, hb⟩; obtain ⟨hc, hf⟩ := Flow.bcell hb; have hz := hb.size; (try simp only [World.size_alloc, World.size_setCell, World.size_drew] at hz); obtain ⟨z0, z1, z2, z3, z4⟩ := Flow.zs5 (show w.heap.size + 5 ≤ u1.heap.size by omega))
  go_wp2_with fail
  (refine (ris_c _ _ _).mono ?_; rintro e u2 ⟨rfl, hb⟩; obtain ⟨hc, hf⟩ := Flow.bcell hb; have hz := hb.size; (try simp only [World.size_alloc, World.size_setCell, World.size_drew] at hz); obtain ⟨z0, z1, z2, z3, z4⟩ := Flow.zs5 (show w.heap.size + 5 ≤ u2.heap.size by omega))
  go_wp2_with fail
  (refine (ris_c _ _ _).mono ?_; rintro e u3 ⟨rfl, hb⟩; obtain ⟨hc, hf⟩ := Flow.bcell hb; have hz := hb.size; (try simp only [World.size_alloc, World.size_setCell, World.size_drew] at hz); obtain ⟨z0, z1, z2, z3, z4⟩ := Flow.zs5 (show w.heap.size + 5 ≤ u3.heap.size by omega))
  go_wp2_with fail
  refine Flow.bodyPost_k rfl (fun K hK => ?_)
  simp only [results, Try.results36]
  go_simp
  refine hK _ ⟨?_, ?_⟩
  · rfl
  · (repeat (first | exact Below.refl _ _ | refine Below.setCell ?_ (by first | omega | (simp <;> omega)) _ | refine Below.alloc ?_ (by first | omega | (simp <;> omega)) _ | refine Below.drew ?_ | refine Below.trans ?_ (Below.mono (by assumption) (by first | omega | (simp <;> omega)))))
set_option maxRecDepth 100000 in
set_option maxHeartbeats 8000000 in
theorem run_6n (p to off : Int) (x a : V) (h1 : (Rf.exUn 6 p to off != 0) = true) (h2 : Vb.is p x = true) (h3 : Vb.is p a = true) (hz : decide (a.a = 0#32) = false) (w : World) : Calls Try.prog 36 #[iv (6 : Int), iv p, iv to, iv off, vv x, vv a] w fun e w' => e = .returned (.tuple #[vv (Vb.ones to), iv 0]) ∧ Below w.heap.size w w' := by
  go_enter Try.func36, Try.ntmps36
  go_wp2_with fail
  (refine (validUn_c 6 p to off _ 0 _ _ 0 _ _ (by go_simp) (by go_simp) (by go_simp) (by go_simp) (by go_simp) (by go_simp) (by go_simp) ).mono ?_; rintro e u1 ⟨rfl, hb⟩; obtain ⟨hc, hf⟩ := Flow.bcell hb; have hz := hb.size; (try simp only [World.size_alloc, World.size_setCell, World.size_drew] at hz); obtain ⟨z0, z1, z2, z3, z4⟩ := Flow.zs5 (show w.heap.size + 5 ≤ u1.heap.size by omega))
  go_wp2_with fail
  (refine (ris_c _ _ _).mono ?_; rintro e u2 ⟨rfl, hb⟩; obtain ⟨hc, hf⟩ := Flow.bcell hb; have hz := hb.size; (try simp only [World.size_alloc, World.size_setCell, World.size_drew] at hz); obtain ⟨z0, z1, z2, z3, z4⟩ := Flow.zs5 (show w.heap.size + 5 ≤ u2.heap.size by omega))
  go_wp2_with fail
  (refine (ris_c _ _ _).mono ?_; rintro e u3 ⟨rfl, hb⟩; obtain ⟨hc, hf⟩ := Flow.bcell hb; have hz := hb.size; (try simp only [World.size_alloc, World.size_setCell, World.size_drew] at hz); obtain ⟨z0, z1, z2, z3, z4⟩ := Flow.zs5 (show w.heap.size + 5 ≤ u3.heap.size by omega))
  go_wp2_with fail
  (refine (rones_c _ _).mono ?_; rintro e u4 ⟨rfl, hb⟩; obtain ⟨hc, hf⟩ := Flow.bcell hb; have hz := hb.size; (try simp only [World.size_alloc, World.size_setCell, World.size_drew] at hz); obtain ⟨z0, z1, z2, z3, z4⟩ := Flow.zs5 (show w.heap.size + 5 ≤ u4.heap.size by omega))
  go_wp2_with fail
  refine Flow.bodyPost_k rfl (fun K hK => ?_)
  simp only [results, Try.results36]
  go_simp
  refine hK _ ⟨?_, ?_⟩
  · rfl
  · (repeat (first | exact Below.refl _ _ | refine Below.setCell ?_ (by first | omega | (simp <;> omega)) _ | refine Below.alloc ?_ (by first | omega | (simp <;> omega)) _ | refine Below.drew ?_ | refine Below.trans ?_ (Below.mono (by assumption) (by first | omega | (simp <;> omega)))))
set_option maxRecDepth 100000 in
set_option maxHeartbeats 8000000 in
theorem run_7 (p to off : Int) (x a : V) (h1 : (Rf.exUn 7 p to off != 0) = true) (h2 : Vb.is p x = true) (h3 : Vb.is p a = true) (w : World) : Calls Try.prog 36 #[iv (7 : Int), iv p, iv to, iv off, vv x, vv a] w fun e w' => e = .returned (.tuple #[vv (V.word (Vb.left a.a &&& ~~~Vb.left (x.a &&& ~~~a.a))), iv 0]) ∧ Below w.heap.size w w' := by
  go_enter Try.func36, Try.ntmps36
  go_wp2_with fail
  (refine (validUn_c 7 p to off _ 0 _ _ 0 _ _ (by go_simp) (by go_simp) (by go_simp) (by go_simp) (by go_simp) (by go_simp) (by go_simp) ).mono ?_; rintro e u1 ⟨rfl, hb⟩; obtain ⟨hc, hf⟩ := Flow.bcell hb; have hz := hb.size; (try simp only [World.size_alloc, World.size_setCell, World.size_drew] at hz); obtain ⟨z0, z1, z2, z3, z4⟩ := Flow.zs5 (show w.heap.size + 5 ≤ u1.heap.size by omega))
  go_wp2_with fail
  (refine (ris_c _ _ _).mono ?_; rintro e u2 ⟨rfl, hb⟩; obtain ⟨hc, hf⟩ := Flow.bcell hb; have hz := hb.size; (try simp only [World.size_alloc, World.size_setCell, World.size_drew] at hz); obtain ⟨z0, z1, z2, z3, z4⟩ := Flow.zs5 (show w.heap.size + 5 ≤ u2.heap.size by omega))
  go_wp2_with fail
  (refine (ris_c _ _ _).mono ?_; rintro e u3 ⟨rfl, hb⟩; obtain ⟨hc, hf⟩ := Flow.bcell hb; have hz := hb.size; (try simp only [World.size_alloc, World.size_setCell, World.size_drew] at hz); obtain ⟨z0, z1, z2, z3, z4⟩ := Flow.zs5 (show w.heap.size + 5 ≤ u3.heap.size by omega))
  go_wp2_with fail
  refine Flow.wp_region_below 11 (by kernel_rfl) (by kernel_rfl) (fun R hRc hRt => ?_)
  simp only [List.take_succ_cons, List.take_zero, List.drop_succ_cons, List.drop_zero]
  iterate 11
    first
      | refine Flow.flow_skip rfl ?_
      | (apply Flow.flow_step; rfl; (intro w1 hb; have hc := hRc.out w1 hb; go_simp; (first | with_reducible exact ⟨rfl, hb⟩ | (go_at_call 59; refine (rleft_c _ _).mono ?_; rintro e w2 ⟨rfl, hb2⟩; exact ⟨_, rfl, rfl, hRt.out _ _ hb hb2⟩))))
    simp only [Act.put, List.setIfInBounds_toArray, List.set_cons_zero, List.set_cons_succ]
  apply Flow.flow_nil
  clear hRc hRt
  intro w1 hb
  obtain ⟨hc, hf⟩ := Flow.bcell hb
  have hz := hb.size
  (try simp only [World.size_alloc, World.size_setCell, World.size_drew] at hz)
  obtain ⟨z0, z1, z2, z3, z4⟩ := Flow.zs5 (show w.heap.size + 5 ≤ w1.heap.size by omega)
  go_wp2_with fail
  refine Flow.bodyPost_k rfl (fun K hK => ?_)
  simp only [results, Try.results36]
  go_simp
  refine hK _ ⟨?_, ?_⟩
  · rfl
  · (repeat (first | exact Below.refl _ _ | refine Below.setCell ?_ (by first | omega | (simp <;> omega)) _ | refine Below.alloc ?_ (by first | omega | (simp <;> omega)) _ | refine Below.drew ?_ | refine Below.trans ?_ (Below.mono (by assumption) (by first | omega | (simp <;> omega)))))
set_option maxRecDepth 100000 in
set_option maxHeartbeats 8000000 in
theorem run_8 (p to off : Int) (x a : V) (h1 : (Rf.exUn 8 p to off != 0) = true) (h2 : Vb.is p x = true) (h3 : Vb.is p a = true) (w : World) : Calls Try.prog 36 #[iv (8 : Int), iv p, iv to, iv off, vv x, vv a] w fun e w' => e = .returned (.tuple #[vv (Rf.lanesTo x a 8 16), iv 0]) ∧ Below w.heap.size w w' := by
  go_enter Try.func36, Try.ntmps36
  go_wp2_with fail
  (refine (validUn_c 8 p to off _ 0 _ _ 0 _ _ (by go_simp) (by go_simp) (by go_simp) (by go_simp) (by go_simp) (by go_simp) (by go_simp) ).mono ?_; rintro e u1 ⟨rfl, hb⟩; obtain ⟨hc, hf⟩ := Flow.bcell hb; have hz := hb.size; (try simp only [World.size_alloc, World.size_setCell, World.size_drew] at hz); obtain ⟨z0, z1, z2, z3, z4⟩ := Flow.zs5 (show w.heap.size + 5 ≤ u1.heap.size by omega))
  go_wp2_with fail
  (refine (ris_c _ _ _).mono ?_; rintro e u2 ⟨rfl, hb⟩; obtain ⟨hc, hf⟩ := Flow.bcell hb; have hz := hb.size; (try simp only [World.size_alloc, World.size_setCell, World.size_drew] at hz); obtain ⟨z0, z1, z2, z3, z4⟩ := Flow.zs5 (show w.heap.size + 5 ≤ u2.heap.size by omega))
  go_wp2_with fail
  (refine (ris_c _ _ _).mono ?_; rintro e u3 ⟨rfl, hb⟩; obtain ⟨hc, hf⟩ := Flow.bcell hb; have hz := hb.size; (try simp only [World.size_alloc, World.size_setCell, World.size_drew] at hz); obtain ⟨z0, z1, z2, z3, z4⟩ := Flow.zs5 (show w.heap.size + 5 ≤ u3.heap.size by omega))
  go_wp2_with fail
  (refine (lanesOf8_c x a _ ).mono ?_; rintro e u4 ⟨rfl, hb⟩; obtain ⟨hc, hf⟩ := Flow.bcell hb; have hz := hb.size; (try simp only [World.size_alloc, World.size_setCell, World.size_drew] at hz); obtain ⟨z0, z1, z2, z3, z4⟩ := Flow.zs5 (show w.heap.size + 5 ≤ u4.heap.size by omega))
  go_wp2_with fail
  refine Flow.bodyPost_k rfl (fun K hK => ?_)
  simp only [results, Try.results36]
  go_simp
  refine hK _ ⟨?_, ?_⟩
  · rfl
  · (repeat (first | exact Below.refl _ _ | refine Below.setCell ?_ (by first | omega | (simp <;> omega)) _ | refine Below.alloc ?_ (by first | omega | (simp <;> omega)) _ | refine Below.drew ?_ | refine Below.trans ?_ (Below.mono (by assumption) (by first | omega | (simp <;> omega)))))
set_option maxRecDepth 100000 in
set_option maxHeartbeats 8000000 in
theorem run_9 (p to off : Int) (x a : V) (h1 : (Rf.exUn 9 p to off != 0) = true) (h2 : Vb.is p x = true) (h3 : Vb.is p a = true) (w : World) : Calls Try.prog 36 #[iv (9 : Int), iv p, iv to, iv off, vv x, vv a] w fun e w' => e = .returned (.tuple #[vv (Rf.lanesTo x a 16 8), iv 0]) ∧ Below w.heap.size w w' := by
  go_enter Try.func36, Try.ntmps36
  go_wp2_with fail
  (refine (validUn_c 9 p to off _ 0 _ _ 0 _ _ (by go_simp) (by go_simp) (by go_simp) (by go_simp) (by go_simp) (by go_simp) (by go_simp) ).mono ?_; rintro e u1 ⟨rfl, hb⟩; obtain ⟨hc, hf⟩ := Flow.bcell hb; have hz := hb.size; (try simp only [World.size_alloc, World.size_setCell, World.size_drew] at hz); obtain ⟨z0, z1, z2, z3, z4⟩ := Flow.zs5 (show w.heap.size + 5 ≤ u1.heap.size by omega))
  go_wp2_with fail
  (refine (ris_c _ _ _).mono ?_; rintro e u2 ⟨rfl, hb⟩; obtain ⟨hc, hf⟩ := Flow.bcell hb; have hz := hb.size; (try simp only [World.size_alloc, World.size_setCell, World.size_drew] at hz); obtain ⟨z0, z1, z2, z3, z4⟩ := Flow.zs5 (show w.heap.size + 5 ≤ u2.heap.size by omega))
  go_wp2_with fail
  (refine (ris_c _ _ _).mono ?_; rintro e u3 ⟨rfl, hb⟩; obtain ⟨hc, hf⟩ := Flow.bcell hb; have hz := hb.size; (try simp only [World.size_alloc, World.size_setCell, World.size_drew] at hz); obtain ⟨z0, z1, z2, z3, z4⟩ := Flow.zs5 (show w.heap.size + 5 ≤ u3.heap.size by omega))
  go_wp2_with fail
  (refine (lanesOf16_c x a _ ).mono ?_; rintro e u4 ⟨rfl, hb⟩; obtain ⟨hc, hf⟩ := Flow.bcell hb; have hz := hb.size; (try simp only [World.size_alloc, World.size_setCell, World.size_drew] at hz); obtain ⟨z0, z1, z2, z3, z4⟩ := Flow.zs5 (show w.heap.size + 5 ≤ u4.heap.size by omega))
  go_wp2_with fail
  refine Flow.bodyPost_k rfl (fun K hK => ?_)
  simp only [results, Try.results36]
  go_simp
  refine hK _ ⟨?_, ?_⟩
  · rfl
  · (repeat (first | exact Below.refl _ _ | refine Below.setCell ?_ (by first | omega | (simp <;> omega)) _ | refine Below.alloc ?_ (by first | omega | (simp <;> omega)) _ | refine Below.drew ?_ | refine Below.trans ?_ (Below.mono (by assumption) (by first | omega | (simp <;> omega)))))
set_option maxRecDepth 100000 in
set_option maxHeartbeats 8000000 in
theorem run_10 (p to off : Int) (x a : V) (h1 : (Rf.exUn 10 p to off != 0) = true) (h2 : Vb.is p x = true) (h3 : Vb.is p a = true) (w : World) : Calls Try.prog 36 #[iv (10 : Int), iv p, iv to, iv off, vv x, vv a] w fun e w' => e = .returned (.tuple #[vv (Rf.lanesTo x a 32 4), iv 0]) ∧ Below w.heap.size w w' := by
  go_enter Try.func36, Try.ntmps36
  go_wp2_with fail
  (refine (validUn_c 10 p to off _ 0 _ _ 0 _ _ (by go_simp) (by go_simp) (by go_simp) (by go_simp) (by go_simp) (by go_simp) (by go_simp) ).mono ?_; rintro e u1 ⟨rfl, hb⟩; obtain ⟨hc, hf⟩ := Flow.bcell hb; have hz := hb.size; (try simp only [World.size_alloc, World.size_setCell, World.size_drew] at hz); obtain ⟨z0, z1, z2, z3, z4⟩ := Flow.zs5 (show w.heap.size + 5 ≤ u1.heap.size by omega))
  go_wp2_with fail
  (refine (ris_c _ _ _).mono ?_; rintro e u2 ⟨rfl, hb⟩; obtain ⟨hc, hf⟩ := Flow.bcell hb; have hz := hb.size; (try simp only [World.size_alloc, World.size_setCell, World.size_drew] at hz); obtain ⟨z0, z1, z2, z3, z4⟩ := Flow.zs5 (show w.heap.size + 5 ≤ u2.heap.size by omega))
  go_wp2_with fail
  (refine (ris_c _ _ _).mono ?_; rintro e u3 ⟨rfl, hb⟩; obtain ⟨hc, hf⟩ := Flow.bcell hb; have hz := hb.size; (try simp only [World.size_alloc, World.size_setCell, World.size_drew] at hz); obtain ⟨z0, z1, z2, z3, z4⟩ := Flow.zs5 (show w.heap.size + 5 ≤ u3.heap.size by omega))
  go_wp2_with fail
  (refine (lanesOf32_c x a _ ).mono ?_; rintro e u4 ⟨rfl, hb⟩; obtain ⟨hc, hf⟩ := Flow.bcell hb; have hz := hb.size; (try simp only [World.size_alloc, World.size_setCell, World.size_drew] at hz); obtain ⟨z0, z1, z2, z3, z4⟩ := Flow.zs5 (show w.heap.size + 5 ≤ u4.heap.size by omega))
  go_wp2_with fail
  refine Flow.bodyPost_k rfl (fun K hK => ?_)
  simp only [results, Try.results36]
  go_simp
  refine hK _ ⟨?_, ?_⟩
  · rfl
  · (repeat (first | exact Below.refl _ _ | refine Below.setCell ?_ (by first | omega | (simp <;> omega)) _ | refine Below.alloc ?_ (by first | omega | (simp <;> omega)) _ | refine Below.drew ?_ | refine Below.trans ?_ (Below.mono (by assumption) (by first | omega | (simp <;> omega)))))
set_option maxRecDepth 100000 in
set_option maxHeartbeats 8000000 in
theorem run_11 (p to off : Int) (x a : V) (h1 : (Rf.exUn 11 p to off != 0) = true) (h2 : Vb.is p x = true) (h3 : Vb.is p a = true) (w : World) : Calls Try.prog 36 #[iv (11 : Int), iv p, iv to, iv off, vv x, vv a] w fun e w' => e = .returned (.tuple #[vv (⟨a.a, a.a, a.a, a.a⟩), iv 0]) ∧ Below w.heap.size w w' := by
  go_enter Try.func36, Try.ntmps36
  go_wp2_with fail
  (refine (validUn_c 11 p to off _ 0 _ _ 0 _ _ (by go_simp) (by go_simp) (by go_simp) (by go_simp) (by go_simp) (by go_simp) (by go_simp) ).mono ?_; rintro e u1 ⟨rfl, hb⟩; obtain ⟨hc, hf⟩ := Flow.bcell hb; have hz := hb.size; (try simp only [World.size_alloc, World.size_setCell, World.size_drew] at hz); obtain ⟨z0, z1, z2, z3, z4⟩ := Flow.zs5 (show w.heap.size + 5 ≤ u1.heap.size by omega))
  go_wp2_with fail
  (refine (ris_c _ _ _).mono ?_; rintro e u2 ⟨rfl, hb⟩; obtain ⟨hc, hf⟩ := Flow.bcell hb; have hz := hb.size; (try simp only [World.size_alloc, World.size_setCell, World.size_drew] at hz); obtain ⟨z0, z1, z2, z3, z4⟩ := Flow.zs5 (show w.heap.size + 5 ≤ u2.heap.size by omega))
  go_wp2_with fail
  (refine (ris_c _ _ _).mono ?_; rintro e u3 ⟨rfl, hb⟩; obtain ⟨hc, hf⟩ := Flow.bcell hb; have hz := hb.size; (try simp only [World.size_alloc, World.size_setCell, World.size_drew] at hz); obtain ⟨z0, z1, z2, z3, z4⟩ := Flow.zs5 (show w.heap.size + 5 ≤ u3.heap.size by omega))
  go_wp2_with fail
  refine Flow.bodyPost_k rfl (fun K hK => ?_)
  simp only [results, Try.results36]
  go_simp
  refine hK _ ⟨?_, ?_⟩
  · rfl
  · (repeat (first | exact Below.refl _ _ | refine Below.setCell ?_ (by first | omega | (simp <;> omega)) _ | refine Below.alloc ?_ (by first | omega | (simp <;> omega)) _ | refine Below.drew ?_ | refine Below.trans ?_ (Below.mono (by assumption) (by first | omega | (simp <;> omega)))))
set_option maxRecDepth 100000 in
set_option maxHeartbeats 8000000 in
theorem run_12_0 (p to : Int) (x a : V) (h1 : (Rf.exUn 12 p to 0 != 0) = true) (h2 : Vb.is p x = true) (h3 : Vb.is p a = true) (w : World) : Calls Try.prog 36 #[iv (12 : Int), iv p, iv to, iv (0 : Int), vv x, vv a] w fun e w' => e = .returned (.tuple #[vv (V.word a.a), iv 0]) ∧ Below w.heap.size w w' := by
  go_enter Try.func36, Try.ntmps36
  go_wp2_with fail
  (refine (validUn_c 12 p to 0 _ 0 _ _ 0 _ _ (by go_simp) (by go_simp) (by go_simp) (by go_simp) (by go_simp) (by go_simp) (by go_simp) ).mono ?_; rintro e u1 ⟨rfl, hb⟩; obtain ⟨hc, hf⟩ := Flow.bcell hb; have hz := hb.size; (try simp only [World.size_alloc, World.size_setCell, World.size_drew] at hz); obtain ⟨z0, z1, z2, z3, z4⟩ := Flow.zs5 (show w.heap.size + 5 ≤ u1.heap.size by omega))
  go_wp2_with fail
  (refine (ris_c _ _ _).mono ?_; rintro e u2 ⟨rfl, hb⟩; obtain ⟨hc, hf⟩ := Flow.bcell hb; have hz := hb.size; (try simp only [World.size_alloc, World.size_setCell, World.size_drew] at hz); obtain ⟨z0, z1, z2, z3, z4⟩ := Flow.zs5 (show w.heap.size + 5 ≤ u2.heap.size by omega))
  go_wp2_with fail
  (refine (ris_c _ _ _).mono ?_; rintro e u3 ⟨rfl, hb⟩; obtain ⟨hc, hf⟩ := Flow.bcell hb; have hz := hb.size; (try simp only [World.size_alloc, World.size_setCell, World.size_drew] at hz); obtain ⟨z0, z1, z2, z3, z4⟩ := Flow.zs5 (show w.heap.size + 5 ≤ u3.heap.size by omega))
  go_wp2_with fail
  refine Flow.bodyPost_k rfl (fun K hK => ?_)
  simp only [results, Try.results36]
  go_simp
  refine hK _ ⟨?_, ?_⟩
  · rfl
  · (repeat (first | exact Below.refl _ _ | refine Below.setCell ?_ (by first | omega | (simp <;> omega)) _ | refine Below.alloc ?_ (by first | omega | (simp <;> omega)) _ | refine Below.drew ?_ | refine Below.trans ?_ (Below.mono (by assumption) (by first | omega | (simp <;> omega)))))
set_option maxRecDepth 100000 in
set_option maxHeartbeats 8000000 in
theorem run_12_1 (p to : Int) (x a : V) (h1 : (Rf.exUn 12 p to 1 != 0) = true) (h2 : Vb.is p x = true) (h3 : Vb.is p a = true) (w : World) : Calls Try.prog 36 #[iv (12 : Int), iv p, iv to, iv (1 : Int), vv x, vv a] w fun e w' => e = .returned (.tuple #[vv (V.word a.b), iv 0]) ∧ Below w.heap.size w w' := by
  go_enter Try.func36, Try.ntmps36
  go_wp2_with fail
  (refine (validUn_c 12 p to 1 _ 0 _ _ 0 _ _ (by go_simp) (by go_simp) (by go_simp) (by go_simp) (by go_simp) (by go_simp) (by go_simp) ).mono ?_; rintro e u1 ⟨rfl, hb⟩; obtain ⟨hc, hf⟩ := Flow.bcell hb; have hz := hb.size; (try simp only [World.size_alloc, World.size_setCell, World.size_drew] at hz); obtain ⟨z0, z1, z2, z3, z4⟩ := Flow.zs5 (show w.heap.size + 5 ≤ u1.heap.size by omega))
  go_wp2_with fail
  (refine (ris_c _ _ _).mono ?_; rintro e u2 ⟨rfl, hb⟩; obtain ⟨hc, hf⟩ := Flow.bcell hb; have hz := hb.size; (try simp only [World.size_alloc, World.size_setCell, World.size_drew] at hz); obtain ⟨z0, z1, z2, z3, z4⟩ := Flow.zs5 (show w.heap.size + 5 ≤ u2.heap.size by omega))
  go_wp2_with fail
  (refine (ris_c _ _ _).mono ?_; rintro e u3 ⟨rfl, hb⟩; obtain ⟨hc, hf⟩ := Flow.bcell hb; have hz := hb.size; (try simp only [World.size_alloc, World.size_setCell, World.size_drew] at hz); obtain ⟨z0, z1, z2, z3, z4⟩ := Flow.zs5 (show w.heap.size + 5 ≤ u3.heap.size by omega))
  go_wp2_with fail
  refine Flow.bodyPost_k rfl (fun K hK => ?_)
  simp only [results, Try.results36]
  go_simp
  refine hK _ ⟨?_, ?_⟩
  · rfl
  · (repeat (first | exact Below.refl _ _ | refine Below.setCell ?_ (by first | omega | (simp <;> omega)) _ | refine Below.alloc ?_ (by first | omega | (simp <;> omega)) _ | refine Below.drew ?_ | refine Below.trans ?_ (Below.mono (by assumption) (by first | omega | (simp <;> omega)))))
set_option maxRecDepth 100000 in
set_option maxHeartbeats 8000000 in
theorem run_12_2 (p to : Int) (x a : V) (h1 : (Rf.exUn 12 p to 2 != 0) = true) (h2 : Vb.is p x = true) (h3 : Vb.is p a = true) (w : World) : Calls Try.prog 36 #[iv (12 : Int), iv p, iv to, iv (2 : Int), vv x, vv a] w fun e w' => e = .returned (.tuple #[vv (V.word a.c), iv 0]) ∧ Below w.heap.size w w' := by
  go_enter Try.func36, Try.ntmps36
  go_wp2_with fail
  (refine (validUn_c 12 p to 2 _ 0 _ _ 0 _ _ (by go_simp) (by go_simp) (by go_simp) (by go_simp) (by go_simp) (by go_simp) (by go_simp) ).mono ?_; rintro e u1 ⟨rfl, hb⟩; obtain ⟨hc, hf⟩ := Flow.bcell hb; have hz := hb.size; (try simp only [World.size_alloc, World.size_setCell, World.size_drew] at hz); obtain ⟨z0, z1, z2, z3, z4⟩ := Flow.zs5 (show w.heap.size + 5 ≤ u1.heap.size by omega))
  go_wp2_with fail
  (refine (ris_c _ _ _).mono ?_; rintro e u2 ⟨rfl, hb⟩; obtain ⟨hc, hf⟩ := Flow.bcell hb; have hz := hb.size; (try simp only [World.size_alloc, World.size_setCell, World.size_drew] at hz); obtain ⟨z0, z1, z2, z3, z4⟩ := Flow.zs5 (show w.heap.size + 5 ≤ u2.heap.size by omega))
  go_wp2_with fail
  (refine (ris_c _ _ _).mono ?_; rintro e u3 ⟨rfl, hb⟩; obtain ⟨hc, hf⟩ := Flow.bcell hb; have hz := hb.size; (try simp only [World.size_alloc, World.size_setCell, World.size_drew] at hz); obtain ⟨z0, z1, z2, z3, z4⟩ := Flow.zs5 (show w.heap.size + 5 ≤ u3.heap.size by omega))
  go_wp2_with fail
  refine Flow.bodyPost_k rfl (fun K hK => ?_)
  simp only [results, Try.results36]
  go_simp
  refine hK _ ⟨?_, ?_⟩
  · rfl
  · (repeat (first | exact Below.refl _ _ | refine Below.setCell ?_ (by first | omega | (simp <;> omega)) _ | refine Below.alloc ?_ (by first | omega | (simp <;> omega)) _ | refine Below.drew ?_ | refine Below.trans ?_ (Below.mono (by assumption) (by first | omega | (simp <;> omega)))))
set_option maxRecDepth 100000 in
set_option maxHeartbeats 8000000 in
theorem run_12_3 (p to : Int) (x a : V) (h1 : (Rf.exUn 12 p to 3 != 0) = true) (h2 : Vb.is p x = true) (h3 : Vb.is p a = true) (w : World) : Calls Try.prog 36 #[iv (12 : Int), iv p, iv to, iv (3 : Int), vv x, vv a] w fun e w' => e = .returned (.tuple #[vv (V.word a.d), iv 0]) ∧ Below w.heap.size w w' := by
  go_enter Try.func36, Try.ntmps36
  go_wp2_with fail
  (refine (validUn_c 12 p to 3 _ 0 _ _ 0 _ _ (by go_simp) (by go_simp) (by go_simp) (by go_simp) (by go_simp) (by go_simp) (by go_simp) ).mono ?_; rintro e u1 ⟨rfl, hb⟩; obtain ⟨hc, hf⟩ := Flow.bcell hb; have hz := hb.size; (try simp only [World.size_alloc, World.size_setCell, World.size_drew] at hz); obtain ⟨z0, z1, z2, z3, z4⟩ := Flow.zs5 (show w.heap.size + 5 ≤ u1.heap.size by omega))
  go_wp2_with fail
  (refine (ris_c _ _ _).mono ?_; rintro e u2 ⟨rfl, hb⟩; obtain ⟨hc, hf⟩ := Flow.bcell hb; have hz := hb.size; (try simp only [World.size_alloc, World.size_setCell, World.size_drew] at hz); obtain ⟨z0, z1, z2, z3, z4⟩ := Flow.zs5 (show w.heap.size + 5 ≤ u2.heap.size by omega))
  go_wp2_with fail
  (refine (ris_c _ _ _).mono ?_; rintro e u3 ⟨rfl, hb⟩; obtain ⟨hc, hf⟩ := Flow.bcell hb; have hz := hb.size; (try simp only [World.size_alloc, World.size_setCell, World.size_drew] at hz); obtain ⟨z0, z1, z2, z3, z4⟩ := Flow.zs5 (show w.heap.size + 5 ≤ u3.heap.size by omega))
  go_wp2_with fail
  refine Flow.bodyPost_k rfl (fun K hK => ?_)
  simp only [results, Try.results36]
  go_simp
  refine hK _ ⟨?_, ?_⟩
  · rfl
  · (repeat (first | exact Below.refl _ _ | refine Below.setCell ?_ (by first | omega | (simp <;> omega)) _ | refine Below.alloc ?_ (by first | omega | (simp <;> omega)) _ | refine Below.drew ?_ | refine Below.trans ?_ (Below.mono (by assumption) (by first | omega | (simp <;> omega)))))
set_option maxRecDepth 100000 in
set_option maxHeartbeats 8000000 in
theorem run_13 (p to off : Int) (x a : V) (h1 : (Rf.exUn 13 p to off != 0) = true) (h2 : Vb.is p x = true) (h3 : Vb.is p a = true) (w : World) : Calls Try.prog 36 #[iv (13 : Int), iv p, iv to, iv off, vv x, vv a] w fun e w' => e = .returned (.tuple #[vv (V.word (Rf.maskTo a 16)), iv 0]) ∧ Below w.heap.size w w' := by
  go_enter Try.func36, Try.ntmps36
  go_wp2_with fail
  (refine (validUn_c 13 p to off _ 0 _ _ 0 _ _ (by go_simp) (by go_simp) (by go_simp) (by go_simp) (by go_simp) (by go_simp) (by go_simp) ).mono ?_; rintro e u1 ⟨rfl, hb⟩; obtain ⟨hc, hf⟩ := Flow.bcell hb; have hz := hb.size; (try simp only [World.size_alloc, World.size_setCell, World.size_drew] at hz); obtain ⟨z0, z1, z2, z3, z4⟩ := Flow.zs5 (show w.heap.size + 5 ≤ u1.heap.size by omega))
  go_wp2_with fail
  (refine (ris_c _ _ _).mono ?_; rintro e u2 ⟨rfl, hb⟩; obtain ⟨hc, hf⟩ := Flow.bcell hb; have hz := hb.size; (try simp only [World.size_alloc, World.size_setCell, World.size_drew] at hz); obtain ⟨z0, z1, z2, z3, z4⟩ := Flow.zs5 (show w.heap.size + 5 ≤ u2.heap.size by omega))
  go_wp2_with fail
  (refine (ris_c _ _ _).mono ?_; rintro e u3 ⟨rfl, hb⟩; obtain ⟨hc, hf⟩ := Flow.bcell hb; have hz := hb.size; (try simp only [World.size_alloc, World.size_setCell, World.size_drew] at hz); obtain ⟨z0, z1, z2, z3, z4⟩ := Flow.zs5 (show w.heap.size + 5 ≤ u3.heap.size by omega))
  go_wp2_with fail
  (refine (rmask_c a _ ).mono ?_; rintro e u4 ⟨rfl, hb⟩; obtain ⟨hc, hf⟩ := Flow.bcell hb; have hz := hb.size; (try simp only [World.size_alloc, World.size_setCell, World.size_drew] at hz); obtain ⟨z0, z1, z2, z3, z4⟩ := Flow.zs5 (show w.heap.size + 5 ≤ u4.heap.size by omega))
  go_wp2_with fail
  refine Flow.bodyPost_k rfl (fun K hK => ?_)
  simp only [results, Try.results36]
  go_simp
  refine hK _ ⟨?_, ?_⟩
  · rfl
  · (repeat (first | exact Below.refl _ _ | refine Below.setCell ?_ (by first | omega | (simp <;> omega)) _ | refine Below.alloc ?_ (by first | omega | (simp <;> omega)) _ | refine Below.drew ?_ | refine Below.trans ?_ (Below.mono (by assumption) (by first | omega | (simp <;> omega)))))
end Go.Proofs.Ytboknfppecgjmaa
