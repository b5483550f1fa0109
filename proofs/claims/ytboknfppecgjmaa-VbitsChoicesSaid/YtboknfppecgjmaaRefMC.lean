/- Mux and Call of the reference candlingref24. -/
import Derived.Test.YtboknfppecgjmaaRef
import Derived.Test.YtboknfppecgjmaaCall
namespace Go.Proofs.Ytboknfppecgjmaa
set_option linter.unusedVariables false
set_option linter.unusedSimpArgs false
open Go.RowKit Go.Shelf
attribute [local go_sem] U_eq_zero
theorem mux_no {ty : Int} {c d x a y b : V} (h : Vb.is ty x = false ∨ Vb.is ty a = false ∨ Vb.is ty y = false ∨ Vb.is ty b = false ∨ Vb.is 1 c = false ∨ Vb.is 1 d = false) : Vb.mux ty c d x a y b = (V.zero, 1) := by
  unfold Vb.mux; rw [if_pos h]
theorem mux_or {ty : Int} {c d x a y b : V} (h1 : Vb.is ty x = true) (h2 : Vb.is ty a = true) (h3 : Vb.is ty y = true) (h4 : Vb.is ty b = true) (h5 : Vb.is 1 c = true) (h6 : Vb.is 1 d = true) (h : d.a = 1#32) :
    Vb.mux ty c d x a y b = ((x.xor y).or (a.or b), 0) := by
  simp [Vb.mux, h1, h2, h3, h4, h5, h6, h, vor_assoc]

set_option maxRecDepth 100000 in
set_option maxHeartbeats 4000000 in
theorem rmux_z (ty : Int) (c d x a y b : V) (w : World) (h0 : (Rf.bytes ty == 0) = true) : Calls Try.prog 13 #[iv ty, vv c, vv d, vv x, vv a, vv y, vv b] w fun e w' => e = .returned (.tuple #[vv (Vb.mux ty c d x a y b).1, iv (Vb.mux ty c d x a y b).2]) ∧ Below w.heap.size w w' := by
  have hv : Vb.mux ty c d x a y b = (V.zero, 1) := mux_no (.inl (by rw [Vb.is, (bytes_iff ty).1 (by simpa using h0)]; rfl))
  have HV := Lib.hid hv
  clear hv
  go_enter Try.func13, Try.ntmps13
  go_wp2_with (first | (go_at_call 44; refine (bytes_c _ _).mono ?_; rintro e w1 ⟨rfl, rfl⟩) | (go_at_call 26; refine (ris_c _ _ _).mono ?_; rintro e w1 ⟨rfl, hb⟩; obtain ⟨hc, hf⟩ := Flow.bcell hb; have hz := hb.size; (try simp only [World.size_alloc, World.size_setCell, World.size_drew] at hz); obtain ⟨z0, z1, z2, z3, z4, z5, z6⟩ := Flow.zs7 (show w.heap.size + 7 ≤ w1.heap.size by omega)))
  all_goals (refine Flow.bodyPost_k rfl (fun K hK => ?_); simp only [results, Try.results13]; go_simp; refine hK _ ⟨?_, ?_⟩)
  · exact ret_pair HV.out
  · (repeat (first | exact Below.refl _ _ | refine Below.setCell ?_ (by first | omega | (simp <;> omega)) _ | refine Below.alloc ?_ (by first | omega | (simp <;> omega)) _ | refine Below.drew ?_ | refine Below.trans ?_ (Below.mono (by assumption) (by first | omega | (simp <;> omega)))))
set_option maxRecDepth 100000 in
set_option maxHeartbeats 4000000 in
theorem rmux_e1 (ty : Int) (c d x a y b : V) (w : World) (h0 : (Rf.bytes ty == 0) = false)  (h1 : Vb.is 1 c = false) : Calls Try.prog 13 #[iv ty, vv c, vv d, vv x, vv a, vv y, vv b] w fun e w' => e = .returned (.tuple #[vv (Vb.mux ty c d x a y b).1, iv (Vb.mux ty c d x a y b).2]) ∧ Below w.heap.size w w' := by
  have hv : Vb.mux ty c d x a y b = (V.zero, 1) := mux_no (by simp [h1])
  have HV := Lib.hid hv
  clear hv
  go_enter Try.func13, Try.ntmps13
  go_wp2_with (first | (go_at_call 44; refine (bytes_c _ _).mono ?_; rintro e w1 ⟨rfl, rfl⟩) | (go_at_call 26; refine (ris_c _ _ _).mono ?_; rintro e w1 ⟨rfl, hb⟩; obtain ⟨hc, hf⟩ := Flow.bcell hb; have hz := hb.size; (try simp only [World.size_alloc, World.size_setCell, World.size_drew] at hz); obtain ⟨z0, z1, z2, z3, z4, z5, z6⟩ := Flow.zs7 (show w.heap.size + 7 ≤ w1.heap.size by omega)))
  all_goals (refine Flow.bodyPost_k rfl (fun K hK => ?_); simp only [results, Try.results13]; go_simp; refine hK _ ⟨?_, ?_⟩)
  · exact ret_pair HV.out
  · (repeat (first | exact Below.refl _ _ | refine Below.setCell ?_ (by first | omega | (simp <;> omega)) _ | refine Below.alloc ?_ (by first | omega | (simp <;> omega)) _ | refine Below.drew ?_ | refine Below.trans ?_ (Below.mono (by assumption) (by first | omega | (simp <;> omega)))))
set_option maxRecDepth 100000 in
set_option maxHeartbeats 4000000 in
theorem rmux_e2 (ty : Int) (c d x a y b : V) (w : World) (h0 : (Rf.bytes ty == 0) = false) (h1 : Vb.is 1 c = true) (h2 : Vb.is 1 d = false) : Calls Try.prog 13 #[iv ty, vv c, vv d, vv x, vv a, vv y, vv b] w fun e w' => e = .returned (.tuple #[vv (Vb.mux ty c d x a y b).1, iv (Vb.mux ty c d x a y b).2]) ∧ Below w.heap.size w w' := by
  have hv : Vb.mux ty c d x a y b = (V.zero, 1) := mux_no (by simp [h2])
  have HV := Lib.hid hv
  clear hv
  go_enter Try.func13, Try.ntmps13
  go_wp2_with (first | (go_at_call 44; refine (bytes_c _ _).mono ?_; rintro e w1 ⟨rfl, rfl⟩) | (go_at_call 26; refine (ris_c _ _ _).mono ?_; rintro e w1 ⟨rfl, hb⟩; obtain ⟨hc, hf⟩ := Flow.bcell hb; have hz := hb.size; (try simp only [World.size_alloc, World.size_setCell, World.size_drew] at hz); obtain ⟨z0, z1, z2, z3, z4, z5, z6⟩ := Flow.zs7 (show w.heap.size + 7 ≤ w1.heap.size by omega)))
  all_goals (refine Flow.bodyPost_k rfl (fun K hK => ?_); simp only [results, Try.results13]; go_simp; refine hK _ ⟨?_, ?_⟩)
  · exact ret_pair HV.out
  · (repeat (first | exact Below.refl _ _ | refine Below.setCell ?_ (by first | omega | (simp <;> omega)) _ | refine Below.alloc ?_ (by first | omega | (simp <;> omega)) _ | refine Below.drew ?_ | refine Below.trans ?_ (Below.mono (by assumption) (by first | omega | (simp <;> omega)))))
set_option maxRecDepth 100000 in
set_option maxHeartbeats 4000000 in
theorem rmux_e3 (ty : Int) (c d x a y b : V) (w : World) (h0 : (Rf.bytes ty == 0) = false) (h1 : Vb.is 1 c = true) (h2 : Vb.is 1 d = true) (h3 : Vb.is ty x = false) : Calls Try.prog 13 #[iv ty, vv c, vv d, vv x, vv a, vv y, vv b] w fun e w' => e = .returned (.tuple #[vv (Vb.mux ty c d x a y b).1, iv (Vb.mux ty c d x a y b).2]) ∧ Below w.heap.size w w' := by
  have hv : Vb.mux ty c d x a y b = (V.zero, 1) := mux_no (by simp [h3])
  have HV := Lib.hid hv
  clear hv
  go_enter Try.func13, Try.ntmps13
  go_wp2_with (first | (go_at_call 44; refine (bytes_c _ _).mono ?_; rintro e w1 ⟨rfl, rfl⟩) | (go_at_call 26; refine (ris_c _ _ _).mono ?_; rintro e w1 ⟨rfl, hb⟩; obtain ⟨hc, hf⟩ := Flow.bcell hb; have hz := hb.size; (try simp only [World.size_alloc, World.size_setCell, World.size_drew] at hz); obtain ⟨z0, z1, z2, z3, z4, z5, z6⟩ := Flow.zs7 (show w.heap.size + 7 ≤ w1.heap.size by omega)))
  all_goals (refine Flow.bodyPost_k rfl (fun K hK => ?_); simp only [results, Try.results13]; go_simp; refine hK _ ⟨?_, ?_⟩)
  · exact ret_pair HV.out
  · (repeat (first | exact Below.refl _ _ | refine Below.setCell ?_ (by first | omega | (simp <;> omega)) _ | refine Below.alloc ?_ (by first | omega | (simp <;> omega)) _ | refine Below.drew ?_ | refine Below.trans ?_ (Below.mono (by assumption) (by first | omega | (simp <;> omega)))))
set_option maxRecDepth 100000 in
set_option maxHeartbeats 4000000 in
theorem rmux_e4 (ty : Int) (c d x a y b : V) (w : World) (h0 : (Rf.bytes ty == 0) = false) (h1 : Vb.is 1 c = true) (h2 : Vb.is 1 d = true) (h3 : Vb.is ty x = true) (h4 : Vb.is ty a = false) : Calls Try.prog 13 #[iv ty, vv c, vv d, vv x, vv a, vv y, vv b] w fun e w' => e = .returned (.tuple #[vv (Vb.mux ty c d x a y b).1, iv (Vb.mux ty c d x a y b).2]) ∧ Below w.heap.size w w' := by
  have hv : Vb.mux ty c d x a y b = (V.zero, 1) := mux_no (by simp [h4])
  have HV := Lib.hid hv
  clear hv
  go_enter Try.func13, Try.ntmps13
  go_wp2_with (first | (go_at_call 44; refine (bytes_c _ _).mono ?_; rintro e w1 ⟨rfl, rfl⟩) | (go_at_call 26; refine (ris_c _ _ _).mono ?_; rintro e w1 ⟨rfl, hb⟩; obtain ⟨hc, hf⟩ := Flow.bcell hb; have hz := hb.size; (try simp only [World.size_alloc, World.size_setCell, World.size_drew] at hz); obtain ⟨z0, z1, z2, z3, z4, z5, z6⟩ := Flow.zs7 (show w.heap.size + 7 ≤ w1.heap.size by omega)))
  all_goals (refine Flow.bodyPost_k rfl (fun K hK => ?_); simp only [results, Try.results13]; go_simp; refine hK _ ⟨?_, ?_⟩)
  · exact ret_pair HV.out
  · (repeat (first | exact Below.refl _ _ | refine Below.setCell ?_ (by first | omega | (simp <;> omega)) _ | refine Below.alloc ?_ (by first | omega | (simp <;> omega)) _ | refine Below.drew ?_ | refine Below.trans ?_ (Below.mono (by assumption) (by first | omega | (simp <;> omega)))))
set_option maxRecDepth 100000 in
set_option maxHeartbeats 4000000 in
theorem rmux_e5 (ty : Int) (c d x a y b : V) (w : World) (h0 : (Rf.bytes ty == 0) = false) (h1 : Vb.is 1 c = true) (h2 : Vb.is 1 d = true) (h3 : Vb.is ty x = true) (h4 : Vb.is ty a = true) (h5 : Vb.is ty y = false) : Calls Try.prog 13 #[iv ty, vv c, vv d, vv x, vv a, vv y, vv b] w fun e w' => e = .returned (.tuple #[vv (Vb.mux ty c d x a y b).1, iv (Vb.mux ty c d x a y b).2]) ∧ Below w.heap.size w w' := by
  have hv : Vb.mux ty c d x a y b = (V.zero, 1) := mux_no (by simp [h5])
  have HV := Lib.hid hv
  clear hv
  go_enter Try.func13, Try.ntmps13
  go_wp2_with (first | (go_at_call 44; refine (bytes_c _ _).mono ?_; rintro e w1 ⟨rfl, rfl⟩) | (go_at_call 26; refine (ris_c _ _ _).mono ?_; rintro e w1 ⟨rfl, hb⟩; obtain ⟨hc, hf⟩ := Flow.bcell hb; have hz := hb.size; (try simp only [World.size_alloc, World.size_setCell, World.size_drew] at hz); obtain ⟨z0, z1, z2, z3, z4, z5, z6⟩ := Flow.zs7 (show w.heap.size + 7 ≤ w1.heap.size by omega)))
  all_goals (refine Flow.bodyPost_k rfl (fun K hK => ?_); simp only [results, Try.results13]; go_simp; refine hK _ ⟨?_, ?_⟩)
  · exact ret_pair HV.out
  · (repeat (first | exact Below.refl _ _ | refine Below.setCell ?_ (by first | omega | (simp <;> omega)) _ | refine Below.alloc ?_ (by first | omega | (simp <;> omega)) _ | refine Below.drew ?_ | refine Below.trans ?_ (Below.mono (by assumption) (by first | omega | (simp <;> omega)))))
set_option maxRecDepth 100000 in
set_option maxHeartbeats 4000000 in
theorem rmux_e6 (ty : Int) (c d x a y b : V) (w : World) (h0 : (Rf.bytes ty == 0) = false) (h1 : Vb.is 1 c = true) (h2 : Vb.is 1 d = true) (h3 : Vb.is ty x = true) (h4 : Vb.is ty a = true) (h5 : Vb.is ty y = true) (h6 : Vb.is ty b = false) : Calls Try.prog 13 #[iv ty, vv c, vv d, vv x, vv a, vv y, vv b] w fun e w' => e = .returned (.tuple #[vv (Vb.mux ty c d x a y b).1, iv (Vb.mux ty c d x a y b).2]) ∧ Below w.heap.size w w' := by
  have hv : Vb.mux ty c d x a y b = (V.zero, 1) := mux_no (by simp [h6])
  have HV := Lib.hid hv
  clear hv
  go_enter Try.func13, Try.ntmps13
  go_wp2_with (first | (go_at_call 44; refine (bytes_c _ _).mono ?_; rintro e w1 ⟨rfl, rfl⟩) | (go_at_call 26; refine (ris_c _ _ _).mono ?_; rintro e w1 ⟨rfl, hb⟩; obtain ⟨hc, hf⟩ := Flow.bcell hb; have hz := hb.size; (try simp only [World.size_alloc, World.size_setCell, World.size_drew] at hz); obtain ⟨z0, z1, z2, z3, z4, z5, z6⟩ := Flow.zs7 (show w.heap.size + 7 ≤ w1.heap.size by omega)))
  all_goals (refine Flow.bodyPost_k rfl (fun K hK => ?_); simp only [results, Try.results13]; go_simp; refine hK _ ⟨?_, ?_⟩)
  · exact ret_pair HV.out
  · (repeat (first | exact Below.refl _ _ | refine Below.setCell ?_ (by first | omega | (simp <;> omega)) _ | refine Below.alloc ?_ (by first | omega | (simp <;> omega)) _ | refine Below.drew ?_ | refine Below.trans ?_ (Below.mono (by assumption) (by first | omega | (simp <;> omega)))))
set_option maxRecDepth 100000 in
set_option maxHeartbeats 4000000 in
theorem rmux_b (ty : Int) (c d x a y b : V) (w : World) (h0 : (Rf.bytes ty == 0) = false) (h1 : Vb.is 1 c = true) (h2 : Vb.is 1 d = true) (h3 : Vb.is ty x = true) (h4 : Vb.is ty a = true) (h5 : Vb.is ty y = true) (h6 : Vb.is ty b = true) (h7 : decide (d.a = 1#32) = false) (h8 : decide (c.a = 1#32) = false) : Calls Try.prog 13 #[iv ty, vv c, vv d, vv x, vv a, vv y, vv b] w fun e w' => e = .returned (.tuple #[vv (Vb.mux ty c d x a y b).1, iv (Vb.mux ty c d x a y b).2]) ∧ Below w.heap.size w w' := by
  have hv : Vb.mux ty c d x a y b = (b, 0) := by simp [Vb.mux, h1, h2, h3, h4, h5, h6, of_decide_eq_false h7, of_decide_eq_false h8]
  have HV := Lib.hid hv
  clear hv
  go_enter Try.func13, Try.ntmps13
  go_wp2_with (first | (go_at_call 44; refine (bytes_c _ _).mono ?_; rintro e w1 ⟨rfl, rfl⟩) | (go_at_call 26; refine (ris_c _ _ _).mono ?_; rintro e w1 ⟨rfl, hb⟩; obtain ⟨hc, hf⟩ := Flow.bcell hb; have hz := hb.size; (try simp only [World.size_alloc, World.size_setCell, World.size_drew] at hz); obtain ⟨z0, z1, z2, z3, z4, z5, z6⟩ := Flow.zs7 (show w.heap.size + 7 ≤ w1.heap.size by omega)))
  all_goals (refine Flow.bodyPost_k rfl (fun K hK => ?_); simp only [results, Try.results13]; go_simp; refine hK _ ⟨?_, ?_⟩)
  · exact ret_pair HV.out
  · (repeat (first | exact Below.refl _ _ | refine Below.setCell ?_ (by first | omega | (simp <;> omega)) _ | refine Below.alloc ?_ (by first | omega | (simp <;> omega)) _ | refine Below.drew ?_ | refine Below.trans ?_ (Below.mono (by assumption) (by first | omega | (simp <;> omega)))))
set_option maxRecDepth 100000 in
set_option maxHeartbeats 4000000 in
theorem rmux_a (ty : Int) (c d x a y b : V) (w : World) (h0 : (Rf.bytes ty == 0) = false) (h1 : Vb.is 1 c = true) (h2 : Vb.is 1 d = true) (h3 : Vb.is ty x = true) (h4 : Vb.is ty a = true) (h5 : Vb.is ty y = true) (h6 : Vb.is ty b = true) (h7 : decide (d.a = 1#32) = false) (h8 : decide (c.a = 1#32) = true) : Calls Try.prog 13 #[iv ty, vv c, vv d, vv x, vv a, vv y, vv b] w fun e w' => e = .returned (.tuple #[vv (Vb.mux ty c d x a y b).1, iv (Vb.mux ty c d x a y b).2]) ∧ Below w.heap.size w w' := by
  have hv : Vb.mux ty c d x a y b = (a, 0) := by simp [Vb.mux, h1, h2, h3, h4, h5, h6, of_decide_eq_false h7, of_decide_eq_true h8]
  have HV := Lib.hid hv
  clear hv
  go_enter Try.func13, Try.ntmps13
  go_wp2_with (first | (go_at_call 44; refine (bytes_c _ _).mono ?_; rintro e w1 ⟨rfl, rfl⟩) | (go_at_call 26; refine (ris_c _ _ _).mono ?_; rintro e w1 ⟨rfl, hb⟩; obtain ⟨hc, hf⟩ := Flow.bcell hb; have hz := hb.size; (try simp only [World.size_alloc, World.size_setCell, World.size_drew] at hz); obtain ⟨z0, z1, z2, z3, z4, z5, z6⟩ := Flow.zs7 (show w.heap.size + 7 ≤ w1.heap.size by omega)))
  all_goals (refine Flow.bodyPost_k rfl (fun K hK => ?_); simp only [results, Try.results13]; go_simp; refine hK _ ⟨?_, ?_⟩)
  · exact ret_pair HV.out
  · (repeat (first | exact Below.refl _ _ | refine Below.setCell ?_ (by first | omega | (simp <;> omega)) _ | refine Below.alloc ?_ (by first | omega | (simp <;> omega)) _ | refine Below.drew ?_ | refine Below.trans ?_ (Below.mono (by assumption) (by first | omega | (simp <;> omega)))))
set_option maxRecDepth 100000 in
set_option maxHeartbeats 4000000 in
theorem rmux_o (ty : Int) (c d x a y b : V) (w : World) (h0 : (Rf.bytes ty == 0) = false) (h1 : Vb.is 1 c = true) (h2 : Vb.is 1 d = true) (h3 : Vb.is ty x = true) (h4 : Vb.is ty a = true) (h5 : Vb.is ty y = true) (h6 : Vb.is ty b = true) (h7 : decide (d.a = 1#32) = true) : Calls Try.prog 13 #[iv ty, vv c, vv d, vv x, vv a, vv y, vv b] w fun e w' => e = .returned (.tuple #[vv (Vb.mux ty c d x a y b).1, iv (Vb.mux ty c d x a y b).2]) ∧ Below w.heap.size w w' := by
  have hv : Vb.mux ty c d x a y b = ((x.xor y).or (a.or b), 0) := mux_or h3 h4 h5 h6 h1 h2 (of_decide_eq_true h7)
  have HV := Lib.hid hv
  clear hv
  go_enter Try.func13, Try.ntmps13
  go_wp2_with (first | (go_at_call 44; refine (bytes_c _ _).mono ?_; rintro e w1 ⟨rfl, rfl⟩) | (go_at_call 26; refine (ris_c _ _ _).mono ?_; rintro e w1 ⟨rfl, hb⟩; obtain ⟨hc, hf⟩ := Flow.bcell hb; have hz := hb.size; (try simp only [World.size_alloc, World.size_setCell, World.size_drew] at hz); obtain ⟨z0, z1, z2, z3, z4, z5, z6⟩ := Flow.zs7 (show w.heap.size + 7 ≤ w1.heap.size by omega)))
  refine Flow.wp_region_below 7 (by kernel_rfl) (by kernel_rfl) (fun R hRc hRt => ?_)
  simp only [List.take_succ_cons, List.take_zero, List.drop_succ_cons, List.drop_zero]
  iterate 7
    first
      | refine Flow.flow_skip rfl ?_
      | (apply Flow.flow_step; rfl; (intro w1 hb; have hc := hRc.out w1 hb; go_simp; (first | with_reducible exact ⟨rfl, hb⟩ | (go_at_call 22; refine (rxor_c _ _ _).mono ?_; rintro e w2 ⟨rfl, hb2⟩; exact ⟨_, rfl, rfl, hRt.out _ _ hb hb2⟩) | (go_at_call 19; refine (ror_c _ _ _).mono ?_; rintro e w2 ⟨rfl, hb2⟩; exact ⟨_, rfl, rfl, hRt.out _ _ hb hb2⟩))))
    simp only [Act.put, List.setIfInBounds_toArray, List.set_cons_zero, List.set_cons_succ]
  apply Flow.flow_nil
  clear hRc hRt
  intro w1 hb
  obtain ⟨hc, hf⟩ := Flow.bcell hb
  have hz := hb.size
  (try simp only [World.size_alloc, World.size_setCell, World.size_drew] at hz)
  obtain ⟨z0, z1, z2, z3, z4, z5, z6⟩ := Flow.zs7 (show w.heap.size + 7 ≤ w1.heap.size by omega)
  go_wp2_with fail
  all_goals (refine Flow.bodyPost_k rfl (fun K hK => ?_); simp only [results, Try.results13]; go_simp; refine hK _ ⟨?_, ?_⟩)
  · exact ret_pair HV.out
  · (repeat (first | exact Below.refl _ _ | refine Below.setCell ?_ (by first | omega | (simp <;> omega)) _ | refine Below.alloc ?_ (by first | omega | (simp <;> omega)) _ | refine Below.drew ?_ | refine Below.trans ?_ (Below.mono (by assumption) (by first | omega | (simp <;> omega)))))
theorem rmux_c (ty : Int) (c d x a y b : V) (w : World)  : Calls Try.prog 13 #[iv ty, vv c, vv d, vv x, vv a, vv y, vv b] w fun e w' => e = .returned (.tuple #[vv (Vb.mux ty c d x a y b).1, iv (Vb.mux ty c d x a y b).2]) ∧ Below w.heap.size w w' := by
  cases h0 : (Rf.bytes ty == 0)
  · cases h1 : Vb.is 1 c
    · exact rmux_e1 _ _ _ _ _ _ _ _ h0 h1
    cases h2 : Vb.is 1 d
    · exact rmux_e2 _ _ _ _ _ _ _ _ h0 h1 h2
    cases h3 : Vb.is ty x
    · exact rmux_e3 _ _ _ _ _ _ _ _ h0 h1 h2 h3
    cases h4 : Vb.is ty a
    · exact rmux_e4 _ _ _ _ _ _ _ _ h0 h1 h2 h3 h4
    cases h5 : Vb.is ty y
    · exact rmux_e5 _ _ _ _ _ _ _ _ h0 h1 h2 h3 h4 h5
    cases h6 : Vb.is ty b
    · exact rmux_e6 _ _ _ _ _ _ _ _ h0 h1 h2 h3 h4 h5 h6
    cases h7 : decide (d.a = 1#32)
    · cases h8 : decide (c.a = 1#32)
      · exact rmux_b _ _ _ _ _ _ _ _ h0 h1 h2 h3 h4 h5 h6 h7 h8
      · exact rmux_a _ _ _ _ _ _ _ _ h0 h1 h2 h3 h4 h5 h6 h7 h8
    · exact rmux_o _ _ _ _ _ _ _ _ h0 h1 h2 h3 h4 h5 h6 h7
  · exact rmux_z _ _ _ _ _ _ _ _ h0
set_option maxRecDepth 100000 in
set_option maxHeartbeats 4000000 in
theorem rcall4_0 (p0 p1 p2 p3 : BitVec 32) (b off cap : Nat) (w : World) (h0 : decide (p0 = 0#32) = false) (c0 : w.cell? ⟨b, off, none⟩ = some (uv p0)) (c1 : w.cell? ⟨b, off + 1, none⟩ = some (uv p1)) (c2 : w.cell? ⟨b, off + 2, none⟩ = some (uv p2)) (c3 : w.cell? ⟨b, off + 3, none⟩ = some (uv p3)) : Calls Try.prog 15 #[iv 1, .slice (some ⟨b, off, none⟩) 4 cap] w fun e w' => e = .returned (.tuple #[uv (Vb.call 1 [p0, p1, p2, p3]).1, iv (Vb.call 1 [p0, p1, p2, p3]).2]) ∧ w' = w := by
  have hv : Vb.call 1 [p0, p1, p2, p3] = (15#32, 0) := by simp [Vb.call, of_decide_eq_false h0]
  have HV := Lib.hid hv
  clear hv
  go_enter Try.func15, Try.ntmps15
  go_wp2_with fail
  refine wp_loop_rounds 6 ?_
  rw [rounds_succ]
  go_wp2_with fail
  rw [rounds_succ]
  go_wp2_with fail
  rw [rounds_succ]
  go_wp2_with fail
  rw [rounds_succ]
  go_wp2_with fail
  rw [rounds_succ]
  go_wp2_with fail
  go_ret2
  exact ⟨ret_two HV.out, rfl⟩
set_option maxRecDepth 100000 in
set_option maxHeartbeats 4000000 in
theorem rcall4_1 (p0 p1 p2 p3 : BitVec 32) (b off cap : Nat) (w : World) (h0 : decide (p0 = 0#32) = true) (h1 : decide (p1 = 0#32) = false) (c0 : w.cell? ⟨b, off, none⟩ = some (uv p0)) (c1 : w.cell? ⟨b, off + 1, none⟩ = some (uv p1)) (c2 : w.cell? ⟨b, off + 2, none⟩ = some (uv p2)) (c3 : w.cell? ⟨b, off + 3, none⟩ = some (uv p3)) : Calls Try.prog 15 #[iv 1, .slice (some ⟨b, off, none⟩) 4 cap] w fun e w' => e = .returned (.tuple #[uv (Vb.call 1 [p0, p1, p2, p3]).1, iv (Vb.call 1 [p0, p1, p2, p3]).2]) ∧ w' = w := by
  have hv : Vb.call 1 [p0, p1, p2, p3] = (15#32, 0) := by simp [Vb.call, of_decide_eq_true h0, of_decide_eq_false h1]
  have HV := Lib.hid hv
  clear hv
  go_enter Try.func15, Try.ntmps15
  go_wp2_with fail
  refine wp_loop_rounds 6 ?_
  rw [rounds_succ]
  go_wp2_with fail
  rw [rounds_succ]
  go_wp2_with fail
  rw [rounds_succ]
  go_wp2_with fail
  rw [rounds_succ]
  go_wp2_with fail
  rw [rounds_succ]
  go_wp2_with fail
  go_ret2
  exact ⟨ret_two HV.out, rfl⟩
set_option maxRecDepth 100000 in
set_option maxHeartbeats 4000000 in
theorem rcall4_2 (p0 p1 p2 p3 : BitVec 32) (b off cap : Nat) (w : World) (h0 : decide (p0 = 0#32) = true) (h1 : decide (p1 = 0#32) = true) (h2 : decide (p2 = 0#32) = false) (c0 : w.cell? ⟨b, off, none⟩ = some (uv p0)) (c1 : w.cell? ⟨b, off + 1, none⟩ = some (uv p1)) (c2 : w.cell? ⟨b, off + 2, none⟩ = some (uv p2)) (c3 : w.cell? ⟨b, off + 3, none⟩ = some (uv p3)) : Calls Try.prog 15 #[iv 1, .slice (some ⟨b, off, none⟩) 4 cap] w fun e w' => e = .returned (.tuple #[uv (Vb.call 1 [p0, p1, p2, p3]).1, iv (Vb.call 1 [p0, p1, p2, p3]).2]) ∧ w' = w := by
  have hv : Vb.call 1 [p0, p1, p2, p3] = (15#32, 0) := by simp [Vb.call, of_decide_eq_true h0, of_decide_eq_true h1, of_decide_eq_false h2]
  have HV := Lib.hid hv
  clear hv
  go_enter Try.func15, Try.ntmps15
  go_wp2_with fail
  refine wp_loop_rounds 6 ?_
  rw [rounds_succ]
  go_wp2_with fail
  rw [rounds_succ]
  go_wp2_with fail
  rw [rounds_succ]
  go_wp2_with fail
  rw [rounds_succ]
  go_wp2_with fail
  rw [rounds_succ]
  go_wp2_with fail
  go_ret2
  exact ⟨ret_two HV.out, rfl⟩
set_option maxRecDepth 100000 in
set_option maxHeartbeats 4000000 in
theorem rcall4_3 (p0 p1 p2 p3 : BitVec 32) (b off cap : Nat) (w : World) (h0 : decide (p0 = 0#32) = true) (h1 : decide (p1 = 0#32) = true) (h2 : decide (p2 = 0#32) = true) (h3 : decide (p3 = 0#32) = false) (c0 : w.cell? ⟨b, off, none⟩ = some (uv p0)) (c1 : w.cell? ⟨b, off + 1, none⟩ = some (uv p1)) (c2 : w.cell? ⟨b, off + 2, none⟩ = some (uv p2)) (c3 : w.cell? ⟨b, off + 3, none⟩ = some (uv p3)) : Calls Try.prog 15 #[iv 1, .slice (some ⟨b, off, none⟩) 4 cap] w fun e w' => e = .returned (.tuple #[uv (Vb.call 1 [p0, p1, p2, p3]).1, iv (Vb.call 1 [p0, p1, p2, p3]).2]) ∧ w' = w := by
  have hv : Vb.call 1 [p0, p1, p2, p3] = (15#32, 0) := by simp [Vb.call, of_decide_eq_true h0, of_decide_eq_true h1, of_decide_eq_true h2, of_decide_eq_false h3]
  have HV := Lib.hid hv
  clear hv
  go_enter Try.func15, Try.ntmps15
  go_wp2_with fail
  refine wp_loop_rounds 6 ?_
  rw [rounds_succ]
  go_wp2_with fail
  rw [rounds_succ]
  go_wp2_with fail
  rw [rounds_succ]
  go_wp2_with fail
  rw [rounds_succ]
  go_wp2_with fail
  rw [rounds_succ]
  go_wp2_with fail
  go_ret2
  exact ⟨ret_two HV.out, rfl⟩
set_option maxRecDepth 100000 in
set_option maxHeartbeats 4000000 in
theorem rcall4_z (p0 p1 p2 p3 : BitVec 32) (b off cap : Nat) (w : World) (h0 : decide (p0 = 0#32) = true) (h1 : decide (p1 = 0#32) = true) (h2 : decide (p2 = 0#32) = true) (h3 : decide (p3 = 0#32) = true) (c0 : w.cell? ⟨b, off, none⟩ = some (uv p0)) (c1 : w.cell? ⟨b, off + 1, none⟩ = some (uv p1)) (c2 : w.cell? ⟨b, off + 2, none⟩ = some (uv p2)) (c3 : w.cell? ⟨b, off + 3, none⟩ = some (uv p3)) : Calls Try.prog 15 #[iv 1, .slice (some ⟨b, off, none⟩) 4 cap] w fun e w' => e = .returned (.tuple #[uv (Vb.call 1 [p0, p1, p2, p3]).1, iv (Vb.call 1 [p0, p1, p2, p3]).2]) ∧ w' = w := by
  have hv : Vb.call 1 [p0, p1, p2, p3] = (0#32, 0) := by simp [Vb.call, of_decide_eq_true h0, of_decide_eq_true h1, of_decide_eq_true h2, of_decide_eq_true h3]
  have HV := Lib.hid hv
  clear hv
  go_enter Try.func15, Try.ntmps15
  go_wp2_with fail
  refine wp_loop_rounds 6 ?_
  rw [rounds_succ]
  go_wp2_with fail
  rw [rounds_succ]
  go_wp2_with fail
  rw [rounds_succ]
  go_wp2_with fail
  rw [rounds_succ]
  go_wp2_with fail
  rw [rounds_succ]
  go_wp2_with fail
  go_ret2
  exact ⟨ret_two HV.out, rfl⟩
set_option maxRecDepth 100000 in
set_option maxHeartbeats 4000000 in
theorem rcall5_0 (p0 p1 p2 p3 p4 : BitVec 32) (b off cap : Nat) (w : World) (h0 : decide (p0 = 0#32) = false) (c0 : w.cell? ⟨b, off, none⟩ = some (uv p0)) (c1 : w.cell? ⟨b, off + 1, none⟩ = some (uv p1)) (c2 : w.cell? ⟨b, off + 2, none⟩ = some (uv p2)) (c3 : w.cell? ⟨b, off + 3, none⟩ = some (uv p3)) (c4 : w.cell? ⟨b, off + 4, none⟩ = some (uv p4)) : Calls Try.prog 15 #[iv 2, .slice (some ⟨b, off, none⟩) 5 cap] w fun e w' => e = .returned (.tuple #[uv (Vb.call 2 [p0, p1, p2, p3, p4]).1, iv (Vb.call 2 [p0, p1, p2, p3, p4]).2]) ∧ w' = w := by
  have hv : Vb.call 2 [p0, p1, p2, p3, p4] = (1#32, 0) := by simp [Vb.call, of_decide_eq_false h0]
  have HV := Lib.hid hv
  clear hv
  go_enter Try.func15, Try.ntmps15
  go_wp2_with fail
  refine wp_loop_rounds 6 ?_
  rw [rounds_succ]
  go_wp2_with fail
  rw [rounds_succ]
  go_wp2_with fail
  rw [rounds_succ]
  go_wp2_with fail
  rw [rounds_succ]
  go_wp2_with fail
  rw [rounds_succ]
  go_wp2_with fail
  rw [rounds_succ]
  go_wp2_with fail
  go_ret2
  exact ⟨ret_two HV.out, rfl⟩
set_option maxRecDepth 100000 in
set_option maxHeartbeats 4000000 in
theorem rcall5_1 (p0 p1 p2 p3 p4 : BitVec 32) (b off cap : Nat) (w : World) (h0 : decide (p0 = 0#32) = true) (h1 : decide (p1 = 0#32) = false) (c0 : w.cell? ⟨b, off, none⟩ = some (uv p0)) (c1 : w.cell? ⟨b, off + 1, none⟩ = some (uv p1)) (c2 : w.cell? ⟨b, off + 2, none⟩ = some (uv p2)) (c3 : w.cell? ⟨b, off + 3, none⟩ = some (uv p3)) (c4 : w.cell? ⟨b, off + 4, none⟩ = some (uv p4)) : Calls Try.prog 15 #[iv 2, .slice (some ⟨b, off, none⟩) 5 cap] w fun e w' => e = .returned (.tuple #[uv (Vb.call 2 [p0, p1, p2, p3, p4]).1, iv (Vb.call 2 [p0, p1, p2, p3, p4]).2]) ∧ w' = w := by
  have hv : Vb.call 2 [p0, p1, p2, p3, p4] = (1#32, 0) := by simp [Vb.call, of_decide_eq_true h0, of_decide_eq_false h1]
  have HV := Lib.hid hv
  clear hv
  go_enter Try.func15, Try.ntmps15
  go_wp2_with fail
  refine wp_loop_rounds 6 ?_
  rw [rounds_succ]
  go_wp2_with fail
  rw [rounds_succ]
  go_wp2_with fail
  rw [rounds_succ]
  go_wp2_with fail
  rw [rounds_succ]
  go_wp2_with fail
  rw [rounds_succ]
  go_wp2_with fail
  rw [rounds_succ]
  go_wp2_with fail
  go_ret2
  exact ⟨ret_two HV.out, rfl⟩
set_option maxRecDepth 100000 in
set_option maxHeartbeats 4000000 in
theorem rcall5_2 (p0 p1 p2 p3 p4 : BitVec 32) (b off cap : Nat) (w : World) (h0 : decide (p0 = 0#32) = true) (h1 : decide (p1 = 0#32) = true) (h2 : decide (p2 = 0#32) = false) (c0 : w.cell? ⟨b, off, none⟩ = some (uv p0)) (c1 : w.cell? ⟨b, off + 1, none⟩ = some (uv p1)) (c2 : w.cell? ⟨b, off + 2, none⟩ = some (uv p2)) (c3 : w.cell? ⟨b, off + 3, none⟩ = some (uv p3)) (c4 : w.cell? ⟨b, off + 4, none⟩ = some (uv p4)) : Calls Try.prog 15 #[iv 2, .slice (some ⟨b, off, none⟩) 5 cap] w fun e w' => e = .returned (.tuple #[uv (Vb.call 2 [p0, p1, p2, p3, p4]).1, iv (Vb.call 2 [p0, p1, p2, p3, p4]).2]) ∧ w' = w := by
  have hv : Vb.call 2 [p0, p1, p2, p3, p4] = (1#32, 0) := by simp [Vb.call, of_decide_eq_true h0, of_decide_eq_true h1, of_decide_eq_false h2]
  have HV := Lib.hid hv
  clear hv
  go_enter Try.func15, Try.ntmps15
  go_wp2_with fail
  refine wp_loop_rounds 6 ?_
  rw [rounds_succ]
  go_wp2_with fail
  rw [rounds_succ]
  go_wp2_with fail
  rw [rounds_succ]
  go_wp2_with fail
  rw [rounds_succ]
  go_wp2_with fail
  rw [rounds_succ]
  go_wp2_with fail
  rw [rounds_succ]
  go_wp2_with fail
  go_ret2
  exact ⟨ret_two HV.out, rfl⟩
set_option maxRecDepth 100000 in
set_option maxHeartbeats 4000000 in
theorem rcall5_3 (p0 p1 p2 p3 p4 : BitVec 32) (b off cap : Nat) (w : World) (h0 : decide (p0 = 0#32) = true) (h1 : decide (p1 = 0#32) = true) (h2 : decide (p2 = 0#32) = true) (h3 : decide (p3 = 0#32) = false) (c0 : w.cell? ⟨b, off, none⟩ = some (uv p0)) (c1 : w.cell? ⟨b, off + 1, none⟩ = some (uv p1)) (c2 : w.cell? ⟨b, off + 2, none⟩ = some (uv p2)) (c3 : w.cell? ⟨b, off + 3, none⟩ = some (uv p3)) (c4 : w.cell? ⟨b, off + 4, none⟩ = some (uv p4)) : Calls Try.prog 15 #[iv 2, .slice (some ⟨b, off, none⟩) 5 cap] w fun e w' => e = .returned (.tuple #[uv (Vb.call 2 [p0, p1, p2, p3, p4]).1, iv (Vb.call 2 [p0, p1, p2, p3, p4]).2]) ∧ w' = w := by
  have hv : Vb.call 2 [p0, p1, p2, p3, p4] = (1#32, 0) := by simp [Vb.call, of_decide_eq_true h0, of_decide_eq_true h1, of_decide_eq_true h2, of_decide_eq_false h3]
  have HV := Lib.hid hv
  clear hv
  go_enter Try.func15, Try.ntmps15
  go_wp2_with fail
  refine wp_loop_rounds 6 ?_
  rw [rounds_succ]
  go_wp2_with fail
  rw [rounds_succ]
  go_wp2_with fail
  rw [rounds_succ]
  go_wp2_with fail
  rw [rounds_succ]
  go_wp2_with fail
  rw [rounds_succ]
  go_wp2_with fail
  rw [rounds_succ]
  go_wp2_with fail
  go_ret2
  exact ⟨ret_two HV.out, rfl⟩
set_option maxRecDepth 100000 in
set_option maxHeartbeats 4000000 in
theorem rcall5_4 (p0 p1 p2 p3 p4 : BitVec 32) (b off cap : Nat) (w : World) (h0 : decide (p0 = 0#32) = true) (h1 : decide (p1 = 0#32) = true) (h2 : decide (p2 = 0#32) = true) (h3 : decide (p3 = 0#32) = true) (h4 : decide (p4 = 0#32) = false) (c0 : w.cell? ⟨b, off, none⟩ = some (uv p0)) (c1 : w.cell? ⟨b, off + 1, none⟩ = some (uv p1)) (c2 : w.cell? ⟨b, off + 2, none⟩ = some (uv p2)) (c3 : w.cell? ⟨b, off + 3, none⟩ = some (uv p3)) (c4 : w.cell? ⟨b, off + 4, none⟩ = some (uv p4)) : Calls Try.prog 15 #[iv 2, .slice (some ⟨b, off, none⟩) 5 cap] w fun e w' => e = .returned (.tuple #[uv (Vb.call 2 [p0, p1, p2, p3, p4]).1, iv (Vb.call 2 [p0, p1, p2, p3, p4]).2]) ∧ w' = w := by
  have hv : Vb.call 2 [p0, p1, p2, p3, p4] = (1#32, 0) := by simp [Vb.call, of_decide_eq_true h0, of_decide_eq_true h1, of_decide_eq_true h2, of_decide_eq_true h3, of_decide_eq_false h4]
  have HV := Lib.hid hv
  clear hv
  go_enter Try.func15, Try.ntmps15
  go_wp2_with fail
  refine wp_loop_rounds 6 ?_
  rw [rounds_succ]
  go_wp2_with fail
  rw [rounds_succ]
  go_wp2_with fail
  rw [rounds_succ]
  go_wp2_with fail
  rw [rounds_succ]
  go_wp2_with fail
  rw [rounds_succ]
  go_wp2_with fail
  rw [rounds_succ]
  go_wp2_with fail
  go_ret2
  exact ⟨ret_two HV.out, rfl⟩
set_option maxRecDepth 100000 in
set_option maxHeartbeats 4000000 in
theorem rcall5_z (p0 p1 p2 p3 p4 : BitVec 32) (b off cap : Nat) (w : World) (h0 : decide (p0 = 0#32) = true) (h1 : decide (p1 = 0#32) = true) (h2 : decide (p2 = 0#32) = true) (h3 : decide (p3 = 0#32) = true) (h4 : decide (p4 = 0#32) = true) (c0 : w.cell? ⟨b, off, none⟩ = some (uv p0)) (c1 : w.cell? ⟨b, off + 1, none⟩ = some (uv p1)) (c2 : w.cell? ⟨b, off + 2, none⟩ = some (uv p2)) (c3 : w.cell? ⟨b, off + 3, none⟩ = some (uv p3)) (c4 : w.cell? ⟨b, off + 4, none⟩ = some (uv p4)) : Calls Try.prog 15 #[iv 2, .slice (some ⟨b, off, none⟩) 5 cap] w fun e w' => e = .returned (.tuple #[uv (Vb.call 2 [p0, p1, p2, p3, p4]).1, iv (Vb.call 2 [p0, p1, p2, p3, p4]).2]) ∧ w' = w := by
  have hv : Vb.call 2 [p0, p1, p2, p3, p4] = (0#32, 0) := by simp [Vb.call, of_decide_eq_true h0, of_decide_eq_true h1, of_decide_eq_true h2, of_decide_eq_true h3, of_decide_eq_true h4]
  have HV := Lib.hid hv
  clear hv
  go_enter Try.func15, Try.ntmps15
  go_wp2_with fail
  refine wp_loop_rounds 6 ?_
  rw [rounds_succ]
  go_wp2_with fail
  rw [rounds_succ]
  go_wp2_with fail
  rw [rounds_succ]
  go_wp2_with fail
  rw [rounds_succ]
  go_wp2_with fail
  rw [rounds_succ]
  go_wp2_with fail
  rw [rounds_succ]
  go_wp2_with fail
  go_ret2
  exact ⟨ret_two HV.out, rfl⟩
set_option maxHeartbeats 4000000 in
theorem rcallno_c (op : Int) (a : Option Addr) (n cap : Nat) (hn : n ≤ maxLen) (h1 : ¬ (op = 1 ∧ n = 4)) (h2 : ¬ (op = 2 ∧ n = 5)) (w : World) :
    Calls Try.prog 15 #[iv op, .slice a n cap] w fun e w' => e = .returned (.tuple #[uv 0#32, iv 1]) ∧ w' = w := by
  unfold maxLen at hn
  by_cases e1 : op = 1
  · subst e1
    have k1 : ((n : Int) == 4) = false := by simp at h1; simp; omega
    clear h1 h2
    go_enter Try.func15, Try.ntmps15
    go_wp2_with fail
    go_ret2
    exact ⟨rfl, rfl⟩
  · have k0 : (op == 1) = false := by simp [e1]
    by_cases e2 : op = 2
    · subst e2
      have k1 : ((n : Int) == 5) = false := by simp at h2; simp; omega
      clear h1 h2 e1 k0
      go_enter Try.func15, Try.ntmps15
      go_wp2_with fail
      go_ret2
      exact ⟨rfl, rfl⟩
    · have k1 : (op == 2) = false := by simp [e2]
      clear h1 h2 e1 e2
      go_enter Try.func15, Try.ntmps15
      go_wp2_with fail
      go_ret2
      exact ⟨rfl, rfl⟩
theorem rcall_c (op : Int) (v : Value) (l : List (BitVec 32)) (w : World) (h : Lists w v l) (hl : l.length ≤ maxLen) :
    Calls Try.prog 15 #[iv op, v] w fun e w' => e = .returned (.tuple #[uv (Vb.call op l).1, iv (Vb.call op l).2]) ∧ w' = w := by
  rcases h with ⟨a, cap, rfl, rfl⟩ | ⟨b, off, cap, rfl, hc⟩
  · rw [call_no (by simp) (by simp)]
    exact rcallno_c op a 0 cap (by simp) (by simp) (by simp) w
  · by_cases h1 : op = 1 ∧ l.length = 4
    · obtain ⟨rfl, hn⟩ := h1
      match l, hn with
      | [p0, p1, p2, p3], _ =>
        have c0 := hc 0 _ rfl
        have c1 := hc 1 _ rfl
        have c2 := hc 2 _ rfl
        have c3 := hc 3 _ rfl
        cases h0 : decide (p0 = 0#32)
        · exact rcall4_0 p0 p1 p2 p3 b off cap w h0 c0 c1 c2 c3
        cases h1 : decide (p1 = 0#32)
        · exact rcall4_1 p0 p1 p2 p3 b off cap w h0 h1 c0 c1 c2 c3
        cases h2 : decide (p2 = 0#32)
        · exact rcall4_2 p0 p1 p2 p3 b off cap w h0 h1 h2 c0 c1 c2 c3
        cases h3 : decide (p3 = 0#32)
        · exact rcall4_3 p0 p1 p2 p3 b off cap w h0 h1 h2 h3 c0 c1 c2 c3
        · exact rcall4_z p0 p1 p2 p3 b off cap w h0 h1 h2 h3 c0 c1 c2 c3
    · by_cases h2 : op = 2 ∧ l.length = 5
      · obtain ⟨rfl, hn⟩ := h2
        match l, hn with
        | [p0, p1, p2, p3, p4], _ =>
          have c0 := hc 0 _ rfl
          have c1 := hc 1 _ rfl
          have c2 := hc 2 _ rfl
          have c3 := hc 3 _ rfl
          have c4 := hc 4 _ rfl
          cases h0 : decide (p0 = 0#32)
          · exact rcall5_0 p0 p1 p2 p3 p4 b off cap w h0 c0 c1 c2 c3 c4
          cases h1 : decide (p1 = 0#32)
          · exact rcall5_1 p0 p1 p2 p3 p4 b off cap w h0 h1 c0 c1 c2 c3 c4
          cases h2 : decide (p2 = 0#32)
          · exact rcall5_2 p0 p1 p2 p3 p4 b off cap w h0 h1 h2 c0 c1 c2 c3 c4
          cases h3 : decide (p3 = 0#32)
          · exact rcall5_3 p0 p1 p2 p3 p4 b off cap w h0 h1 h2 h3 c0 c1 c2 c3 c4
          cases h4 : decide (p4 = 0#32)
          · exact rcall5_4 p0 p1 p2 p3 p4 b off cap w h0 h1 h2 h3 h4 c0 c1 c2 c3 c4
          · exact rcall5_z p0 p1 p2 p3 p4 b off cap w h0 h1 h2 h3 h4 c0 c1 c2 c3 c4
      · rw [call_no h1 h2]
        exact rcallno_c op _ l.length cap hl h1 h2 w
end Go.Proofs.Ytboknfppecgjmaa
