/- Part 13 of the proof's texts: Mux. -/
import Derived.Laws.Rows
import Derived.Test.YtboknfppecgjmaaGreatExa9
set_option maxHeartbeats 16000000
namespace Go.Proofs.YtboknfppecgjmaaGreat
set_option linter.unusedVariables false
set_option linter.unusedSimpArgs false
open Go.RowKit Go.Shelf
attribute [local go_sem] U_eq_zero
set_option maxRecDepth 100000 in
theorem mux_c (ty : Int) (c d x a y b : V) (w : World) : Calls Tryz.prog 32 #[iv ty, vv c, vv d, vv x, vv a, vv y, vv b] w fun e w' => e = .returned (.tuple #[vv (Vb.mux ty c d x a y b).1, iv (Vb.mux ty c d x a y b).2]) ∧ Below w.heap.size w w' := by
  cases h1 : Vb.is ty x
  · have hv : Vb.mux ty c d x a y b = (V.zero, 1) := by simp [Vb.mux, h1]
    have HV := Lib.hid hv
    clear hv
    go_enter Tryz.func32, Tryz.ntmps32
    go_wp2_with fail
    refine wp_loop_rounds 5 ?_
    rw [rounds_succ]
    go_wp2_with (go_at_call 41; refine (is_c _ _ _).mono ?_; rintro e w1 ⟨rfl, hb⟩; obtain ⟨hc, hf⟩ := Flow.bcell hb; have hz := hb.size; (try simp only [World.size_alloc, World.size_setCell, World.size_drew] at hz); obtain ⟨z0, z1, z2, z3, z4, z5, z6, z7, z8⟩ := Flow.zs9 (show w.heap.size + 9 ≤ w1.heap.size by omega))
    all_goals (refine Flow.bodyPost_k rfl (fun K hK => ?_); simp only [results, Tryz.results32]; go_simp; refine hK _ ⟨?_, ?_⟩)
    · exact ret_pair HV.out
    · (repeat (first | exact Below.refl _ _ | refine Below.setCell ?_ (by first | omega | (simp <;> omega)) _ | refine Below.alloc ?_ (by first | omega | (simp <;> omega)) _ | refine Below.drew ?_ | refine Below.trans ?_ (Below.mono (by assumption) (by first | omega | (simp <;> omega)))))
  cases h2 : Vb.is ty a
  · have hv : Vb.mux ty c d x a y b = (V.zero, 1) := by simp [Vb.mux, h1, h2]
    have HV := Lib.hid hv
    clear hv
    go_enter Tryz.func32, Tryz.ntmps32
    go_wp2_with fail
    refine wp_loop_rounds 5 ?_
    rw [rounds_succ]
    go_wp2_with (go_at_call 41; refine (is_c _ _ _).mono ?_; rintro e w1 ⟨rfl, hb⟩; obtain ⟨hc, hf⟩ := Flow.bcell hb; have hz := hb.size; (try simp only [World.size_alloc, World.size_setCell, World.size_drew] at hz); obtain ⟨z0, z1, z2, z3, z4, z5, z6, z7, z8⟩ := Flow.zs9 (show w.heap.size + 9 ≤ w1.heap.size by omega))
    rw [rounds_succ]
    go_wp2_with (go_at_call 41; refine (is_c _ _ _).mono ?_; rintro e w1 ⟨rfl, hb⟩; obtain ⟨hc, hf⟩ := Flow.bcell hb; have hz := hb.size; (try simp only [World.size_alloc, World.size_setCell, World.size_drew] at hz); obtain ⟨z0, z1, z2, z3, z4, z5, z6, z7, z8⟩ := Flow.zs9 (show w.heap.size + 9 ≤ w1.heap.size by omega))
    all_goals (refine Flow.bodyPost_k rfl (fun K hK => ?_); simp only [results, Tryz.results32]; go_simp; refine hK _ ⟨?_, ?_⟩)
    · exact ret_pair HV.out
    · (repeat (first | exact Below.refl _ _ | refine Below.setCell ?_ (by first | omega | (simp <;> omega)) _ | refine Below.alloc ?_ (by first | omega | (simp <;> omega)) _ | refine Below.drew ?_ | refine Below.trans ?_ (Below.mono (by assumption) (by first | omega | (simp <;> omega)))))
  cases h3 : Vb.is ty y
  · have hv : Vb.mux ty c d x a y b = (V.zero, 1) := by simp [Vb.mux, h1, h2, h3]
    have HV := Lib.hid hv
    clear hv
    go_enter Tryz.func32, Tryz.ntmps32
    go_wp2_with fail
    refine wp_loop_rounds 5 ?_
    rw [rounds_succ]
    go_wp2_with (go_at_call 41; refine (is_c _ _ _).mono ?_; rintro e w1 ⟨rfl, hb⟩; obtain ⟨hc, hf⟩ := Flow.bcell hb; have hz := hb.size; (try simp only [World.size_alloc, World.size_setCell, World.size_drew] at hz); obtain ⟨z0, z1, z2, z3, z4, z5, z6, z7, z8⟩ := Flow.zs9 (show w.heap.size + 9 ≤ w1.heap.size by omega))
    rw [rounds_succ]
    go_wp2_with (go_at_call 41; refine (is_c _ _ _).mono ?_; rintro e w1 ⟨rfl, hb⟩; obtain ⟨hc, hf⟩ := Flow.bcell hb; have hz := hb.size; (try simp only [World.size_alloc, World.size_setCell, World.size_drew] at hz); obtain ⟨z0, z1, z2, z3, z4, z5, z6, z7, z8⟩ := Flow.zs9 (show w.heap.size + 9 ≤ w1.heap.size by omega))
    rw [rounds_succ]
    go_wp2_with (go_at_call 41; refine (is_c _ _ _).mono ?_; rintro e w1 ⟨rfl, hb⟩; obtain ⟨hc, hf⟩ := Flow.bcell hb; have hz := hb.size; (try simp only [World.size_alloc, World.size_setCell, World.size_drew] at hz); obtain ⟨z0, z1, z2, z3, z4, z5, z6, z7, z8⟩ := Flow.zs9 (show w.heap.size + 9 ≤ w1.heap.size by omega))
    all_goals (refine Flow.bodyPost_k rfl (fun K hK => ?_); simp only [results, Tryz.results32]; go_simp; refine hK _ ⟨?_, ?_⟩)
    · exact ret_pair HV.out
    · (repeat (first | exact Below.refl _ _ | refine Below.setCell ?_ (by first | omega | (simp <;> omega)) _ | refine Below.alloc ?_ (by first | omega | (simp <;> omega)) _ | refine Below.drew ?_ | refine Below.trans ?_ (Below.mono (by assumption) (by first | omega | (simp <;> omega)))))
  cases h4 : Vb.is ty b
  · have hv : Vb.mux ty c d x a y b = (V.zero, 1) := by simp [Vb.mux, h1, h2, h3, h4]
    have HV := Lib.hid hv
    clear hv
    go_enter Tryz.func32, Tryz.ntmps32
    go_wp2_with fail
    refine wp_loop_rounds 5 ?_
    rw [rounds_succ]
    go_wp2_with (go_at_call 41; refine (is_c _ _ _).mono ?_; rintro e w1 ⟨rfl, hb⟩; obtain ⟨hc, hf⟩ := Flow.bcell hb; have hz := hb.size; (try simp only [World.size_alloc, World.size_setCell, World.size_drew] at hz); obtain ⟨z0, z1, z2, z3, z4, z5, z6, z7, z8⟩ := Flow.zs9 (show w.heap.size + 9 ≤ w1.heap.size by omega))
    rw [rounds_succ]
    go_wp2_with (go_at_call 41; refine (is_c _ _ _).mono ?_; rintro e w1 ⟨rfl, hb⟩; obtain ⟨hc, hf⟩ := Flow.bcell hb; have hz := hb.size; (try simp only [World.size_alloc, World.size_setCell, World.size_drew] at hz); obtain ⟨z0, z1, z2, z3, z4, z5, z6, z7, z8⟩ := Flow.zs9 (show w.heap.size + 9 ≤ w1.heap.size by omega))
    rw [rounds_succ]
    go_wp2_with (go_at_call 41; refine (is_c _ _ _).mono ?_; rintro e w1 ⟨rfl, hb⟩; obtain ⟨hc, hf⟩ := Flow.bcell hb; have hz := hb.size; (try simp only [World.size_alloc, World.size_setCell, World.size_drew] at hz); obtain ⟨z0, z1, z2, z3, z4, z5, z6, z7, z8⟩ := Flow.zs9 (show w.heap.size + 9 ≤ w1.heap.size by omega))
    rw [rounds_succ]
    go_wp2_with (go_at_call 41; refine (is_c _ _ _).mono ?_; rintro e w1 ⟨rfl, hb⟩; obtain ⟨hc, hf⟩ := Flow.bcell hb; have hz := hb.size; (try simp only [World.size_alloc, World.size_setCell, World.size_drew] at hz); obtain ⟨z0, z1, z2, z3, z4, z5, z6, z7, z8⟩ := Flow.zs9 (show w.heap.size + 9 ≤ w1.heap.size by omega))
    all_goals (refine Flow.bodyPost_k rfl (fun K hK => ?_); simp only [results, Tryz.results32]; go_simp; refine hK _ ⟨?_, ?_⟩)
    · exact ret_pair HV.out
    · (repeat (first | exact Below.refl _ _ | refine Below.setCell ?_ (by first | omega | (simp <;> omega)) _ | refine Below.alloc ?_ (by first | omega | (simp <;> omega)) _ | refine Below.drew ?_ | refine Below.trans ?_ (Below.mono (by assumption) (by first | omega | (simp <;> omega)))))
  cases h5 : Vb.is 1 c
  · have hv : Vb.mux ty c d x a y b = (V.zero, 1) := by simp [Vb.mux, h1, h2, h3, h4, h5]
    have HV := Lib.hid hv
    clear hv
    go_enter Tryz.func32, Tryz.ntmps32
    go_wp2_with fail
    refine wp_loop_rounds 5 ?_
    rw [rounds_succ]
    go_wp2_with (go_at_call 41; refine (is_c _ _ _).mono ?_; rintro e w1 ⟨rfl, hb⟩; obtain ⟨hc, hf⟩ := Flow.bcell hb; have hz := hb.size; (try simp only [World.size_alloc, World.size_setCell, World.size_drew] at hz); obtain ⟨z0, z1, z2, z3, z4, z5, z6, z7, z8⟩ := Flow.zs9 (show w.heap.size + 9 ≤ w1.heap.size by omega))
    rw [rounds_succ]
    go_wp2_with (go_at_call 41; refine (is_c _ _ _).mono ?_; rintro e w1 ⟨rfl, hb⟩; obtain ⟨hc, hf⟩ := Flow.bcell hb; have hz := hb.size; (try simp only [World.size_alloc, World.size_setCell, World.size_drew] at hz); obtain ⟨z0, z1, z2, z3, z4, z5, z6, z7, z8⟩ := Flow.zs9 (show w.heap.size + 9 ≤ w1.heap.size by omega))
    rw [rounds_succ]
    go_wp2_with (go_at_call 41; refine (is_c _ _ _).mono ?_; rintro e w1 ⟨rfl, hb⟩; obtain ⟨hc, hf⟩ := Flow.bcell hb; have hz := hb.size; (try simp only [World.size_alloc, World.size_setCell, World.size_drew] at hz); obtain ⟨z0, z1, z2, z3, z4, z5, z6, z7, z8⟩ := Flow.zs9 (show w.heap.size + 9 ≤ w1.heap.size by omega))
    rw [rounds_succ]
    go_wp2_with (go_at_call 41; refine (is_c _ _ _).mono ?_; rintro e w1 ⟨rfl, hb⟩; obtain ⟨hc, hf⟩ := Flow.bcell hb; have hz := hb.size; (try simp only [World.size_alloc, World.size_setCell, World.size_drew] at hz); obtain ⟨z0, z1, z2, z3, z4, z5, z6, z7, z8⟩ := Flow.zs9 (show w.heap.size + 9 ≤ w1.heap.size by omega))
    rw [rounds_succ]
    go_wp2_with (go_at_call 41; refine (is_c _ _ _).mono ?_; rintro e w1 ⟨rfl, hb⟩; obtain ⟨hc, hf⟩ := Flow.bcell hb; have hz := hb.size; (try simp only [World.size_alloc, World.size_setCell, World.size_drew] at hz); obtain ⟨z0, z1, z2, z3, z4, z5, z6, z7, z8⟩ := Flow.zs9 (show w.heap.size + 9 ≤ w1.heap.size by omega))
    all_goals (refine Flow.bodyPost_k rfl (fun K hK => ?_); simp only [results, Tryz.results32]; go_simp; refine hK _ ⟨?_, ?_⟩)
    · exact ret_pair HV.out
    · (repeat (first | exact Below.refl _ _ | refine Below.setCell ?_ (by first | omega | (simp <;> omega)) _ | refine Below.alloc ?_ (by first | omega | (simp <;> omega)) _ | refine Below.drew ?_ | refine Below.trans ?_ (Below.mono (by assumption) (by first | omega | (simp <;> omega)))))
  cases h6 : Vb.is 1 d
  · have hv : Vb.mux ty c d x a y b = (V.zero, 1) := by simp [Vb.mux, h1, h2, h3, h4, h5, h6]
    have HV := Lib.hid hv
    clear hv
    go_enter Tryz.func32, Tryz.ntmps32
    go_wp2_with fail
    refine wp_loop_rounds 5 ?_
    rw [rounds_succ]
    go_wp2_with (go_at_call 41; refine (is_c _ _ _).mono ?_; rintro e w1 ⟨rfl, hb⟩; obtain ⟨hc, hf⟩ := Flow.bcell hb; have hz := hb.size; (try simp only [World.size_alloc, World.size_setCell, World.size_drew] at hz); obtain ⟨z0, z1, z2, z3, z4, z5, z6, z7, z8⟩ := Flow.zs9 (show w.heap.size + 9 ≤ w1.heap.size by omega))
    rw [rounds_succ]
    go_wp2_with (go_at_call 41; refine (is_c _ _ _).mono ?_; rintro e w1 ⟨rfl, hb⟩; obtain ⟨hc, hf⟩ := Flow.bcell hb; have hz := hb.size; (try simp only [World.size_alloc, World.size_setCell, World.size_drew] at hz); obtain ⟨z0, z1, z2, z3, z4, z5, z6, z7, z8⟩ := Flow.zs9 (show w.heap.size + 9 ≤ w1.heap.size by omega))
    rw [rounds_succ]
    go_wp2_with (go_at_call 41; refine (is_c _ _ _).mono ?_; rintro e w1 ⟨rfl, hb⟩; obtain ⟨hc, hf⟩ := Flow.bcell hb; have hz := hb.size; (try simp only [World.size_alloc, World.size_setCell, World.size_drew] at hz); obtain ⟨z0, z1, z2, z3, z4, z5, z6, z7, z8⟩ := Flow.zs9 (show w.heap.size + 9 ≤ w1.heap.size by omega))
    rw [rounds_succ]
    go_wp2_with (go_at_call 41; refine (is_c _ _ _).mono ?_; rintro e w1 ⟨rfl, hb⟩; obtain ⟨hc, hf⟩ := Flow.bcell hb; have hz := hb.size; (try simp only [World.size_alloc, World.size_setCell, World.size_drew] at hz); obtain ⟨z0, z1, z2, z3, z4, z5, z6, z7, z8⟩ := Flow.zs9 (show w.heap.size + 9 ≤ w1.heap.size by omega))
    rw [rounds_succ]
    go_wp2_with (go_at_call 41; refine (is_c _ _ _).mono ?_; rintro e w1 ⟨rfl, hb⟩; obtain ⟨hc, hf⟩ := Flow.bcell hb; have hz := hb.size; (try simp only [World.size_alloc, World.size_setCell, World.size_drew] at hz); obtain ⟨z0, z1, z2, z3, z4, z5, z6, z7, z8⟩ := Flow.zs9 (show w.heap.size + 9 ≤ w1.heap.size by omega))
    all_goals (refine Flow.bodyPost_k rfl (fun K hK => ?_); simp only [results, Tryz.results32]; go_simp; refine hK _ ⟨?_, ?_⟩)
    · exact ret_pair HV.out
    · (repeat (first | exact Below.refl _ _ | refine Below.setCell ?_ (by first | omega | (simp <;> omega)) _ | refine Below.alloc ?_ (by first | omega | (simp <;> omega)) _ | refine Below.drew ?_ | refine Below.trans ?_ (Below.mono (by assumption) (by first | omega | (simp <;> omega)))))
  cases h7 : decide (d.a = 1#32)
  · cases h8 : decide (c.a = 1#32)
    · have hv : Vb.mux ty c d x a y b = (b, 0) := by simp [Vb.mux, h1, h2, h3, h4, h5, h6, of_decide_eq_false h7, of_decide_eq_false h8]
      have HV := Lib.hid hv
      clear hv
      go_enter Tryz.func32, Tryz.ntmps32
      go_wp2_with fail
      refine wp_loop_rounds 5 ?_
      rw [rounds_succ]
      go_wp2_with (go_at_call 41; refine (is_c _ _ _).mono ?_; rintro e w1 ⟨rfl, hb⟩; obtain ⟨hc, hf⟩ := Flow.bcell hb; have hz := hb.size; (try simp only [World.size_alloc, World.size_setCell, World.size_drew] at hz); obtain ⟨z0, z1, z2, z3, z4, z5, z6, z7, z8⟩ := Flow.zs9 (show w.heap.size + 9 ≤ w1.heap.size by omega))
      rw [rounds_succ]
      go_wp2_with (go_at_call 41; refine (is_c _ _ _).mono ?_; rintro e w1 ⟨rfl, hb⟩; obtain ⟨hc, hf⟩ := Flow.bcell hb; have hz := hb.size; (try simp only [World.size_alloc, World.size_setCell, World.size_drew] at hz); obtain ⟨z0, z1, z2, z3, z4, z5, z6, z7, z8⟩ := Flow.zs9 (show w.heap.size + 9 ≤ w1.heap.size by omega))
      rw [rounds_succ]
      go_wp2_with (go_at_call 41; refine (is_c _ _ _).mono ?_; rintro e w1 ⟨rfl, hb⟩; obtain ⟨hc, hf⟩ := Flow.bcell hb; have hz := hb.size; (try simp only [World.size_alloc, World.size_setCell, World.size_drew] at hz); obtain ⟨z0, z1, z2, z3, z4, z5, z6, z7, z8⟩ := Flow.zs9 (show w.heap.size + 9 ≤ w1.heap.size by omega))
      rw [rounds_succ]
      go_wp2_with (go_at_call 41; refine (is_c _ _ _).mono ?_; rintro e w1 ⟨rfl, hb⟩; obtain ⟨hc, hf⟩ := Flow.bcell hb; have hz := hb.size; (try simp only [World.size_alloc, World.size_setCell, World.size_drew] at hz); obtain ⟨z0, z1, z2, z3, z4, z5, z6, z7, z8⟩ := Flow.zs9 (show w.heap.size + 9 ≤ w1.heap.size by omega))
      rw [rounds_succ]
      go_wp2_with (go_at_call 41; refine (is_c _ _ _).mono ?_; rintro e w1 ⟨rfl, hb⟩; obtain ⟨hc, hf⟩ := Flow.bcell hb; have hz := hb.size; (try simp only [World.size_alloc, World.size_setCell, World.size_drew] at hz); obtain ⟨z0, z1, z2, z3, z4, z5, z6, z7, z8⟩ := Flow.zs9 (show w.heap.size + 9 ≤ w1.heap.size by omega))
      all_goals (refine Flow.bodyPost_k rfl (fun K hK => ?_); simp only [results, Tryz.results32]; go_simp; refine hK _ ⟨?_, ?_⟩)
      · exact ret_pair HV.out
      · (repeat (first | exact Below.refl _ _ | refine Below.setCell ?_ (by first | omega | (simp <;> omega)) _ | refine Below.alloc ?_ (by first | omega | (simp <;> omega)) _ | refine Below.drew ?_ | refine Below.trans ?_ (Below.mono (by assumption) (by first | omega | (simp <;> omega)))))
    · have hv : Vb.mux ty c d x a y b = (a, 0) := by simp [Vb.mux, h1, h2, h3, h4, h5, h6, of_decide_eq_false h7, of_decide_eq_true h8]
      have HV := Lib.hid hv
      clear hv
      go_enter Tryz.func32, Tryz.ntmps32
      go_wp2_with fail
      refine wp_loop_rounds 5 ?_
      rw [rounds_succ]
      go_wp2_with (go_at_call 41; refine (is_c _ _ _).mono ?_; rintro e w1 ⟨rfl, hb⟩; obtain ⟨hc, hf⟩ := Flow.bcell hb; have hz := hb.size; (try simp only [World.size_alloc, World.size_setCell, World.size_drew] at hz); obtain ⟨z0, z1, z2, z3, z4, z5, z6, z7, z8⟩ := Flow.zs9 (show w.heap.size + 9 ≤ w1.heap.size by omega))
      rw [rounds_succ]
      go_wp2_with (go_at_call 41; refine (is_c _ _ _).mono ?_; rintro e w1 ⟨rfl, hb⟩; obtain ⟨hc, hf⟩ := Flow.bcell hb; have hz := hb.size; (try simp only [World.size_alloc, World.size_setCell, World.size_drew] at hz); obtain ⟨z0, z1, z2, z3, z4, z5, z6, z7, z8⟩ := Flow.zs9 (show w.heap.size + 9 ≤ w1.heap.size by omega))
      rw [rounds_succ]
      go_wp2_with (go_at_call 41; refine (is_c _ _ _).mono ?_; rintro e w1 ⟨rfl, hb⟩; obtain ⟨hc, hf⟩ := Flow.bcell hb; have hz := hb.size; (try simp only [World.size_alloc, World.size_setCell, World.size_drew] at hz); obtain ⟨z0, z1, z2, z3, z4, z5, z6, z7, z8⟩ := Flow.zs9 (show w.heap.size + 9 ≤ w1.heap.size by omega))
      rw [rounds_succ]
      go_wp2_with (go_at_call 41; refine (is_c _ _ _).mono ?_; rintro e w1 ⟨rfl, hb⟩; obtain ⟨hc, hf⟩ := Flow.bcell hb; have hz := hb.size; (try simp only [World.size_alloc, World.size_setCell, World.size_drew] at hz); obtain ⟨z0, z1, z2, z3, z4, z5, z6, z7, z8⟩ := Flow.zs9 (show w.heap.size + 9 ≤ w1.heap.size by omega))
      rw [rounds_succ]
      go_wp2_with (go_at_call 41; refine (is_c _ _ _).mono ?_; rintro e w1 ⟨rfl, hb⟩; obtain ⟨hc, hf⟩ := Flow.bcell hb; have hz := hb.size; (try simp only [World.size_alloc, World.size_setCell, World.size_drew] at hz); obtain ⟨z0, z1, z2, z3, z4, z5, z6, z7, z8⟩ := Flow.zs9 (show w.heap.size + 9 ≤ w1.heap.size by omega))
      all_goals (refine Flow.bodyPost_k rfl (fun K hK => ?_); simp only [results, Tryz.results32]; go_simp; refine hK _ ⟨?_, ?_⟩)
      · exact ret_pair HV.out
      · (repeat (first | exact Below.refl _ _ | refine Below.setCell ?_ (by first | omega | (simp <;> omega)) _ | refine Below.alloc ?_ (by first | omega | (simp <;> omega)) _ | refine Below.drew ?_ | refine Below.trans ?_ (Below.mono (by assumption) (by first | omega | (simp <;> omega)))))
  · have hv : Vb.mux ty c d x a y b = (((x.xor y).or a).or b, 0) := by simp [Vb.mux, h1, h2, h3, h4, h5, h6, of_decide_eq_true h7]
    have HV := Lib.hid hv
    clear hv
    go_enter Tryz.func32, Tryz.ntmps32
    go_wp2_with fail
    refine wp_loop_rounds 5 ?_
    rw [rounds_succ]
    go_wp2_with (go_at_call 41; refine (is_c _ _ _).mono ?_; rintro e w1 ⟨rfl, hb⟩; obtain ⟨hc, hf⟩ := Flow.bcell hb; have hz := hb.size; (try simp only [World.size_alloc, World.size_setCell, World.size_drew] at hz); obtain ⟨z0, z1, z2, z3, z4, z5, z6, z7, z8⟩ := Flow.zs9 (show w.heap.size + 9 ≤ w1.heap.size by omega))
    rw [rounds_succ]
    go_wp2_with (go_at_call 41; refine (is_c _ _ _).mono ?_; rintro e w1 ⟨rfl, hb⟩; obtain ⟨hc, hf⟩ := Flow.bcell hb; have hz := hb.size; (try simp only [World.size_alloc, World.size_setCell, World.size_drew] at hz); obtain ⟨z0, z1, z2, z3, z4, z5, z6, z7, z8⟩ := Flow.zs9 (show w.heap.size + 9 ≤ w1.heap.size by omega))
    rw [rounds_succ]
    go_wp2_with (go_at_call 41; refine (is_c _ _ _).mono ?_; rintro e w1 ⟨rfl, hb⟩; obtain ⟨hc, hf⟩ := Flow.bcell hb; have hz := hb.size; (try simp only [World.size_alloc, World.size_setCell, World.size_drew] at hz); obtain ⟨z0, z1, z2, z3, z4, z5, z6, z7, z8⟩ := Flow.zs9 (show w.heap.size + 9 ≤ w1.heap.size by omega))
    rw [rounds_succ]
    go_wp2_with (go_at_call 41; refine (is_c _ _ _).mono ?_; rintro e w1 ⟨rfl, hb⟩; obtain ⟨hc, hf⟩ := Flow.bcell hb; have hz := hb.size; (try simp only [World.size_alloc, World.size_setCell, World.size_drew] at hz); obtain ⟨z0, z1, z2, z3, z4, z5, z6, z7, z8⟩ := Flow.zs9 (show w.heap.size + 9 ≤ w1.heap.size by omega))
    rw [rounds_succ]
    go_wp2_with (go_at_call 41; refine (is_c _ _ _).mono ?_; rintro e w1 ⟨rfl, hb⟩; obtain ⟨hc, hf⟩ := Flow.bcell hb; have hz := hb.size; (try simp only [World.size_alloc, World.size_setCell, World.size_drew] at hz); obtain ⟨z0, z1, z2, z3, z4, z5, z6, z7, z8⟩ := Flow.zs9 (show w.heap.size + 9 ≤ w1.heap.size by omega))
    refine Flow.wp_region_below 7 (by kernel_rfl) (by kernel_rfl) (fun R hRc hRt => ?_)
    simp only [List.take_succ_cons, List.take_zero, List.drop_succ_cons, List.drop_zero]
    iterate 7
      first
        | refine Flow.flow_skip rfl ?_
        | (apply Flow.flow_step; rfl; (intro w1 hb; have hc := hRc.out w1 hb; go_simp; (first | with_reducible exact ⟨rfl, hb⟩ | (go_at_call 67; refine (xor_c _ _ _).mono ?_; rintro e w2 ⟨rfl, hb2⟩; exact ⟨_, rfl, rfl, hRt.out _ _ hb hb2⟩) | (go_at_call 68; refine (or_c _ _ _).mono ?_; rintro e w2 ⟨rfl, hb2⟩; exact ⟨_, rfl, rfl, hRt.out _ _ hb hb2⟩))))
      simp only [Act.put, List.setIfInBounds_toArray, List.set_cons_zero, List.set_cons_succ]
    apply Flow.flow_nil
    clear hRc hRt
    intro w1 hb
    obtain ⟨hc, hf⟩ := Flow.bcell hb
    have hz := hb.size
    (try simp only [World.size_alloc, World.size_setCell, World.size_drew] at hz)
    obtain ⟨z0, z1, z2, z3, z4, z5, z6, z7, z8⟩ := Flow.zs9 (show w.heap.size + 9 ≤ w1.heap.size by omega)
    go_wp2_with fail
    all_goals (refine Flow.bodyPost_k rfl (fun K hK => ?_); simp only [results, Tryz.results32]; go_simp; refine hK _ ⟨?_, ?_⟩)
    · exact ret_pair HV.out
    · (repeat (first | exact Below.refl _ _ | refine Below.setCell ?_ (by first | omega | (simp <;> omega)) _ | refine Below.alloc ?_ (by first | omega | (simp <;> omega)) _ | refine Below.drew ?_ | refine Below.trans ?_ (Below.mono (by assumption) (by first | omega | (simp <;> omega)))))
end Go.Proofs.YtboknfppecgjmaaGreat
