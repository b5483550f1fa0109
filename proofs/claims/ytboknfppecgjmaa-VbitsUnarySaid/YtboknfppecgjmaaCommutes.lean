/- VbitsCommutes: the walk. -/
import Derived.Test.YtboknfppecgjmaaLaw
import Derived.Test.YtboknfppecgjmaaPlainB
namespace Go.Proofs.Ytboknfppecgjmaa
set_option linter.unusedVariables false
set_option linter.unusedSimpArgs false
open Go.RowKit Go.Shelf
/-- What sane gives. -/
abbrev SaneC : Prop := ∀ w, Calls Try.prog 11 #[] w fun e w' => e = .returned (.bool true) ∧ Below w.heap.size w w'
set_option maxHeartbeats 1000000 in
theorem commutes_c (op : Int) (w : World) : Calls Try.prog 24 #[iv op] w fun e w' => e = .returned (.bool (commutes op)) ∧ w' = w := by
  go_enter Try.func24, Try.ntmps24
  go_wp2
  all_goals go_ret
  all_goals (refine ⟨?_, rfl⟩)
  all_goals (go_tidy; simp_all [commutes])
abbrev BinC (op ty off : Int) (x a y b s : V) (n : Int) : Prop := ∀ w, Calls Try.prog 25 #[iv op, iv ty, iv off, vv x, vv a, vv y, vv b] w fun e w' => e = .returned (.tuple #[vv s, iv n]) ∧ Below w.heap.size w w'
theorem bin_gives {op ty off : Int} {x a y b s : V} {n : Int} (h : Vb.bin op ty off x a y b = (s, n)) : BinC op ty off x a y b s n := by
  intro w
  have h2 := bin_c op ty off x a y b w
  rw [h] at h2
  exact h2
set_option maxHeartbeats 2000000 in
theorem vcommutes_w (HS : Hid SaneC) (op ty : Int) (x a y b s : V) (n : Int) (hc : commutes op = true) (H1 : Hid (BinC op ty 0 x a y b s n)) (H2 : Hid (BinC op ty 0 y b x a s n)) (w : World) :
    Calls Try.prog 6 #[iv op, iv ty, vv x, vv a, vv y, vv b] w fun e w' => e = .returned (.bool true) ∧ Below w.heap.size w w' := by
  go_enter Try.func6, Try.ntmps6
  go_wp2_with (first | (go_at_call 11; refine (HS.out _ ).mono ?_; rintro e w1 ⟨rfl, hb⟩; obtain ⟨hc, hf⟩ := Flow.bcell hb; have hz := hb.size; (try simp only [World.size_alloc, World.size_setCell, World.size_drew] at hz); obtain ⟨z0, z1, z2, z3⟩ := Flow.zs4 (show w.heap.size + 4 ≤ w1.heap.size by omega)) | (go_at_call 24; refine (commutes_c _ _).mono ?_; rintro e w1 ⟨rfl, rfl⟩))
  (refine (H1.out _ ).mono ?_; rintro e u1 ⟨rfl, hb⟩; obtain ⟨hc, hf⟩ := Flow.bcell hb; have hz := hb.size; (try simp only [World.size_alloc, World.size_setCell, World.size_drew] at hz); obtain ⟨z0, z1, z2, z3⟩ := Flow.zs4 (show w.heap.size + 4 ≤ u1.heap.size by omega))
  go_wp2_with fail
  (refine (H2.out _ ).mono ?_; rintro e u2 ⟨rfl, hb⟩; obtain ⟨hc, hf⟩ := Flow.bcell hb; have hz := hb.size; (try simp only [World.size_alloc, World.size_setCell, World.size_drew] at hz); obtain ⟨z0, z1, z2, z3⟩ := Flow.zs4 (show w.heap.size + 4 ≤ u2.heap.size by omega))
  have hl : u1.heap.size < u2.heap.size := by omega
  go_wp2_with fail
  go_ret
  exact ⟨rfl, by (repeat (first | exact Below.refl _ _ | refine Below.setCell ?_ (by first | omega | (simp <;> omega)) _ | refine Below.alloc ?_ (by first | omega | (simp <;> omega)) _ | refine Below.drew ?_ | refine Below.trans ?_ (Below.mono (by assumption) (by first | omega | (simp <;> omega)))))⟩
set_option maxHeartbeats 2000000 in
theorem vcommutes_n (HS : Hid SaneC) (op ty : Int) (x a y b : V) (hc : commutes op = false) (w : World) :
    Calls Try.prog 6 #[iv op, iv ty, vv x, vv a, vv y, vv b] w fun e w' => e = .returned (.bool true) ∧ Below w.heap.size w w' := by
  go_enter Try.func6, Try.ntmps6
  go_wp2_with (first | (go_at_call 11; refine (HS.out _ ).mono ?_; rintro e w1 ⟨rfl, hb⟩; obtain ⟨hc, hf⟩ := Flow.bcell hb; have hz := hb.size; (try simp only [World.size_alloc, World.size_setCell, World.size_drew] at hz); obtain ⟨z0, z1, z2, z3⟩ := Flow.zs4 (show w.heap.size + 4 ≤ w1.heap.size by omega)) | (go_at_call 24; refine (commutes_c _ _).mono ?_; rintro e w1 ⟨rfl, rfl⟩))
  go_ret
  exact ⟨rfl, by (repeat (first | exact Below.refl _ _ | refine Below.setCell ?_ (by first | omega | (simp <;> omega)) _ | refine Below.alloc ?_ (by first | omega | (simp <;> omega)) _ | refine Below.drew ?_ | refine Below.trans ?_ (Below.mono (by assumption) (by first | omega | (simp <;> omega)))))⟩
theorem vcommutes_c (HS : Hid SaneC) (op ty : Int) (x a y b : V) (w : World) :
    Calls Try.prog 6 #[iv op, iv ty, vv x, vv a, vv y, vv b] w fun e w' => e = .returned (.bool true) ∧ Below w.heap.size w w' := by
  cases hc : commutes op
  · exact vcommutes_n HS op ty x a y b hc w
  · exact vcommutes_w HS op ty x a y b _ _ hc (bin_gives rfl) (bin_gives (bin_comm hc ty x a y b).symm) w
end Go.Proofs.Ytboknfppecgjmaa
