/- Which binary expressions there are, by the reference candlingref10: walked. -/
import Derived.Test.YtboknfppecgjmaaGreatExWalk
namespace Go.Proofs.YtboknfppecgjmaaGreat
set_option linter.unusedVariables false
set_option linter.unusedSimpArgs false
open Go.RowKit Go.Shelf
set_option maxRecDepth 100000 in
set_option maxHeartbeats 16000000 in
theorem rbinary_c (op to p q : Int) (b off cap : Nat) (w : World) (c0 : w.cell? ⟨b, off, none⟩ = some (iv p)) (c1 : w.cell? ⟨b, off + 1, none⟩ = some (iv q)) :
    Calls Tryz.prog 73 #[iv op, .slice (some ⟨b, off, none⟩) 2 cap, iv to] w fun e w' => e = .returned (.bool (Rf.binary op p q to)) ∧ Below w.heap.size w w' := by
  have l0 := block_lt_of_cell c0
  simp only [] at l0
  go_enter Tryz.func73, Tryz.ntmps73
  go_wp2_with fail
  (refine (are2_c p q 32 32 b off cap _ 0 _ _ (by go_simp) (by go_simp) (by go_simp) (by go_simp) ).mono ?_; rintro e u1 ⟨rfl, hb⟩; obtain ⟨hc, hf⟩ := Flow.bcell hb; have hz := hb.size; (try simp only [World.size_alloc, World.size_setCell, World.size_drew] at hz))
  have l1 := Nat.lt_of_lt_of_le l0 (show w.heap.size ≤ u1.heap.size by omega)
  go_wp2_with fail
  (refine (are2_c p q 128 128 b off cap _ 0 _ _ (by go_simp) (by go_simp) (by go_simp) (by go_simp) ).mono ?_; rintro e u2 ⟨rfl, hb⟩; obtain ⟨hc, hf⟩ := Flow.bcell hb; have hz := hb.size; (try simp only [World.size_alloc, World.size_setCell, World.size_drew] at hz))
  have l2 := Nat.lt_of_lt_of_le l1 (show u1.heap.size ≤ u2.heap.size by omega)
  go_wp2_with (first | (go_at_call 76; refine (same2_c p q b off cap _ (by go_simp) (by go_simp) ).mono ?_; rintro e w1 ⟨rfl, hb⟩; obtain ⟨hc, hf⟩ := Flow.bcell hb; have hz := hb.size; (try simp only [World.size_alloc, World.size_setCell, World.size_drew] at hz)) | (go_at_call 74; refine (are2_c p q 128 32 b off cap _ 0 _ _ (by go_simp) (by go_simp) (by go_simp) (by go_simp) ).mono ?_; rintro e w1 ⟨rfl, hb⟩; obtain ⟨hc, hf⟩ := Flow.bcell hb; have hz := hb.size; (try simp only [World.size_alloc, World.size_setCell, World.size_drew] at hz)))
  all_goals go_ret
  all_goals (refine ⟨?_, by (repeat (first | exact Below.refl _ _ | refine Below.setCell ?_ (by first | omega | (simp <;> omega)) _ | refine Below.alloc ?_ (by first | omega | (simp <;> omega)) _ | refine Below.drew ?_ | refine Below.trans ?_ (Below.mono (by assumption) (by first | omega | (simp <;> omega)))))⟩)
  all_goals (go_tidy; first | (simp_all [Rf.binary]; done) | (simp_all [Rf.binary]; first | omega | grind))
end Go.Proofs.YtboknfppecgjmaaGreat
