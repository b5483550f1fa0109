/- Two rules of unary operations with a computed place. -/
import Derived.Test.YtboknfppecgjmaaGreatUnary
namespace Go.Proofs.YtboknfppecgjmaaGreat
set_option linter.unusedVariables false
set_option linter.unusedSimpArgs false
open Go.RowKit Go.Shelf

set_option maxHeartbeats 1000000 in
theorem un_word_c (u : Vb.Unary) (h0 : 0 ≤ u.off) (h3 : u.off ≤ 3) (w : World) : Calls Tryz.prog 92 #[unv u] w fun e w' => e = .returned (vv u.word) ∧ Below w.heap.size w w' := by
  have hcs : u.off = 0 ∨ u.off = 1 ∨ u.off = 2 ∨ u.off = 3 := by omega
  clear h0 h3
  obtain ⟨x, a, from_, to, off⟩ := u
  simp only at hcs
  rcases hcs with rfl | rfl | rfl | rfl
  all_goals
    go_enter Tryz.func92, Tryz.ntmps92
    go_wp2_with (go_at_call 132; refine (word_c _ _).mono ?_; rintro e w1 ⟨rfl, hb⟩; obtain ⟨hc, hf⟩ := Flow.bcell hb; have hz := hb.size; (try simp only [World.size_alloc, World.size_setCell, World.size_drew] at hz); obtain ⟨z0, z1⟩ := Flow.zs2 (show w.heap.size + 2 ≤ w1.heap.size by omega))
    refine Flow.bodyPost_k rfl (fun K hK => ?_)
    simp only [results, Tryz.results92]
    go_simp
    refine hK _ ⟨?_, ?_⟩
    · rfl
    · (repeat (first | exact Below.refl _ _ | refine Below.setCell ?_ (by first | omega | (simp <;> omega)) _ | refine Below.alloc ?_ (by first | omega | (simp <;> omega)) _ | refine Below.drew ?_ | refine Below.trans ?_ (Below.mono (by assumption) (by first | omega | (simp <;> omega)))))
set_option maxHeartbeats 4000000 in
theorem un_mask_c (u : Vb.Unary) (w : World) : Calls Tryz.prog 93 #[unv u] w fun e w' => e = .returned (vv u.mask) ∧ Below w.heap.size w w' := by
  go_enter Tryz.func93, Tryz.ntmps93
  go_wp2
  refine wp_loop_rounds 17 ?_
  iterate 16
    rw [rounds_succ]
    go_wp2
  rw [rounds_succ]
  go_wp2_with (go_at_call 132; refine (word_c _ _).mono ?_; rintro e w1 ⟨rfl, hb⟩; obtain ⟨hc, hf⟩ := Flow.bcell hb; have hz := hb.size; (try simp only [World.size_alloc, World.size_setCell, World.size_drew] at hz); obtain ⟨z0, z1⟩ := Flow.zs2 (show w.heap.size + 2 ≤ w1.heap.size by omega))
  refine Flow.bodyPost_k rfl (fun K hK => ?_)
  simp only [results, Tryz.results93]
  go_simp
  refine hK _ ⟨?_, ?_⟩
  · exact ret_vv (x := V.word _) (congrArg V.word (by simp [Vb.maskTo, V.get]))
  · (repeat (first | exact Below.refl _ _ | refine Below.setCell ?_ (by first | omega | (simp <;> omega)) _ | refine Below.alloc ?_ (by first | omega | (simp <;> omega)) _ | refine Below.drew ?_ | refine Below.trans ?_ (Below.mono (by assumption) (by first | omega | (simp <;> omega)))))
end Go.Proofs.YtboknfppecgjmaaGreat
