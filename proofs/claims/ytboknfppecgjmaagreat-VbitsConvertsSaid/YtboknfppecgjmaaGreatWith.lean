/- 'with': a word of each of two vectors into one, whatever the function. -/
import Derived.Test.YtboknfppecgjmaaGreatLeaf
namespace Go.Proofs.YtboknfppecgjmaaGreat
set_option linter.unusedVariables false
set_option linter.unusedSimpArgs false
open Go.RowKit Go.Shelf
set_option maxHeartbeats 2000000 in
theorem with_c (g : Nat) (h : BitVec 32 → BitVec 32 → BitVec 32) (hcf : ∀ args w, (callFunc g args).run Tryz.prog w = .ok (.enter g args) w)
    (hg : ∀ x y w, Calls Tryz.prog g #[uv x, uv y] w fun e w' => e = .returned (uv (h x y)) ∧ w' = w) (x y : V) (w : World) :
    Calls Tryz.prog 126 #[vv x, vv y, .func (.func g) #[] #[]] w fun e w' => e = .returned (vv (V.map2 h x y)) ∧ Below w.heap.size w w' := by
  have H := Lib.hid hg
  clear hg
  go_enter Tryz.func126, Tryz.ntmps126
  go_wp2_with fail
  refine wp_loop_rounds 5 ?_
  iterate 4
    rw [rounds_succ]
    go_wp2_with fail
    refine Flow.wp_region_below 9 (by kernel_rfl) (by kernel_rfl) (fun R hRc hRt => ?_)
    simp only [List.take_succ_cons, List.take_zero, List.drop_succ_cons, List.drop_zero]
    iterate 9
      first
        | refine Flow.flow_skip rfl ?_
        | (apply Flow.flow_step; rfl; (intro w1 hb; have hc := hRc.out w1 hb; go_simp; (first | with_reducible exact ⟨rfl, hb⟩ | (refine (H.out _ _ _).mono ?_; rintro e w2 ⟨rfl, rfl⟩; exact ⟨_, rfl, rfl, hb⟩))))
      simp only [Act.put, List.setIfInBounds_toArray, List.set_cons_zero, List.set_cons_succ]
    apply Flow.flow_nil
    clear hRc hRt
    intro w1 hb
    obtain ⟨hc, hf⟩ := Flow.bcell hb
    have hz := hb.size
    (try simp only [World.size_alloc, World.size_setCell, World.size_drew] at hz)
    obtain ⟨z0, z1, z2, z3⟩ := Flow.zs4 (show w.heap.size + 4 ≤ w1.heap.size by omega)
    go_wp2_with fail
  rw [rounds_succ]
  go_wp2_with fail
  refine Flow.bodyPost_k rfl (fun K hK => ?_)
  simp only [results, Tryz.results126]
  go_simp
  refine hK _ ⟨?_, ?_⟩
  · rfl
  · (repeat (first | exact Below.refl _ _ | refine Below.setCell ?_ (by first | omega | (simp <;> omega)) _ | refine Below.alloc ?_ (by first | omega | (simp <;> omega)) _ | refine Below.drew ?_ | refine Below.trans ?_ (Below.mono (by assumption) (by first | omega | (simp <;> omega)))))
end Go.Proofs.YtboknfppecgjmaaGreat
