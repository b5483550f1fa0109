/- Which operations there are: isUn, second. -/
import Derived.Test.YtboknfppecgjmaaGreatVec
import Derived.Test.YtboknfppecgjmaaGreatFlowG
namespace Go.Proofs.YtboknfppecgjmaaGreat
set_option linter.unusedVariables false
set_option linter.unusedSimpArgs false
open Go.RowKit Go.Shelf

set_option maxHeartbeats 4000000 in
theorem second_c (op ty off : Int) (w : World) : Calls Tryz.prog 51 #[iv op, iv ty, iv off] w fun e w' => e = .returned (iv (Vb.second op ty off)) ∧ Below w.heap.size w w' := by
  go_enter Tryz.func51, Tryz.ntmps51
  go_wp2_with (go_at_call 79; refine (isType_c _ _).mono ?_; rintro e w1 ⟨rfl, hb⟩; obtain ⟨hc, hf⟩ := Flow.bcell hb; have hz := hb.size; (try simp only [World.size_alloc, World.size_setCell, World.size_drew] at hz))
  all_goals go_ret
  all_goals (refine ⟨?_, by (repeat (first | exact Below.refl _ _ | refine Below.setCell ?_ (by first | omega | (simp <;> omega)) _ | refine Below.alloc ?_ (by first | omega | (simp <;> omega)) _ | refine Below.drew ?_ | refine Below.trans ?_ (Below.mono (by assumption) (by first | omega | (simp <;> omega)))))⟩)
  all_goals (go_tidy; first | (simp_all [Vb.second]; done) | (simp_all [Vb.second]; first | omega | grind))
set_option maxHeartbeats 4000000 in
theorem isUn_c (op from_ to off : Int) (w : World) : Calls Tryz.prog 40 #[iv op, iv from_, iv to, iv off] w fun e w' => e = .returned (.bool (Vb.isUn op from_ to off)) ∧ Below w.heap.size w w' := by
  go_enter Tryz.func40, Tryz.ntmps40
  go_wp2_with (go_at_call 79; refine (isType_c _ _).mono ?_; rintro e w1 ⟨rfl, hb⟩; obtain ⟨hc, hf⟩ := Flow.bcell hb; have hz := hb.size; (try simp only [World.size_alloc, World.size_setCell, World.size_drew] at hz))
  all_goals go_ret
  all_goals (refine ⟨?_, by (repeat (first | exact Below.refl _ _ | refine Below.setCell ?_ (by first | omega | (simp <;> omega)) _ | refine Below.alloc ?_ (by first | omega | (simp <;> omega)) _ | refine Below.drew ?_ | refine Below.trans ?_ (Below.mono (by assumption) (by first | omega | (simp <;> omega)))))⟩)
  all_goals (go_tidy; first | (simp_all [Vb.isUn]; done) | (simp_all [Vb.isUn]; omega))
end Go.Proofs.YtboknfppecgjmaaGreat
