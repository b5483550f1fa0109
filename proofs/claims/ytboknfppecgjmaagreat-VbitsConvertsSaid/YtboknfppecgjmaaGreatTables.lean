/- The tables of rules, and the unary lanes. -/
import Derived.Test.YtboknfppecgjmaaGreatShuf
import Derived.Laws.EntriesVeiled
import Derived.Deep.WholeRow
import Derived.Test.YtboknfppecgjmaaGreatMask
namespace Go.Proofs.YtboknfppecgjmaaGreat
set_option linter.unusedVariables false
set_option linter.unusedSimpArgs false
open Go.RowKit Go.Shelf
attribute [local go_sem] U_eq_zero run_store_nilFunc run_store_func
set_option maxHeartbeats 1000000 in
theorem un_lanes_c (u : Vb.Unary) (width : Nat) (hw : width = 8 ∨ width = 16 ∨ width = 32) (w : World) : Calls Tryz.prog 135 #[unv u, iv (width : Nat)] w fun e w' => e = .returned (vv (u.lanes width)) ∧ Below w.heap.size w w' := by
  go_enter Tryz.func135, Tryz.ntmps135
  go_wp2_with (go_at_call 138; refine (each_c width hw _ _ V.zero V.zero 143 Vb.unLane (enters_of Tryz.func143 (by kernel_rfl) rfl) unLane_c _).mono ?_; rintro e w1 ⟨rfl, hb⟩; obtain ⟨hc, hf⟩ := Flow.bcell hb; have hz := hb.size; (try simp only [World.size_alloc, World.size_setCell, World.size_drew] at hz); obtain ⟨z0, z1⟩ := Flow.zs2 (show w.heap.size + 2 ≤ w1.heap.size by omega))
  refine Flow.bodyPost_k rfl (fun K hK => ?_)
  simp only [results, Tryz.results135]
  go_simp
  refine hK _ ⟨?_, ?_⟩
  · rfl
  · (repeat (first | exact Below.refl _ _ | refine Below.setCell ?_ (by first | omega | (simp <;> omega)) _ | refine Below.alloc ?_ (by first | omega | (simp <;> omega)) _ | refine Below.drew ?_ | refine Below.trans ?_ (Below.mono (by assumption) (by first | omega | (simp <;> omega)))))
set_option maxHeartbeats 1000000 in
theorem un_lanes8_c (u : Vb.Unary) (w : World) : Calls Tryz.prog 88 #[unv u] w fun e w' => e = .returned (vv (u.lanes 8)) ∧ Below w.heap.size w w' := by
  go_enter Tryz.func88, Tryz.ntmps88
  go_wp2_with (go_at_call 135; refine (un_lanes_c _ 8 (.inl rfl) _ ).mono ?_; rintro e w1 ⟨rfl, hb⟩; obtain ⟨hc, hf⟩ := Flow.bcell hb; have hz := hb.size; (try simp only [World.size_alloc, World.size_setCell, World.size_drew] at hz); obtain ⟨z0, z1⟩ := Flow.zs2 (show w.heap.size + 2 ≤ w1.heap.size by omega))
  refine Flow.bodyPost_k rfl (fun K hK => ?_)
  simp only [results, Tryz.results88]
  go_simp
  refine hK _ ⟨?_, ?_⟩
  · rfl
  · (repeat (first | exact Below.refl _ _ | refine Below.setCell ?_ (by first | omega | (simp <;> omega)) _ | refine Below.alloc ?_ (by first | omega | (simp <;> omega)) _ | refine Below.drew ?_ | refine Below.trans ?_ (Below.mono (by assumption) (by first | omega | (simp <;> omega)))))
set_option maxHeartbeats 1000000 in
theorem un_lanes16_c (u : Vb.Unary) (w : World) : Calls Tryz.prog 89 #[unv u] w fun e w' => e = .returned (vv (u.lanes 16)) ∧ Below w.heap.size w w' := by
  go_enter Tryz.func89, Tryz.ntmps89
  go_wp2_with (go_at_call 135; refine (un_lanes_c _ 16 (.inr (.inl rfl)) _ ).mono ?_; rintro e w1 ⟨rfl, hb⟩; obtain ⟨hc, hf⟩ := Flow.bcell hb; have hz := hb.size; (try simp only [World.size_alloc, World.size_setCell, World.size_drew] at hz); obtain ⟨z0, z1⟩ := Flow.zs2 (show w.heap.size + 2 ≤ w1.heap.size by omega))
  refine Flow.bodyPost_k rfl (fun K hK => ?_)
  simp only [results, Tryz.results89]
  go_simp
  refine hK _ ⟨?_, ?_⟩
  · rfl
  · (repeat (first | exact Below.refl _ _ | refine Below.setCell ?_ (by first | omega | (simp <;> omega)) _ | refine Below.alloc ?_ (by first | omega | (simp <;> omega)) _ | refine Below.drew ?_ | refine Below.trans ?_ (Below.mono (by assumption) (by first | omega | (simp <;> omega)))))
set_option maxHeartbeats 1000000 in
theorem un_lanes32_c (u : Vb.Unary) (w : World) : Calls Tryz.prog 90 #[unv u] w fun e w' => e = .returned (vv (u.lanes 32)) ∧ Below w.heap.size w w' := by
  go_enter Tryz.func90, Tryz.ntmps90
  go_wp2_with (go_at_call 135; refine (un_lanes_c _ 32 (.inr (.inr rfl)) _ ).mono ?_; rintro e w1 ⟨rfl, hb⟩; obtain ⟨hc, hf⟩ := Flow.bcell hb; have hz := hb.size; (try simp only [World.size_alloc, World.size_setCell, World.size_drew] at hz); obtain ⟨z0, z1⟩ := Flow.zs2 (show w.heap.size + 2 ≤ w1.heap.size by omega))
  refine Flow.bodyPost_k rfl (fun K hK => ?_)
  simp only [results, Tryz.results90]
  go_simp
  refine hK _ ⟨?_, ?_⟩
  · rfl
  · (repeat (first | exact Below.refl _ _ | refine Below.setCell ?_ (by first | omega | (simp <;> omega)) _ | refine Below.alloc ?_ (by first | omega | (simp <;> omega)) _ | refine Below.drew ?_ | refine Below.trans ?_ (Below.mono (by assumption) (by first | omega | (simp <;> omega)))))
/-- The rules' functions, by their numbers. -/
def unTable : Array Value := #[.nilFunc, .func (.func 82) #[] #[], .func (.func 83) #[] #[], .func (.func 84) #[] #[], .func (.func 83) #[] #[],
  .func (.func 85) #[] #[], .func (.func 86) #[] #[], .func (.func 87) #[] #[], .func (.func 88) #[] #[], .func (.func 89) #[] #[],
  .func (.func 90) #[] #[], .func (.func 91) #[] #[], .func (.func 92) #[] #[], .func (.func 93) #[] #[]]
set_option maxHeartbeats 1000000 in
theorem unaries_c (w : World) : Calls Tryz.prog 42 #[] w fun e w' => e = .returned (.agg unTable) ∧ Below w.heap.size w w' := by
  go_enter Tryz.func42, Tryz.ntmps42
  go_wp2
  refine Flow.bodyPost_k rfl (fun K hK => ?_)
  simp only [results, Tryz.results42]
  go_simp
  refine hK _ ⟨?_, ?_⟩
  · rfl
  · (repeat (first | exact Below.refl _ _ | refine Below.setCell ?_ (by first | omega | (simp <;> omega)) _ | refine Below.alloc ?_ (by first | omega | (simp <;> omega)) _ | refine Below.drew ?_ | refine Below.trans ?_ (Below.mono (by assumption) (by first | omega | (simp <;> omega)))))
end Go.Proofs.YtboknfppecgjmaaGreat
