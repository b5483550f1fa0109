/- The tables of rules, and the unary lanes. -/
import Derived.Test.YtboknfppecgjmaaShuf
import Derived.Laws.EntriesVeiled
import Derived.Deep.WholeRow
import Derived.Test.YtboknfppecgjmaaMask
namespace Go.Proofs.Ytboknfppecgjmaa
set_option linter.unusedVariables false
set_option linter.unusedSimpArgs false
open Go.RowKit Go.Shelf
attribute [local go_sem] U_eq_zero run_store_nilFunc run_store_func
set_option maxHeartbeats 1000000 in
theorem un_lanes_c (u : Vb.Unary) (width : Nat) (hw : width = 8 ∨ width = 16 ∨ width = 32) (w : World) : Calls Try.prog 113 #[unv u, iv (width : Nat)] w fun e w' => e = .returned (vv (u.lanes width)) ∧ Below w.heap.size w w' := by
  go_enter Try.func113, Try.ntmps113
  go_wp2_with (go_at_call 108; refine (each_c width hw _ _ V.zero V.zero 117 Vb.unLane (enters_of Try.func117 (by kernel_rfl) rfl) unLane_c _).mono ?_; rintro e w1 ⟨rfl, hb⟩; obtain ⟨hc, hf⟩ := Flow.bcell hb; have hz := hb.size; (try simp only [World.size_alloc, World.size_setCell, World.size_drew] at hz); obtain ⟨z0, z1⟩ := Flow.zs2 (show w.heap.size + 2 ≤ w1.heap.size by omega))
  refine Flow.bodyPost_k rfl (fun K hK => ?_)
  simp only [results, Try.results113]
  go_simp
  refine hK _ ⟨?_, ?_⟩
  · rfl
  · (repeat (first | exact Below.refl _ _ | refine Below.setCell ?_ (by first | omega | (simp <;> omega)) _ | refine Below.alloc ?_ (by first | omega | (simp <;> omega)) _ | refine Below.drew ?_ | refine Below.trans ?_ (Below.mono (by assumption) (by first | omega | (simp <;> omega)))))
set_option maxHeartbeats 1000000 in
theorem un_lanes8_c (u : Vb.Unary) (w : World) : Calls Try.prog 88 #[unv u] w fun e w' => e = .returned (vv (u.lanes 8)) ∧ Below w.heap.size w w' := by
  go_enter Try.func88, Try.ntmps88
  go_wp2_with (go_at_call 113; refine (un_lanes_c _ 8 (.inl rfl) _ ).mono ?_; rintro e w1 ⟨rfl, hb⟩; obtain ⟨hc, hf⟩ := Flow.bcell hb; have hz := hb.size; (try simp only [World.size_alloc, World.size_setCell, World.size_drew] at hz); obtain ⟨z0, z1⟩ := Flow.zs2 (show w.heap.size + 2 ≤ w1.heap.size by omega))
  refine Flow.bodyPost_k rfl (fun K hK => ?_)
  simp only [results, Try.results88]
  go_simp
  refine hK _ ⟨?_, ?_⟩
  · rfl
  · (repeat (first | exact Below.refl _ _ | refine Below.setCell ?_ (by first | omega | (simp <;> omega)) _ | refine Below.alloc ?_ (by first | omega | (simp <;> omega)) _ | refine Below.drew ?_ | refine Below.trans ?_ (Below.mono (by assumption) (by first | omega | (simp <;> omega)))))
set_option maxHeartbeats 1000000 in
theorem un_lanes16_c (u : Vb.Unary) (w : World) : Calls Try.prog 89 #[unv u] w fun e w' => e = .returned (vv (u.lanes 16)) ∧ Below w.heap.size w w' := by
  go_enter Try.func89, Try.ntmps89
  go_wp2_with (go_at_call 113; refine (un_lanes_c _ 16 (.inr (.inl rfl)) _ ).mono ?_; rintro e w1 ⟨rfl, hb⟩; obtain ⟨hc, hf⟩ := Flow.bcell hb; have hz := hb.size; (try simp only [World.size_alloc, World.size_setCell, World.size_drew] at hz); obtain ⟨z0, z1⟩ := Flow.zs2 (show w.heap.size + 2 ≤ w1.heap.size by omega))
  refine Flow.bodyPost_k rfl (fun K hK => ?_)
  simp only [results, Try.results89]
  go_simp
  refine hK _ ⟨?_, ?_⟩
  · rfl
  · (repeat (first | exact Below.refl _ _ | refine Below.setCell ?_ (by first | omega | (simp <;> omega)) _ | refine Below.alloc ?_ (by first | omega | (simp <;> omega)) _ | refine Below.drew ?_ | refine Below.trans ?_ (Below.mono (by assumption) (by first | omega | (simp <;> omega)))))
set_option maxHeartbeats 1000000 in
theorem un_lanes32_c (u : Vb.Unary) (w : World) : Calls Try.prog 90 #[unv u] w fun e w' => e = .returned (vv (u.lanes 32)) ∧ Below w.heap.size w w' := by
  go_enter Try.func90, Try.ntmps90
  go_wp2_with (go_at_call 113; refine (un_lanes_c _ 32 (.inr (.inr rfl)) _ ).mono ?_; rintro e w1 ⟨rfl, hb⟩; obtain ⟨hc, hf⟩ := Flow.bcell hb; have hz := hb.size; (try simp only [World.size_alloc, World.size_setCell, World.size_drew] at hz); obtain ⟨z0, z1⟩ := Flow.zs2 (show w.heap.size + 2 ≤ w1.heap.size by omega))
  refine Flow.bodyPost_k rfl (fun K hK => ?_)
  simp only [results, Try.results90]
  go_simp
  refine hK _ ⟨?_, ?_⟩
  · rfl
  · (repeat (first | exact Below.refl _ _ | refine Below.setCell ?_ (by first | omega | (simp <;> omega)) _ | refine Below.alloc ?_ (by first | omega | (simp <;> omega)) _ | refine Below.drew ?_ | refine Below.trans ?_ (Below.mono (by assumption) (by first | omega | (simp <;> omega)))))
/-- The rules' functions, by their numbers. -/
def unTable : Array Value := #[.nilFunc, .func (.func 82) #[] #[], .func (.func 83) #[] #[], .func (.func 84) #[] #[], .func (.func 83) #[] #[],
  .func (.func 85) #[] #[], .func (.func 86) #[] #[], .func (.func 87) #[] #[], .func (.func 88) #[] #[], .func (.func 89) #[] #[],
  .func (.func 90) #[] #[], .func (.func 91) #[] #[], .func (.func 92) #[] #[], .func (.func 93) #[] #[]]
set_option maxHeartbeats 1000000 in
theorem unaries_c (w : World) : Calls Try.prog 50 #[] w fun e w' => e = .returned (.agg unTable) ∧ Below w.heap.size w w' := by
  go_enter Try.func50, Try.ntmps50
  go_wp2
  refine Flow.bodyPost_k rfl (fun K hK => ?_)
  simp only [results, Try.results50]
  go_simp
  refine hK _ ⟨?_, ?_⟩
  · rfl
  · (repeat (first | exact Below.refl _ _ | refine Below.setCell ?_ (by first | omega | (simp <;> omega)) _ | refine Below.alloc ?_ (by first | omega | (simp <;> omega)) _ | refine Below.drew ?_ | refine Below.trans ?_ (Below.mono (by assumption) (by first | omega | (simp <;> omega)))))
end Go.Proofs.Ytboknfppecgjmaa
