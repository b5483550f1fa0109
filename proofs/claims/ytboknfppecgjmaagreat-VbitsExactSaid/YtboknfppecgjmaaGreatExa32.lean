/- Part 32 of the proof's texts: ExactFn. -/
import Derived.Test.YtboknfppecgjmaaGreatExa9
import Derived.Test.YtboknfppecgjmaaGreatExa21
set_option maxHeartbeats 16000000
namespace Go.Proofs.YtboknfppecgjmaaGreat
set_option linter.unusedVariables false
set_option linter.unusedSimpArgs false
open Go.RowKit Go.Shelf
def lowV : V := ⟨252645135#32, 252645135#32, 252645135#32, 252645135#32⟩
def Vb.exact (op : Int) (b : V) : Bool :=
  if op = 3 ∨ op = 4 ∨ op = 5 ∨ op = 6 ∨ op = 7 then false
  else if op = 11 ∨ op = 12 ∨ op = 13 then decide (b.a &&& 31#32 = 0#32)
  else if op = 29 then (b.and lowV).isZero
  else decide (1 ≤ op) && decide (op ≤ 30)
set_option maxRecDepth 100000 in
theorem vexact3_c (b : V) (w : World) : Calls Tryz.prog 24 #[iv (3 : Int), vv b] w fun e w' => e = .returned (.bool (false)) ∧ Below w.heap.size w w' := by
  go_enter Tryz.func24, Tryz.ntmps24
  go_wp2_with fail
  go_ret
  exact ⟨rfl, by (repeat (first | exact Below.refl _ _ | refine Below.setCell ?_ (by first | omega | (simp <;> omega)) _ | refine Below.alloc ?_ (by first | omega | (simp <;> omega)) _ | refine Below.drew ?_ | refine Below.trans ?_ (Below.mono (by assumption) (by first | omega | (simp <;> omega)))))⟩
set_option maxRecDepth 100000 in
theorem vexact4_c (b : V) (w : World) : Calls Tryz.prog 24 #[iv (4 : Int), vv b] w fun e w' => e = .returned (.bool (false)) ∧ Below w.heap.size w w' := by
  go_enter Tryz.func24, Tryz.ntmps24
  go_wp2_with fail
  go_ret
  exact ⟨rfl, by (repeat (first | exact Below.refl _ _ | refine Below.setCell ?_ (by first | omega | (simp <;> omega)) _ | refine Below.alloc ?_ (by first | omega | (simp <;> omega)) _ | refine Below.drew ?_ | refine Below.trans ?_ (Below.mono (by assumption) (by first | omega | (simp <;> omega)))))⟩
set_option maxRecDepth 100000 in
theorem vexact5_c (b : V) (w : World) : Calls Tryz.prog 24 #[iv (5 : Int), vv b] w fun e w' => e = .returned (.bool (false)) ∧ Below w.heap.size w w' := by
  go_enter Tryz.func24, Tryz.ntmps24
  go_wp2_with fail
  go_ret
  exact ⟨rfl, by (repeat (first | exact Below.refl _ _ | refine Below.setCell ?_ (by first | omega | (simp <;> omega)) _ | refine Below.alloc ?_ (by first | omega | (simp <;> omega)) _ | refine Below.drew ?_ | refine Below.trans ?_ (Below.mono (by assumption) (by first | omega | (simp <;> omega)))))⟩
set_option maxRecDepth 100000 in
theorem vexact6_c (b : V) (w : World) : Calls Tryz.prog 24 #[iv (6 : Int), vv b] w fun e w' => e = .returned (.bool (false)) ∧ Below w.heap.size w w' := by
  go_enter Tryz.func24, Tryz.ntmps24
  go_wp2_with fail
  go_ret
  exact ⟨rfl, by (repeat (first | exact Below.refl _ _ | refine Below.setCell ?_ (by first | omega | (simp <;> omega)) _ | refine Below.alloc ?_ (by first | omega | (simp <;> omega)) _ | refine Below.drew ?_ | refine Below.trans ?_ (Below.mono (by assumption) (by first | omega | (simp <;> omega)))))⟩
set_option maxRecDepth 100000 in
theorem vexact7_c (b : V) (w : World) : Calls Tryz.prog 24 #[iv (7 : Int), vv b] w fun e w' => e = .returned (.bool (false)) ∧ Below w.heap.size w w' := by
  go_enter Tryz.func24, Tryz.ntmps24
  go_wp2_with fail
  go_ret
  exact ⟨rfl, by (repeat (first | exact Below.refl _ _ | refine Below.setCell ?_ (by first | omega | (simp <;> omega)) _ | refine Below.alloc ?_ (by first | omega | (simp <;> omega)) _ | refine Below.drew ?_ | refine Below.trans ?_ (Below.mono (by assumption) (by first | omega | (simp <;> omega)))))⟩
set_option maxRecDepth 100000 in
theorem vexact11_c (b : V) (w : World) : Calls Tryz.prog 24 #[iv (11 : Int), vv b] w fun e w' => e = .returned (.bool (decide (b.a &&& 31#32 = 0#32))) ∧ Below w.heap.size w w' := by
  go_enter Tryz.func24, Tryz.ntmps24
  go_wp2_with fail
  go_ret
  exact ⟨rfl, by (repeat (first | exact Below.refl _ _ | refine Below.setCell ?_ (by first | omega | (simp <;> omega)) _ | refine Below.alloc ?_ (by first | omega | (simp <;> omega)) _ | refine Below.drew ?_ | refine Below.trans ?_ (Below.mono (by assumption) (by first | omega | (simp <;> omega)))))⟩
set_option maxRecDepth 100000 in
theorem vexact12_c (b : V) (w : World) : Calls Tryz.prog 24 #[iv (12 : Int), vv b] w fun e w' => e = .returned (.bool (decide (b.a &&& 31#32 = 0#32))) ∧ Below w.heap.size w w' := by
  go_enter Tryz.func24, Tryz.ntmps24
  go_wp2_with fail
  go_ret
  exact ⟨rfl, by (repeat (first | exact Below.refl _ _ | refine Below.setCell ?_ (by first | omega | (simp <;> omega)) _ | refine Below.alloc ?_ (by first | omega | (simp <;> omega)) _ | refine Below.drew ?_ | refine Below.trans ?_ (Below.mono (by assumption) (by first | omega | (simp <;> omega)))))⟩
set_option maxRecDepth 100000 in
theorem vexact13_c (b : V) (w : World) : Calls Tryz.prog 24 #[iv (13 : Int), vv b] w fun e w' => e = .returned (.bool (decide (b.a &&& 31#32 = 0#32))) ∧ Below w.heap.size w w' := by
  go_enter Tryz.func24, Tryz.ntmps24
  go_wp2_with fail
  go_ret
  exact ⟨rfl, by (repeat (first | exact Below.refl _ _ | refine Below.setCell ?_ (by first | omega | (simp <;> omega)) _ | refine Below.alloc ?_ (by first | omega | (simp <;> omega)) _ | refine Below.drew ?_ | refine Below.trans ?_ (Below.mono (by assumption) (by first | omega | (simp <;> omega)))))⟩
set_option maxRecDepth 100000 in
theorem vexact29_c (b : V) (w : World) : Calls Tryz.prog 24 #[iv (29 : Int), vv b] w fun e w' => e = .returned (.bool ((b.and lowV).isZero)) ∧ Below w.heap.size w w' := by
  go_enter Tryz.func24, Tryz.ntmps24
  go_wp2_with fail
  (refine (and_c b lowV _ ).mono ?_; rintro e u1 ⟨rfl, hb⟩; obtain ⟨hc, hf⟩ := Flow.bcell hb; have hz := hb.size; (try simp only [World.size_alloc, World.size_setCell, World.size_drew] at hz); obtain z0 := Flow.zs1 (show w.heap.size + 1 ≤ u1.heap.size by omega))
  go_wp2_with fail
  (refine (zero_c (b.and lowV) _ ).mono ?_; rintro e u2 ⟨rfl, hb⟩; obtain ⟨hc, hf⟩ := Flow.bcell hb; have hz := hb.size; (try simp only [World.size_alloc, World.size_setCell, World.size_drew] at hz); obtain z0 := Flow.zs1 (show w.heap.size + 1 ≤ u2.heap.size by omega))
  go_wp2_with fail
  go_ret
  exact ⟨rfl, by (repeat (first | exact Below.refl _ _ | refine Below.setCell ?_ (by first | omega | (simp <;> omega)) _ | refine Below.alloc ?_ (by first | omega | (simp <;> omega)) _ | refine Below.drew ?_ | refine Below.trans ?_ (Below.mono (by assumption) (by first | omega | (simp <;> omega)))))⟩
set_option maxRecDepth 100000 in
theorem vexactn_c (op : Int) (b : V) (e3 : (op == 3) = false) (e4 : (op == 4) = false) (e5 : (op == 5) = false) (e6 : (op == 6) = false) (e7 : (op == 7) = false) (e11 : (op == 11) = false) (e12 : (op == 12) = false) (e13 : (op == 13) = false) (e29 : (op == 29) = false) (g5 : decide (5 ≤ op) = false ∨ (decide (5 ≤ op) = true ∧ decide (op ≤ 7) = false)) (w : World) : Calls Tryz.prog 24 #[iv op, vv b] w fun e w' => e = .returned (.bool (decide (1 ≤ op) && decide (op ≤ 30))) ∧ Below w.heap.size w w' := by
  rcases g5 with g5 | ⟨g5, g7⟩
  all_goals
    cases k1 : decide (1 ≤ op)
    all_goals
      cases k30 : decide (op ≤ 30)
      all_goals
        go_enter Tryz.func24, Tryz.ntmps24
        go_wp2_with fail
        all_goals go_ret
        all_goals exact ⟨rfl, by (repeat (first | exact Below.refl _ _ | refine Below.setCell ?_ (by first | omega | (simp <;> omega)) _ | refine Below.alloc ?_ (by first | omega | (simp <;> omega)) _ | refine Below.drew ?_ | refine Below.trans ?_ (Below.mono (by assumption) (by first | omega | (simp <;> omega)))))⟩
theorem vexact_c (op : Int) (b : V) (w : World) : Calls Tryz.prog 24 #[iv op, vv b] w fun e w' => e = .returned (.bool (Vb.exact op b)) ∧ Below w.heap.size w w' := by
  by_cases k3 : op = 3
  · subst k3; exact vexact3_c b w
  by_cases k4 : op = 4
  · subst k4; exact vexact4_c b w
  by_cases k5 : op = 5
  · subst k5; exact vexact5_c b w
  by_cases k6 : op = 6
  · subst k6; exact vexact6_c b w
  by_cases k7 : op = 7
  · subst k7; exact vexact7_c b w
  by_cases k11 : op = 11
  · subst k11; exact vexact11_c b w
  by_cases k12 : op = 12
  · subst k12; exact vexact12_c b w
  by_cases k13 : op = 13
  · subst k13; exact vexact13_c b w
  by_cases k29 : op = 29
  · subst k29; exact vexact29_c b w
  have he : Vb.exact op b = (decide (1 ≤ op) && decide (op ≤ 30)) := by unfold Vb.exact; rw [if_neg (by omega), if_neg (by omega), if_neg (by omega)]
  rw [he]
  refine vexactn_c op b (by simpa using k3) (by simpa using k4) (by simpa using k5) (by simpa using k6) (by simpa using k7) (by simpa using k11) (by simpa using k12) (by simpa using k13) (by simpa using k29) ?_ w
  by_cases h5 : 5 ≤ op
  · exact .inr ⟨decide_eq_true h5, decide_eq_false (by omega)⟩
  · exact .inl (decide_eq_false h5)
end Go.Proofs.YtboknfppecgjmaaGreat
