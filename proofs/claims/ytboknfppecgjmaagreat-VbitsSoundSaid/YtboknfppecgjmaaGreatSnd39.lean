/- Part 39 of the proof's texts: AluC, Holds. -/
import Derived.Test.YtboknfppecgjmaaGreatSnd31
namespace Go.Proofs.YtboknfppecgjmaaGreat
set_option linter.unusedVariables false
set_option linter.unusedSimpArgs false
open Go.RowKit Go.Shelf
theorem add_u32_1 (x : BitVec 32) : (U x + 1) % (4294967296 : Int) = U (x + 1#32) := add_u32 x 1#32
theorem bits_01 : bits .and .i64 0 1 = 0 := by decide
theorem bits_11 : bits .and .i64 1 1 = 1 := by decide
attribute [go_sem] add_u32_1 bits_01 bits_11
set_option maxRecDepth 100000 in
set_option maxHeartbeats 4000000 in
theorem alu7_16_0 (a b : BitVec 32) : ∃ C V, AluC 16 a b 0 (a + b) (Rf.flags (a + b) C V) true := by
  refine ⟨decide (4294967296 ≤ wrap64 (wrap64 (wrap64 (U a) + wrap64 (U b)))), Rf.wide (wrap64 (wrap64 (S a + S b))), fun w => ?_⟩
  go_enter Tryz.func56, Tryz.ntmps56
  go_wp2_with (first | (go_at_call 114; refine (signed7_c _ _).mono ?_; rintro e w1 ⟨rfl, hb⟩; obtain ⟨hc, hf⟩ := Flow.bcell hb; have hz := hb.size; (try simp only [World.size_alloc, World.size_setCell, World.size_drew] at hz)) | (go_at_call 113; refine (wide7_c _ _).mono ?_; rintro e w1 ⟨rfl, hb⟩; obtain ⟨hc, hf⟩ := Flow.bcell hb; have hz := hb.size; (try simp only [World.size_alloc, World.size_setCell, World.size_drew] at hz)) | (go_at_call 112; refine (flagsOf_c _ _ _ _).mono ?_; rintro e w1 ⟨rfl, hb⟩; obtain ⟨hc, hf⟩ := Flow.bcell hb; have hz := hb.size; (try simp only [World.size_alloc, World.size_setCell, World.size_drew] at hz)))
  go_ret3
  exact ⟨rfl, by (repeat (first | exact Below.refl _ _ | refine Below.setCell ?_ (by first | omega | (simp <;> omega)) _ | refine Below.alloc ?_ (by first | omega | (simp <;> omega)) _ | refine Below.drew ?_ | refine Below.trans ?_ (Below.mono (by assumption) (by first | omega | (simp <;> omega)))))⟩
set_option maxRecDepth 100000 in
set_option maxHeartbeats 4000000 in
theorem alu7_16_1 (a b : BitVec 32) : ∃ C V, AluC 16 a b 1 (a + b + 1#32) (Rf.flags (a + b + 1#32) C V) true := by
  refine ⟨decide (4294967296 ≤ wrap64 (wrap64 (wrap64 (U a) + wrap64 (U b)) + 1)), Rf.wide (wrap64 (wrap64 (S a + S b) + 1)), fun w => ?_⟩
  go_enter Tryz.func56, Tryz.ntmps56
  go_wp2_with (first | (go_at_call 114; refine (signed7_c _ _).mono ?_; rintro e w1 ⟨rfl, hb⟩; obtain ⟨hc, hf⟩ := Flow.bcell hb; have hz := hb.size; (try simp only [World.size_alloc, World.size_setCell, World.size_drew] at hz)) | (go_at_call 113; refine (wide7_c _ _).mono ?_; rintro e w1 ⟨rfl, hb⟩; obtain ⟨hc, hf⟩ := Flow.bcell hb; have hz := hb.size; (try simp only [World.size_alloc, World.size_setCell, World.size_drew] at hz)) | (go_at_call 112; refine (flagsOf_c _ _ _ _).mono ?_; rintro e w1 ⟨rfl, hb⟩; obtain ⟨hc, hf⟩ := Flow.bcell hb; have hz := hb.size; (try simp only [World.size_alloc, World.size_setCell, World.size_drew] at hz)))
  go_ret3
  exact ⟨rfl, by (repeat (first | exact Below.refl _ _ | refine Below.setCell ?_ (by first | omega | (simp <;> omega)) _ | refine Below.alloc ?_ (by first | omega | (simp <;> omega)) _ | refine Below.drew ?_ | refine Below.trans ?_ (Below.mono (by assumption) (by first | omega | (simp <;> omega)))))⟩
set_option maxRecDepth 100000 in
set_option maxHeartbeats 4000000 in
theorem alu7_17_0 (a b : BitVec 32) : ∃ C V, AluC 17 a b 0 (a - b) (Rf.flags (a - b) C V) true := by
  refine ⟨decide (wrap64 (U a) < wrap64 (wrap64 (U b))), Rf.wide (wrap64 (wrap64 (S a - S b))), fun w => ?_⟩
  go_enter Tryz.func56, Tryz.ntmps56
  go_wp2_with (first | (go_at_call 114; refine (signed7_c _ _).mono ?_; rintro e w1 ⟨rfl, hb⟩; obtain ⟨hc, hf⟩ := Flow.bcell hb; have hz := hb.size; (try simp only [World.size_alloc, World.size_setCell, World.size_drew] at hz)) | (go_at_call 113; refine (wide7_c _ _).mono ?_; rintro e w1 ⟨rfl, hb⟩; obtain ⟨hc, hf⟩ := Flow.bcell hb; have hz := hb.size; (try simp only [World.size_alloc, World.size_setCell, World.size_drew] at hz)) | (go_at_call 112; refine (flagsOf_c _ _ _ _).mono ?_; rintro e w1 ⟨rfl, hb⟩; obtain ⟨hc, hf⟩ := Flow.bcell hb; have hz := hb.size; (try simp only [World.size_alloc, World.size_setCell, World.size_drew] at hz)))
  go_ret3
  exact ⟨rfl, by (repeat (first | exact Below.refl _ _ | refine Below.setCell ?_ (by first | omega | (simp <;> omega)) _ | refine Below.alloc ?_ (by first | omega | (simp <;> omega)) _ | refine Below.drew ?_ | refine Below.trans ?_ (Below.mono (by assumption) (by first | omega | (simp <;> omega)))))⟩
set_option maxRecDepth 100000 in
set_option maxHeartbeats 4000000 in
theorem alu7_17_1 (a b : BitVec 32) : ∃ C V, AluC 17 a b 1 (a - b - 1#32) (Rf.flags (a - b - 1#32) C V) true := by
  refine ⟨decide (wrap64 (U a) < wrap64 (wrap64 (U b) + 1)), Rf.wide (wrap64 (wrap64 (S a - S b) - 1)), fun w => ?_⟩
  go_enter Tryz.func56, Tryz.ntmps56
  go_wp2_with (first | (go_at_call 114; refine (signed7_c _ _).mono ?_; rintro e w1 ⟨rfl, hb⟩; obtain ⟨hc, hf⟩ := Flow.bcell hb; have hz := hb.size; (try simp only [World.size_alloc, World.size_setCell, World.size_drew] at hz)) | (go_at_call 113; refine (wide7_c _ _).mono ?_; rintro e w1 ⟨rfl, hb⟩; obtain ⟨hc, hf⟩ := Flow.bcell hb; have hz := hb.size; (try simp only [World.size_alloc, World.size_setCell, World.size_drew] at hz)) | (go_at_call 112; refine (flagsOf_c _ _ _ _).mono ?_; rintro e w1 ⟨rfl, hb⟩; obtain ⟨hc, hf⟩ := Flow.bcell hb; have hz := hb.size; (try simp only [World.size_alloc, World.size_setCell, World.size_drew] at hz)))
  go_ret3
  exact ⟨rfl, by (repeat (first | exact Below.refl _ _ | refine Below.setCell ?_ (by first | omega | (simp <;> omega)) _ | refine Below.alloc ?_ (by first | omega | (simp <;> omega)) _ | refine Below.drew ?_ | refine Below.trans ?_ (Below.mono (by assumption) (by first | omega | (simp <;> omega)))))⟩
end Go.Proofs.YtboknfppecgjmaaGreat
namespace Go.Proofs.YtboknfppecgjmaaGreat
set_option linter.unusedVariables false
set_option linter.unusedSimpArgs false
open Go.RowKit Go.Shelf
/-- Whether a condition holds, of the four flags. -/
def Rf.cond (cd : Nat) (z n c v : Bool) : Bool :=
  (if cd / 2 = 0 then z else if cd / 2 = 1 then c else if cd / 2 = 2 then n else if cd / 2 = 3 then v else if cd / 2 = 4 then c || z else if cd / 2 = 5 then n != v else if cd / 2 = 6 then z || n != v else true) == (cd % 2 == 0)
abbrev HoldsC (cd : Nat) (f : Int) : Prop := ∀ w, Calls Tryz.prog 78 #[iv (cd : Int), iv f] w fun e w' => e = .returned (.bool (Rf.cond cd (bits .and .i64 f 1 != 0) (bits .and .i64 f 2 != 0) (bits .and .i64 f 4 != 0) (bits .and .i64 f 8 != 0))) ∧ Below w.heap.size w w'
set_option maxRecDepth 100000 in
set_option maxHeartbeats 4000000 in
theorem holds_0 (f : Int) : HoldsC 0 f := by
  intro w
  show Calls Tryz.prog 78 #[iv (0 : Int), iv f] w _
  generalize hB1 : (bits .and .i64 f 1 != 0) = b1
  generalize hB2 : (bits .and .i64 f 2 != 0) = b2
  generalize hB4 : (bits .and .i64 f 4 != 0) = b4
  generalize hB8 : (bits .and .i64 f 8 != 0) = b8
  all_goals cases b1
  all_goals
    go_enter Tryz.func78, Tryz.ntmps78
    go_wp2
    go_ret
    exact ⟨by rfl, by (repeat (first | exact Below.refl _ _ | refine Below.setCell ?_ (by first | omega | (simp <;> omega)) _ | refine Below.alloc ?_ (by first | omega | (simp <;> omega)) _ | refine Below.drew ?_ | refine Below.trans ?_ (Below.mono (by assumption) (by first | omega | (simp <;> omega)))))⟩
set_option maxRecDepth 100000 in
set_option maxHeartbeats 4000000 in
theorem holds_1 (f : Int) : HoldsC 1 f := by
  intro w
  show Calls Tryz.prog 78 #[iv (1 : Int), iv f] w _
  generalize hB1 : (bits .and .i64 f 1 != 0) = b1
  generalize hB2 : (bits .and .i64 f 2 != 0) = b2
  generalize hB4 : (bits .and .i64 f 4 != 0) = b4
  generalize hB8 : (bits .and .i64 f 8 != 0) = b8
  all_goals cases b1
  all_goals
    go_enter Tryz.func78, Tryz.ntmps78
    go_wp2
    go_ret
    exact ⟨by rfl, by (repeat (first | exact Below.refl _ _ | refine Below.setCell ?_ (by first | omega | (simp <;> omega)) _ | refine Below.alloc ?_ (by first | omega | (simp <;> omega)) _ | refine Below.drew ?_ | refine Below.trans ?_ (Below.mono (by assumption) (by first | omega | (simp <;> omega)))))⟩
set_option maxRecDepth 100000 in
set_option maxHeartbeats 4000000 in
theorem holds_2 (f : Int) : HoldsC 2 f := by
  intro w
  show Calls Tryz.prog 78 #[iv (2 : Int), iv f] w _
  generalize hB1 : (bits .and .i64 f 1 != 0) = b1
  generalize hB2 : (bits .and .i64 f 2 != 0) = b2
  generalize hB4 : (bits .and .i64 f 4 != 0) = b4
  generalize hB8 : (bits .and .i64 f 8 != 0) = b8
  all_goals cases b4
  all_goals
    go_enter Tryz.func78, Tryz.ntmps78
    go_wp2
    go_ret
    exact ⟨by rfl, by (repeat (first | exact Below.refl _ _ | refine Below.setCell ?_ (by first | omega | (simp <;> omega)) _ | refine Below.alloc ?_ (by first | omega | (simp <;> omega)) _ | refine Below.drew ?_ | refine Below.trans ?_ (Below.mono (by assumption) (by first | omega | (simp <;> omega)))))⟩
set_option maxRecDepth 100000 in
set_option maxHeartbeats 4000000 in
theorem holds_3 (f : Int) : HoldsC 3 f := by
  intro w
  show Calls Tryz.prog 78 #[iv (3 : Int), iv f] w _
  generalize hB1 : (bits .and .i64 f 1 != 0) = b1
  generalize hB2 : (bits .and .i64 f 2 != 0) = b2
  generalize hB4 : (bits .and .i64 f 4 != 0) = b4
  generalize hB8 : (bits .and .i64 f 8 != 0) = b8
  all_goals cases b4
  all_goals
    go_enter Tryz.func78, Tryz.ntmps78
    go_wp2
    go_ret
    exact ⟨by rfl, by (repeat (first | exact Below.refl _ _ | refine Below.setCell ?_ (by first | omega | (simp <;> omega)) _ | refine Below.alloc ?_ (by first | omega | (simp <;> omega)) _ | refine Below.drew ?_ | refine Below.trans ?_ (Below.mono (by assumption) (by first | omega | (simp <;> omega)))))⟩
set_option maxRecDepth 100000 in
set_option maxHeartbeats 4000000 in
theorem holds_4 (f : Int) : HoldsC 4 f := by
  intro w
  show Calls Tryz.prog 78 #[iv (4 : Int), iv f] w _
  generalize hB1 : (bits .and .i64 f 1 != 0) = b1
  generalize hB2 : (bits .and .i64 f 2 != 0) = b2
  generalize hB4 : (bits .and .i64 f 4 != 0) = b4
  generalize hB8 : (bits .and .i64 f 8 != 0) = b8
  all_goals cases b2
  all_goals
    go_enter Tryz.func78, Tryz.ntmps78
    go_wp2
    go_ret
    exact ⟨by rfl, by (repeat (first | exact Below.refl _ _ | refine Below.setCell ?_ (by first | omega | (simp <;> omega)) _ | refine Below.alloc ?_ (by first | omega | (simp <;> omega)) _ | refine Below.drew ?_ | refine Below.trans ?_ (Below.mono (by assumption) (by first | omega | (simp <;> omega)))))⟩
set_option maxRecDepth 100000 in
set_option maxHeartbeats 4000000 in
theorem holds_5 (f : Int) : HoldsC 5 f := by
  intro w
  show Calls Tryz.prog 78 #[iv (5 : Int), iv f] w _
  generalize hB1 : (bits .and .i64 f 1 != 0) = b1
  generalize hB2 : (bits .and .i64 f 2 != 0) = b2
  generalize hB4 : (bits .and .i64 f 4 != 0) = b4
  generalize hB8 : (bits .and .i64 f 8 != 0) = b8
  all_goals cases b2
  all_goals
    go_enter Tryz.func78, Tryz.ntmps78
    go_wp2
    go_ret
    exact ⟨by rfl, by (repeat (first | exact Below.refl _ _ | refine Below.setCell ?_ (by first | omega | (simp <;> omega)) _ | refine Below.alloc ?_ (by first | omega | (simp <;> omega)) _ | refine Below.drew ?_ | refine Below.trans ?_ (Below.mono (by assumption) (by first | omega | (simp <;> omega)))))⟩
set_option maxRecDepth 100000 in
set_option maxHeartbeats 4000000 in
theorem holds_6 (f : Int) : HoldsC 6 f := by
  intro w
  show Calls Tryz.prog 78 #[iv (6 : Int), iv f] w _
  generalize hB1 : (bits .and .i64 f 1 != 0) = b1
  generalize hB2 : (bits .and .i64 f 2 != 0) = b2
  generalize hB4 : (bits .and .i64 f 4 != 0) = b4
  generalize hB8 : (bits .and .i64 f 8 != 0) = b8
  all_goals cases b8
  all_goals
    go_enter Tryz.func78, Tryz.ntmps78
    go_wp2
    go_ret
    exact ⟨by rfl, by (repeat (first | exact Below.refl _ _ | refine Below.setCell ?_ (by first | omega | (simp <;> omega)) _ | refine Below.alloc ?_ (by first | omega | (simp <;> omega)) _ | refine Below.drew ?_ | refine Below.trans ?_ (Below.mono (by assumption) (by first | omega | (simp <;> omega)))))⟩
set_option maxRecDepth 100000 in
set_option maxHeartbeats 4000000 in
theorem holds_7 (f : Int) : HoldsC 7 f := by
  intro w
  show Calls Tryz.prog 78 #[iv (7 : Int), iv f] w _
  generalize hB1 : (bits .and .i64 f 1 != 0) = b1
  generalize hB2 : (bits .and .i64 f 2 != 0) = b2
  generalize hB4 : (bits .and .i64 f 4 != 0) = b4
  generalize hB8 : (bits .and .i64 f 8 != 0) = b8
  all_goals cases b8
  all_goals
    go_enter Tryz.func78, Tryz.ntmps78
    go_wp2
    go_ret
    exact ⟨by rfl, by (repeat (first | exact Below.refl _ _ | refine Below.setCell ?_ (by first | omega | (simp <;> omega)) _ | refine Below.alloc ?_ (by first | omega | (simp <;> omega)) _ | refine Below.drew ?_ | refine Below.trans ?_ (Below.mono (by assumption) (by first | omega | (simp <;> omega)))))⟩
set_option maxRecDepth 100000 in
set_option maxHeartbeats 4000000 in
theorem holds_8 (f : Int) : HoldsC 8 f := by
  intro w
  show Calls Tryz.prog 78 #[iv (8 : Int), iv f] w _
  generalize hB1 : (bits .and .i64 f 1 != 0) = b1
  generalize hB2 : (bits .and .i64 f 2 != 0) = b2
  generalize hB4 : (bits .and .i64 f 4 != 0) = b4
  generalize hB8 : (bits .and .i64 f 8 != 0) = b8
  all_goals cases b4
  all_goals cases b1
  all_goals
    go_enter Tryz.func78, Tryz.ntmps78
    go_wp2
    go_ret
    exact ⟨by rfl, by (repeat (first | exact Below.refl _ _ | refine Below.setCell ?_ (by first | omega | (simp <;> omega)) _ | refine Below.alloc ?_ (by first | omega | (simp <;> omega)) _ | refine Below.drew ?_ | refine Below.trans ?_ (Below.mono (by assumption) (by first | omega | (simp <;> omega)))))⟩
set_option maxRecDepth 100000 in
set_option maxHeartbeats 4000000 in
theorem holds_9 (f : Int) : HoldsC 9 f := by
  intro w
  show Calls Tryz.prog 78 #[iv (9 : Int), iv f] w _
  generalize hB1 : (bits .and .i64 f 1 != 0) = b1
  generalize hB2 : (bits .and .i64 f 2 != 0) = b2
  generalize hB4 : (bits .and .i64 f 4 != 0) = b4
  generalize hB8 : (bits .and .i64 f 8 != 0) = b8
  all_goals cases b4
  all_goals cases b1
  all_goals
    go_enter Tryz.func78, Tryz.ntmps78
    go_wp2
    go_ret
    exact ⟨by rfl, by (repeat (first | exact Below.refl _ _ | refine Below.setCell ?_ (by first | omega | (simp <;> omega)) _ | refine Below.alloc ?_ (by first | omega | (simp <;> omega)) _ | refine Below.drew ?_ | refine Below.trans ?_ (Below.mono (by assumption) (by first | omega | (simp <;> omega)))))⟩
set_option maxRecDepth 100000 in
set_option maxHeartbeats 4000000 in
theorem holds_10 (f : Int) : HoldsC 10 f := by
  intro w
  show Calls Tryz.prog 78 #[iv (10 : Int), iv f] w _
  generalize hB1 : (bits .and .i64 f 1 != 0) = b1
  generalize hB2 : (bits .and .i64 f 2 != 0) = b2
  generalize hB4 : (bits .and .i64 f 4 != 0) = b4
  generalize hB8 : (bits .and .i64 f 8 != 0) = b8
  all_goals cases b2
  all_goals cases b8
  all_goals
    go_enter Tryz.func78, Tryz.ntmps78
    go_wp2
    go_ret
    exact ⟨by rfl, by (repeat (first | exact Below.refl _ _ | refine Below.setCell ?_ (by first | omega | (simp <;> omega)) _ | refine Below.alloc ?_ (by first | omega | (simp <;> omega)) _ | refine Below.drew ?_ | refine Below.trans ?_ (Below.mono (by assumption) (by first | omega | (simp <;> omega)))))⟩
set_option maxRecDepth 100000 in
set_option maxHeartbeats 4000000 in
theorem holds_11 (f : Int) : HoldsC 11 f := by
  intro w
  show Calls Tryz.prog 78 #[iv (11 : Int), iv f] w _
  generalize hB1 : (bits .and .i64 f 1 != 0) = b1
  generalize hB2 : (bits .and .i64 f 2 != 0) = b2
  generalize hB4 : (bits .and .i64 f 4 != 0) = b4
  generalize hB8 : (bits .and .i64 f 8 != 0) = b8
  all_goals cases b2
  all_goals cases b8
  all_goals
    go_enter Tryz.func78, Tryz.ntmps78
    go_wp2
    go_ret
    exact ⟨by rfl, by (repeat (first | exact Below.refl _ _ | refine Below.setCell ?_ (by first | omega | (simp <;> omega)) _ | refine Below.alloc ?_ (by first | omega | (simp <;> omega)) _ | refine Below.drew ?_ | refine Below.trans ?_ (Below.mono (by assumption) (by first | omega | (simp <;> omega)))))⟩
set_option maxRecDepth 100000 in
set_option maxHeartbeats 4000000 in
theorem holds_12 (f : Int) : HoldsC 12 f := by
  intro w
  show Calls Tryz.prog 78 #[iv (12 : Int), iv f] w _
  generalize hB1 : (bits .and .i64 f 1 != 0) = b1
  generalize hB2 : (bits .and .i64 f 2 != 0) = b2
  generalize hB4 : (bits .and .i64 f 4 != 0) = b4
  generalize hB8 : (bits .and .i64 f 8 != 0) = b8
  all_goals cases b1
  all_goals cases b2
  all_goals cases b8
  all_goals
    go_enter Tryz.func78, Tryz.ntmps78
    go_wp2
    go_ret
    exact ⟨by rfl, by (repeat (first | exact Below.refl _ _ | refine Below.setCell ?_ (by first | omega | (simp <;> omega)) _ | refine Below.alloc ?_ (by first | omega | (simp <;> omega)) _ | refine Below.drew ?_ | refine Below.trans ?_ (Below.mono (by assumption) (by first | omega | (simp <;> omega)))))⟩
set_option maxRecDepth 100000 in
set_option maxHeartbeats 4000000 in
theorem holds_13 (f : Int) : HoldsC 13 f := by
  intro w
  show Calls Tryz.prog 78 #[iv (13 : Int), iv f] w _
  generalize hB1 : (bits .and .i64 f 1 != 0) = b1
  generalize hB2 : (bits .and .i64 f 2 != 0) = b2
  generalize hB4 : (bits .and .i64 f 4 != 0) = b4
  generalize hB8 : (bits .and .i64 f 8 != 0) = b8
  all_goals cases b1
  all_goals cases b2
  all_goals cases b8
  all_goals
    go_enter Tryz.func78, Tryz.ntmps78
    go_wp2
    go_ret
    exact ⟨by rfl, by (repeat (first | exact Below.refl _ _ | refine Below.setCell ?_ (by first | omega | (simp <;> omega)) _ | refine Below.alloc ?_ (by first | omega | (simp <;> omega)) _ | refine Below.drew ?_ | refine Below.trans ?_ (Below.mono (by assumption) (by first | omega | (simp <;> omega)))))⟩
set_option maxRecDepth 100000 in
set_option maxHeartbeats 4000000 in
theorem holds_14 (f : Int) : HoldsC 14 f := by
  intro w
  show Calls Tryz.prog 78 #[iv (14 : Int), iv f] w _
  generalize hB1 : (bits .and .i64 f 1 != 0) = b1
  generalize hB2 : (bits .and .i64 f 2 != 0) = b2
  generalize hB4 : (bits .and .i64 f 4 != 0) = b4
  generalize hB8 : (bits .and .i64 f 8 != 0) = b8
  all_goals
    go_enter Tryz.func78, Tryz.ntmps78
    go_wp2
    go_ret
    exact ⟨by rfl, by (repeat (first | exact Below.refl _ _ | refine Below.setCell ?_ (by first | omega | (simp <;> omega)) _ | refine Below.alloc ?_ (by first | omega | (simp <;> omega)) _ | refine Below.drew ?_ | refine Below.trans ?_ (Below.mono (by assumption) (by first | omega | (simp <;> omega)))))⟩
set_option maxRecDepth 100000 in
set_option maxHeartbeats 4000000 in
theorem holds_15 (f : Int) : HoldsC 15 f := by
  intro w
  show Calls Tryz.prog 78 #[iv (15 : Int), iv f] w _
  generalize hB1 : (bits .and .i64 f 1 != 0) = b1
  generalize hB2 : (bits .and .i64 f 2 != 0) = b2
  generalize hB4 : (bits .and .i64 f 4 != 0) = b4
  generalize hB8 : (bits .and .i64 f 8 != 0) = b8
  all_goals
    go_enter Tryz.func78, Tryz.ntmps78
    go_wp2
    go_ret
    exact ⟨by rfl, by (repeat (first | exact Below.refl _ _ | refine Below.setCell ?_ (by first | omega | (simp <;> omega)) _ | refine Below.alloc ?_ (by first | omega | (simp <;> omega)) _ | refine Below.drew ?_ | refine Below.trans ?_ (Below.mono (by assumption) (by first | omega | (simp <;> omega)))))⟩
theorem holds_all (cd : Nat) (h : cd ≤ 15) (f : Int) : HoldsC cd f := by
  rcases (show cd = 0 ∨ cd = 1 ∨ cd = 2 ∨ cd = 3 ∨ cd = 4 ∨ cd = 5 ∨ cd = 6 ∨ cd = 7 ∨ cd = 8 ∨ cd = 9 ∨ cd = 10 ∨ cd = 11 ∨ cd = 12 ∨ cd = 13 ∨ cd = 14 ∨ cd = 15 by omega) with rfl | rfl | rfl | rfl | rfl | rfl | rfl | rfl | rfl | rfl | rfl | rfl | rfl | rfl | rfl | rfl
  · exact holds_0 f
  · exact holds_1 f
  · exact holds_2 f
  · exact holds_3 f
  · exact holds_4 f
  · exact holds_5 f
  · exact holds_6 f
  · exact holds_7 f
  · exact holds_8 f
  · exact holds_9 f
  · exact holds_10 f
  · exact holds_11 f
  · exact holds_12 f
  · exact holds_13 f
  · exact holds_14 f
  · exact holds_15 f
end Go.Proofs.YtboknfppecgjmaaGreat
