/- Part 26 of the proof's texts: Alu. -/
import Derived.OwnWalk
import Derived.Test.YtboknfppecgjmaaGreatExa25
set_option maxHeartbeats 16000000
namespace Go.Proofs.YtboknfppecgjmaaGreat
set_option linter.unusedVariables false
set_option linter.unusedSimpArgs false
open Go.RowKit Go.Shelf
theorem S_range (a : BitVec 32) : -2147483648 ≤ S a ∧ S a ≤ 2147483647 := by
  have h1 := @BitVec.toInt_lt 32 a
  have h2 := @BitVec.le_toInt 32 a
  unfold S; omega
theorem wrap64_S (a : BitVec 32) : wrap64 (S a) = S a := by have := S_range a; unfold wrap64; omega
theorem U_byte (z : BitVec 32) : U z % 256 = U (z &&& 255#32) := by
  unfold U
  rw [BitVec.toNat_and, show (255#32).toNat = 2 ^ 8 - 1 from rfl, Nat.and_two_pow_sub_one_eq_mod]
  omega
theorem byteOf_0 (a : V) (w : World) : Calls Tryz.prog 96 #[vv a, iv (0 : Int)] w fun e w' => e = .returned (.int .u8 (U (a.a &&& 255#32))) ∧ Below w.heap.size w w' := by
  go_enter Tryz.func96, Tryz.ntmps96
  go_wp2
  go_ret
  exact ⟨by rw [← U_byte]; rfl, by (repeat (first | exact Below.refl _ _ | refine Below.setCell ?_ (by first | omega | (simp <;> omega)) _ | refine Below.alloc ?_ (by first | omega | (simp <;> omega)) _ | refine Below.drew ?_ | refine Below.trans ?_ (Below.mono (by assumption) (by first | omega | (simp <;> omega)))))⟩
theorem byteOf_1 (a : V) (w : World) : Calls Tryz.prog 96 #[vv a, iv (1 : Int)] w fun e w' => e = .returned (.int .u8 (U (a.a >>> 8 &&& 255#32))) ∧ Below w.heap.size w w' := by
  go_enter Tryz.func96, Tryz.ntmps96
  go_wp2
  go_ret
  exact ⟨by rw [← U_byte]; rfl, by (repeat (first | exact Below.refl _ _ | refine Below.setCell ?_ (by first | omega | (simp <;> omega)) _ | refine Below.alloc ?_ (by first | omega | (simp <;> omega)) _ | refine Below.drew ?_ | refine Below.trans ?_ (Below.mono (by assumption) (by first | omega | (simp <;> omega)))))⟩
theorem byteOf_2 (a : V) (w : World) : Calls Tryz.prog 96 #[vv a, iv (2 : Int)] w fun e w' => e = .returned (.int .u8 (U (a.a >>> 16 &&& 255#32))) ∧ Below w.heap.size w w' := by
  go_enter Tryz.func96, Tryz.ntmps96
  go_wp2
  go_ret
  exact ⟨by rw [← U_byte]; rfl, by (repeat (first | exact Below.refl _ _ | refine Below.setCell ?_ (by first | omega | (simp <;> omega)) _ | refine Below.alloc ?_ (by first | omega | (simp <;> omega)) _ | refine Below.drew ?_ | refine Below.trans ?_ (Below.mono (by assumption) (by first | omega | (simp <;> omega)))))⟩
theorem byteOf_3 (a : V) (w : World) : Calls Tryz.prog 96 #[vv a, iv (3 : Int)] w fun e w' => e = .returned (.int .u8 (U (a.a >>> 24 &&& 255#32))) ∧ Below w.heap.size w w' := by
  go_enter Tryz.func96, Tryz.ntmps96
  go_wp2
  go_ret
  exact ⟨by rw [← U_byte]; rfl, by (repeat (first | exact Below.refl _ _ | refine Below.setCell ?_ (by first | omega | (simp <;> omega)) _ | refine Below.alloc ?_ (by first | omega | (simp <;> omega)) _ | refine Below.drew ?_ | refine Below.trans ?_ (Below.mono (by assumption) (by first | omega | (simp <;> omega)))))⟩
theorem byteOf_4 (a : V) (w : World) : Calls Tryz.prog 96 #[vv a, iv (4 : Int)] w fun e w' => e = .returned (.int .u8 (U (a.b &&& 255#32))) ∧ Below w.heap.size w w' := by
  go_enter Tryz.func96, Tryz.ntmps96
  go_wp2
  go_ret
  exact ⟨by rw [← U_byte]; rfl, by (repeat (first | exact Below.refl _ _ | refine Below.setCell ?_ (by first | omega | (simp <;> omega)) _ | refine Below.alloc ?_ (by first | omega | (simp <;> omega)) _ | refine Below.drew ?_ | refine Below.trans ?_ (Below.mono (by assumption) (by first | omega | (simp <;> omega)))))⟩
theorem byteOf_5 (a : V) (w : World) : Calls Tryz.prog 96 #[vv a, iv (5 : Int)] w fun e w' => e = .returned (.int .u8 (U (a.b >>> 8 &&& 255#32))) ∧ Below w.heap.size w w' := by
  go_enter Tryz.func96, Tryz.ntmps96
  go_wp2
  go_ret
  exact ⟨by rw [← U_byte]; rfl, by (repeat (first | exact Below.refl _ _ | refine Below.setCell ?_ (by first | omega | (simp <;> omega)) _ | refine Below.alloc ?_ (by first | omega | (simp <;> omega)) _ | refine Below.drew ?_ | refine Below.trans ?_ (Below.mono (by assumption) (by first | omega | (simp <;> omega)))))⟩
theorem byteOf_6 (a : V) (w : World) : Calls Tryz.prog 96 #[vv a, iv (6 : Int)] w fun e w' => e = .returned (.int .u8 (U (a.b >>> 16 &&& 255#32))) ∧ Below w.heap.size w w' := by
  go_enter Tryz.func96, Tryz.ntmps96
  go_wp2
  go_ret
  exact ⟨by rw [← U_byte]; rfl, by (repeat (first | exact Below.refl _ _ | refine Below.setCell ?_ (by first | omega | (simp <;> omega)) _ | refine Below.alloc ?_ (by first | omega | (simp <;> omega)) _ | refine Below.drew ?_ | refine Below.trans ?_ (Below.mono (by assumption) (by first | omega | (simp <;> omega)))))⟩
theorem byteOf_7 (a : V) (w : World) : Calls Tryz.prog 96 #[vv a, iv (7 : Int)] w fun e w' => e = .returned (.int .u8 (U (a.b >>> 24 &&& 255#32))) ∧ Below w.heap.size w w' := by
  go_enter Tryz.func96, Tryz.ntmps96
  go_wp2
  go_ret
  exact ⟨by rw [← U_byte]; rfl, by (repeat (first | exact Below.refl _ _ | refine Below.setCell ?_ (by first | omega | (simp <;> omega)) _ | refine Below.alloc ?_ (by first | omega | (simp <;> omega)) _ | refine Below.drew ?_ | refine Below.trans ?_ (Below.mono (by assumption) (by first | omega | (simp <;> omega)))))⟩
theorem byteOf_8 (a : V) (w : World) : Calls Tryz.prog 96 #[vv a, iv (8 : Int)] w fun e w' => e = .returned (.int .u8 (U (a.c &&& 255#32))) ∧ Below w.heap.size w w' := by
  go_enter Tryz.func96, Tryz.ntmps96
  go_wp2
  go_ret
  exact ⟨by rw [← U_byte]; rfl, by (repeat (first | exact Below.refl _ _ | refine Below.setCell ?_ (by first | omega | (simp <;> omega)) _ | refine Below.alloc ?_ (by first | omega | (simp <;> omega)) _ | refine Below.drew ?_ | refine Below.trans ?_ (Below.mono (by assumption) (by first | omega | (simp <;> omega)))))⟩
theorem byteOf_9 (a : V) (w : World) : Calls Tryz.prog 96 #[vv a, iv (9 : Int)] w fun e w' => e = .returned (.int .u8 (U (a.c >>> 8 &&& 255#32))) ∧ Below w.heap.size w w' := by
  go_enter Tryz.func96, Tryz.ntmps96
  go_wp2
  go_ret
  exact ⟨by rw [← U_byte]; rfl, by (repeat (first | exact Below.refl _ _ | refine Below.setCell ?_ (by first | omega | (simp <;> omega)) _ | refine Below.alloc ?_ (by first | omega | (simp <;> omega)) _ | refine Below.drew ?_ | refine Below.trans ?_ (Below.mono (by assumption) (by first | omega | (simp <;> omega)))))⟩
theorem byteOf_10 (a : V) (w : World) : Calls Tryz.prog 96 #[vv a, iv (10 : Int)] w fun e w' => e = .returned (.int .u8 (U (a.c >>> 16 &&& 255#32))) ∧ Below w.heap.size w w' := by
  go_enter Tryz.func96, Tryz.ntmps96
  go_wp2
  go_ret
  exact ⟨by rw [← U_byte]; rfl, by (repeat (first | exact Below.refl _ _ | refine Below.setCell ?_ (by first | omega | (simp <;> omega)) _ | refine Below.alloc ?_ (by first | omega | (simp <;> omega)) _ | refine Below.drew ?_ | refine Below.trans ?_ (Below.mono (by assumption) (by first | omega | (simp <;> omega)))))⟩
theorem byteOf_11 (a : V) (w : World) : Calls Tryz.prog 96 #[vv a, iv (11 : Int)] w fun e w' => e = .returned (.int .u8 (U (a.c >>> 24 &&& 255#32))) ∧ Below w.heap.size w w' := by
  go_enter Tryz.func96, Tryz.ntmps96
  go_wp2
  go_ret
  exact ⟨by rw [← U_byte]; rfl, by (repeat (first | exact Below.refl _ _ | refine Below.setCell ?_ (by first | omega | (simp <;> omega)) _ | refine Below.alloc ?_ (by first | omega | (simp <;> omega)) _ | refine Below.drew ?_ | refine Below.trans ?_ (Below.mono (by assumption) (by first | omega | (simp <;> omega)))))⟩
theorem byteOf_12 (a : V) (w : World) : Calls Tryz.prog 96 #[vv a, iv (12 : Int)] w fun e w' => e = .returned (.int .u8 (U (a.d &&& 255#32))) ∧ Below w.heap.size w w' := by
  go_enter Tryz.func96, Tryz.ntmps96
  go_wp2
  go_ret
  exact ⟨by rw [← U_byte]; rfl, by (repeat (first | exact Below.refl _ _ | refine Below.setCell ?_ (by first | omega | (simp <;> omega)) _ | refine Below.alloc ?_ (by first | omega | (simp <;> omega)) _ | refine Below.drew ?_ | refine Below.trans ?_ (Below.mono (by assumption) (by first | omega | (simp <;> omega)))))⟩
theorem byteOf_13 (a : V) (w : World) : Calls Tryz.prog 96 #[vv a, iv (13 : Int)] w fun e w' => e = .returned (.int .u8 (U (a.d >>> 8 &&& 255#32))) ∧ Below w.heap.size w w' := by
  go_enter Tryz.func96, Tryz.ntmps96
  go_wp2
  go_ret
  exact ⟨by rw [← U_byte]; rfl, by (repeat (first | exact Below.refl _ _ | refine Below.setCell ?_ (by first | omega | (simp <;> omega)) _ | refine Below.alloc ?_ (by first | omega | (simp <;> omega)) _ | refine Below.drew ?_ | refine Below.trans ?_ (Below.mono (by assumption) (by first | omega | (simp <;> omega)))))⟩
theorem byteOf_14 (a : V) (w : World) : Calls Tryz.prog 96 #[vv a, iv (14 : Int)] w fun e w' => e = .returned (.int .u8 (U (a.d >>> 16 &&& 255#32))) ∧ Below w.heap.size w w' := by
  go_enter Tryz.func96, Tryz.ntmps96
  go_wp2
  go_ret
  exact ⟨by rw [← U_byte]; rfl, by (repeat (first | exact Below.refl _ _ | refine Below.setCell ?_ (by first | omega | (simp <;> omega)) _ | refine Below.alloc ?_ (by first | omega | (simp <;> omega)) _ | refine Below.drew ?_ | refine Below.trans ?_ (Below.mono (by assumption) (by first | omega | (simp <;> omega)))))⟩
theorem byteOf_15 (a : V) (w : World) : Calls Tryz.prog 96 #[vv a, iv (15 : Int)] w fun e w' => e = .returned (.int .u8 (U (a.d >>> 24 &&& 255#32))) ∧ Below w.heap.size w w' := by
  go_enter Tryz.func96, Tryz.ntmps96
  go_wp2
  go_ret
  exact ⟨by rw [← U_byte]; rfl, by (repeat (first | exact Below.refl _ _ | refine Below.setCell ?_ (by first | omega | (simp <;> omega)) _ | refine Below.alloc ?_ (by first | omega | (simp <;> omega)) _ | refine Below.drew ?_ | refine Below.trans ?_ (Below.mono (by assumption) (by first | omega | (simp <;> omega)))))⟩
def Rf.flags (r : BitVec 32) (c v : Bool) : Int := (if decide (r = 0#32) = true then 1 else 0) + (if decide (S r < 0) = true then 2 else 0) + (if c = true then 4 else 0) + (if v = true then 8 else 0)
theorem signed7_c (a : BitVec 32) (w : World) : Calls Tryz.prog 114 #[uv a] w fun e w' => e = .returned (iv (S a)) ∧ Below w.heap.size w w' := by
  go_enter Tryz.func114, Tryz.ntmps114
  go_wp2
  go_ret
  refine ⟨?_, by (repeat (first | exact Below.refl _ _ | refine Below.setCell ?_ (by first | omega | (simp <;> omega)) _ | refine Below.alloc ?_ (by first | omega | (simp <;> omega)) _ | refine Below.drew ?_ | refine Below.trans ?_ (Below.mono (by assumption) (by first | omega | (simp <;> omega)))))⟩
  show Ending.returned (iv (wrap64 (S a))) = _
  rw [wrap64_S]
theorem flagsOf_c (r : BitVec 32) (c v : Bool) (w : World) : Calls Tryz.prog 112 #[uv r, .bool c, .bool v] w fun e w' => e = .returned (iv (Rf.flags r c v)) ∧ Below w.heap.size w w' := by
  cases h0 : decide (r = 0#32)
  all_goals cases hn : decide (S r < 0)
  all_goals cases c
  all_goals cases v
  all_goals
    go_enter Tryz.func112, Tryz.ntmps112
    go_wp2_with (go_at_call 114; refine (signed7_c _ _).mono ?_; rintro e w1 ⟨rfl, hb⟩; obtain ⟨hc, hf⟩ := Flow.bcell hb; have hz := hb.size; (try simp only [World.size_alloc, World.size_setCell, World.size_drew] at hz))
    go_ret
    refine ⟨?_, by (repeat (first | exact Below.refl _ _ | refine Below.setCell ?_ (by first | omega | (simp <;> omega)) _ | refine Below.alloc ?_ (by first | omega | (simp <;> omega)) _ | refine Below.drew ?_ | refine Below.trans ?_ (Below.mono (by assumption) (by first | omega | (simp <;> omega)))))⟩
    unfold Rf.flags
    rw [h0, hn]
    rfl
def Rf.wide (n : Int) : Bool := decide (n < -2147483648) || decide (2147483647 < n)
theorem wide7_c (n : Int) (w : World) : Calls Tryz.prog 113 #[iv n] w fun e w' => e = .returned (.bool (Rf.wide n)) ∧ Below w.heap.size w w' := by
  cases h0 : decide (n < -2147483648)
  all_goals cases hn : decide (2147483647 < n)
  all_goals
    go_enter Tryz.func113, Tryz.ntmps113
    go_wp2
    go_ret
    refine ⟨?_, by (repeat (first | exact Below.refl _ _ | refine Below.setCell ?_ (by first | omega | (simp <;> omega)) _ | refine Below.alloc ?_ (by first | omega | (simp <;> omega)) _ | refine Below.drew ?_ | refine Below.trans ?_ (Below.mono (by assumption) (by first | omega | (simp <;> omega)))))⟩
    unfold Rf.wide
    rw [h0, hn]
    rfl
abbrev AluC (op : Int) (a b : BitVec 32) (c : Int) (r : BitVec 32) (f : Int) (k : Bool) : Prop := ∀ w, Calls Tryz.prog 56 #[iv op, uv a, uv b, iv c] w fun e w' => e = .returned (.tuple #[uv r, iv f, .bool k]) ∧ Below w.heap.size w w'
set_option maxRecDepth 100000 in
theorem alu7_3 (a b : BitVec 32) (c : Int) : ∃ C V, AluC 3 a b c (a + b) (Rf.flags (a + b) C V) true := by
  refine ⟨decide (4294967296 ≤ wrap64 (wrap64 (wrap64 (U a) + wrap64 (U b)))), Rf.wide (wrap64 (wrap64 (S a + S b))), fun w => ?_⟩
  go_enter Tryz.func56, Tryz.ntmps56
  go_wp2_with (first | (go_at_call 114; refine (signed7_c _ _).mono ?_; rintro e w1 ⟨rfl, hb⟩; obtain ⟨hc, hf⟩ := Flow.bcell hb; have hz := hb.size; (try simp only [World.size_alloc, World.size_setCell, World.size_drew] at hz)) | (go_at_call 113; refine (wide7_c _ _).mono ?_; rintro e w1 ⟨rfl, hb⟩; obtain ⟨hc, hf⟩ := Flow.bcell hb; have hz := hb.size; (try simp only [World.size_alloc, World.size_setCell, World.size_drew] at hz)) | (go_at_call 112; refine (flagsOf_c _ _ _ _).mono ?_; rintro e w1 ⟨rfl, hb⟩; obtain ⟨hc, hf⟩ := Flow.bcell hb; have hz := hb.size; (try simp only [World.size_alloc, World.size_setCell, World.size_drew] at hz)))
  go_ret3
  exact ⟨rfl, by (repeat (first | exact Below.refl _ _ | refine Below.setCell ?_ (by first | omega | (simp <;> omega)) _ | refine Below.alloc ?_ (by first | omega | (simp <;> omega)) _ | refine Below.drew ?_ | refine Below.trans ?_ (Below.mono (by assumption) (by first | omega | (simp <;> omega)))))⟩
set_option maxRecDepth 100000 in
theorem alu7_4 (a b : BitVec 32) (c : Int) : ∃ C V, AluC 4 a b c (a - b) (Rf.flags (a - b) C V) true := by
  refine ⟨decide (wrap64 (U a) < wrap64 (wrap64 (U b))), Rf.wide (wrap64 (wrap64 (S a - S b))), fun w => ?_⟩
  go_enter Tryz.func56, Tryz.ntmps56
  go_wp2_with (first | (go_at_call 114; refine (signed7_c _ _).mono ?_; rintro e w1 ⟨rfl, hb⟩; obtain ⟨hc, hf⟩ := Flow.bcell hb; have hz := hb.size; (try simp only [World.size_alloc, World.size_setCell, World.size_drew] at hz)) | (go_at_call 113; refine (wide7_c _ _).mono ?_; rintro e w1 ⟨rfl, hb⟩; obtain ⟨hc, hf⟩ := Flow.bcell hb; have hz := hb.size; (try simp only [World.size_alloc, World.size_setCell, World.size_drew] at hz)) | (go_at_call 112; refine (flagsOf_c _ _ _ _).mono ?_; rintro e w1 ⟨rfl, hb⟩; obtain ⟨hc, hf⟩ := Flow.bcell hb; have hz := hb.size; (try simp only [World.size_alloc, World.size_setCell, World.size_drew] at hz)))
  go_ret3
  exact ⟨rfl, by (repeat (first | exact Below.refl _ _ | refine Below.setCell ?_ (by first | omega | (simp <;> omega)) _ | refine Below.alloc ?_ (by first | omega | (simp <;> omega)) _ | refine Below.drew ?_ | refine Below.trans ?_ (Below.mono (by assumption) (by first | omega | (simp <;> omega)))))⟩
set_option maxRecDepth 100000 in
theorem alu7_11 (a b : BitVec 32) (c : Int) : AluC 11 a b c (a * b) (0) true := by
  intro w
  go_enter Tryz.func56, Tryz.ntmps56
  go_wp2_with (go_at_call 114; refine (signed7_c _ _).mono ?_; rintro e w1 ⟨rfl, hb⟩; obtain ⟨hc, hf⟩ := Flow.bcell hb; have hz := hb.size; (try simp only [World.size_alloc, World.size_setCell, World.size_drew] at hz))
  go_ret3
  exact ⟨rfl, by (repeat (first | exact Below.refl _ _ | refine Below.setCell ?_ (by first | omega | (simp <;> omega)) _ | refine Below.alloc ?_ (by first | omega | (simp <;> omega)) _ | refine Below.drew ?_ | refine Below.trans ?_ (Below.mono (by assumption) (by first | omega | (simp <;> omega)))))⟩
theorem U_ofInt (n : Int) : U (BitVec.ofInt 32 n) = n % 4294967296 := by
  unfold U
  rw [BitVec.toNat_ofInt]
  omega
theorem U_ne {b : BitVec 32} (h : decide (b = 0#32) = false) : ¬ U b = 0 := by
  have h1 := of_decide_eq_false h
  intro h2
  apply h1
  unfold U at h2
  apply BitVec.eq_of_toNat_eq
  simp only [BitVec.toNat_ofNat]
  omega
theorem S_ne {b : BitVec 32} (h : decide (b = 0#32) = false) : ¬ S b = 0 := by
  have h1 := of_decide_eq_false h
  intro h2
  apply h1
  apply BitVec.eq_of_toInt_eq
  exact h2
set_option maxRecDepth 100000 in
theorem alu7_12 (a b : BitVec 32) (c : Int) : AluC 12 a b c (BitVec.ofInt 32 (IntKind.u64.wrap (IntKind.u64.wrap (U a) * IntKind.u64.wrap (U b)) / 4294967296)) 0 true := by
  intro w
  go_enter Tryz.func56, Tryz.ntmps56
  go_wp2_with (go_at_call 114; refine (signed7_c _ _).mono ?_; rintro e w1 ⟨rfl, hb⟩; obtain ⟨hc, hf⟩ := Flow.bcell hb; have hz := hb.size; (try simp only [World.size_alloc, World.size_setCell, World.size_drew] at hz))
  go_ret3
  refine ⟨?_, by (repeat (first | exact Below.refl _ _ | refine Below.setCell ?_ (by first | omega | (simp <;> omega)) _ | refine Below.alloc ?_ (by first | omega | (simp <;> omega)) _ | refine Below.drew ?_ | refine Below.trans ?_ (Below.mono (by assumption) (by first | omega | (simp <;> omega)))))⟩
  have he := U_ofInt (IntKind.u64.wrap (IntKind.u64.wrap (U a) * IntKind.u64.wrap (U b)) / 4294967296)
  rw [show uv (BitVec.ofInt 32 (IntKind.u64.wrap (IntKind.u64.wrap (U a) * IntKind.u64.wrap (U b)) / 4294967296)) = Value.int .u32 ((IntKind.u64.wrap (IntKind.u64.wrap (U a) * IntKind.u64.wrap (U b)) / 4294967296) % 4294967296) from by unfold uv; rw [he]]
  rfl
set_option maxRecDepth 100000 in
theorem alu7_13 (a b : BitVec 32) (h : decide (b = 0#32) = false) (c : Int) : AluC 13 a b c (BitVec.ofInt 32 (U (a / b))) 0 true := by
  intro w
  have hU := U_ne h
  have hS := S_ne h
  go_enter Tryz.func56, Tryz.ntmps56
  go_wp2_with (go_at_call 114; refine (signed7_c _ _).mono ?_; rintro e w1 ⟨rfl, hb⟩; obtain ⟨hc, hf⟩ := Flow.bcell hb; have hz := hb.size; (try simp only [World.size_alloc, World.size_setCell, World.size_drew] at hz))
  go_ret3
  refine ⟨?_, by (repeat (first | exact Below.refl _ _ | refine Below.setCell ?_ (by first | omega | (simp <;> omega)) _ | refine Below.alloc ?_ (by first | omega | (simp <;> omega)) _ | refine Below.drew ?_ | refine Below.trans ?_ (Below.mono (by assumption) (by first | omega | (simp <;> omega)))))⟩
  have he := U_ofInt (U (a / b))
  rw [show uv (BitVec.ofInt 32 (U (a / b))) = Value.int .u32 ((U (a / b)) % 4294967296) from by unfold uv; rw [he]]
  rfl
set_option maxRecDepth 100000 in
theorem alu7_15 (a b : BitVec 32) (h : decide (b = 0#32) = false) (c : Int) : AluC 15 a b c (BitVec.ofInt 32 (wrap64 ((S a).tdiv (S b)))) 0 true := by
  intro w
  have hU := U_ne h
  have hS := S_ne h
  go_enter Tryz.func56, Tryz.ntmps56
  go_wp2_with (go_at_call 114; refine (signed7_c _ _).mono ?_; rintro e w1 ⟨rfl, hb⟩; obtain ⟨hc, hf⟩ := Flow.bcell hb; have hz := hb.size; (try simp only [World.size_alloc, World.size_setCell, World.size_drew] at hz))
  go_ret3
  refine ⟨?_, by (repeat (first | exact Below.refl _ _ | refine Below.setCell ?_ (by first | omega | (simp <;> omega)) _ | refine Below.alloc ?_ (by first | omega | (simp <;> omega)) _ | refine Below.drew ?_ | refine Below.trans ?_ (Below.mono (by assumption) (by first | omega | (simp <;> omega)))))⟩
  have he := U_ofInt (wrap64 ((S a).tdiv (S b)))
  rw [show uv (BitVec.ofInt 32 (wrap64 ((S a).tdiv (S b)))) = Value.int .u32 ((wrap64 ((S a).tdiv (S b))) % 4294967296) from by unfold uv; rw [he]]
  rfl
set_option maxRecDepth 100000 in
theorem alu7_13z (a b : BitVec 32) (h : decide (b = 0#32) = true) (c : Int) : AluC 13 a b c 0#32 0 false := by
  intro w
  go_enter Tryz.func56, Tryz.ntmps56
  go_wp2
  go_ret3
  exact ⟨rfl, by (repeat (first | exact Below.refl _ _ | refine Below.setCell ?_ (by first | omega | (simp <;> omega)) _ | refine Below.alloc ?_ (by first | omega | (simp <;> omega)) _ | refine Below.drew ?_ | refine Below.trans ?_ (Below.mono (by assumption) (by first | omega | (simp <;> omega)))))⟩
set_option maxRecDepth 100000 in
theorem alu7_14z (a b : BitVec 32) (h : decide (b = 0#32) = true) (c : Int) : AluC 14 a b c 0#32 0 false := by
  intro w
  go_enter Tryz.func56, Tryz.ntmps56
  go_wp2
  go_ret3
  exact ⟨rfl, by (repeat (first | exact Below.refl _ _ | refine Below.setCell ?_ (by first | omega | (simp <;> omega)) _ | refine Below.alloc ?_ (by first | omega | (simp <;> omega)) _ | refine Below.drew ?_ | refine Below.trans ?_ (Below.mono (by assumption) (by first | omega | (simp <;> omega)))))⟩
set_option maxRecDepth 100000 in
theorem alu7_15z (a b : BitVec 32) (h : decide (b = 0#32) = true) (c : Int) : AluC 15 a b c 0#32 0 false := by
  intro w
  go_enter Tryz.func56, Tryz.ntmps56
  go_wp2
  go_ret3
  exact ⟨rfl, by (repeat (first | exact Below.refl _ _ | refine Below.setCell ?_ (by first | omega | (simp <;> omega)) _ | refine Below.alloc ?_ (by first | omega | (simp <;> omega)) _ | refine Below.drew ?_ | refine Below.trans ?_ (Below.mono (by assumption) (by first | omega | (simp <;> omega)))))⟩
set_option maxRecDepth 100000 in
theorem alu7_14 (a b : BitVec 32) (h : decide (b = 0#32) = false) (c : Int) : AluC 14 a b c (a % b) (0) true := by
  intro w
  have hU := U_ne h
  go_enter Tryz.func56, Tryz.ntmps56
  go_wp2_with (go_at_call 114; refine (signed7_c _ _).mono ?_; rintro e w1 ⟨rfl, hb⟩; obtain ⟨hc, hf⟩ := Flow.bcell hb; have hz := hb.size; (try simp only [World.size_alloc, World.size_setCell, World.size_drew] at hz))
  go_ret3
  exact ⟨rfl, by (repeat (first | exact Below.refl _ _ | refine Below.setCell ?_ (by first | omega | (simp <;> omega)) _ | refine Below.alloc ?_ (by first | omega | (simp <;> omega)) _ | refine Below.drew ?_ | refine Below.trans ?_ (Below.mono (by assumption) (by first | omega | (simp <;> omega)))))⟩
end Go.Proofs.YtboknfppecgjmaaGreat
