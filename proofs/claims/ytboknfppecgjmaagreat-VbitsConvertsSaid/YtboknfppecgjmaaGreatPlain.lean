/- Plain laws on words: what package vbits computes is what its reference computes. -/
import Derived.Test.YtboknfppecgjmaaGreatRefSpec
namespace Go.Proofs.YtboknfppecgjmaaGreat
set_option linter.unusedVariables false
set_option linter.unusedSimpArgs false

theorem bv_low (k : Nat) (x m : BitVec 32) (hm : m.toNat = 2 ^ k - 1) : (x &&& ~~~m = 0#32) ↔ x.toNat < 2 ^ k := by
  have hbit : ∀ i, m.getLsbD i = decide (i < k) := by
    intro i
    rw [BitVec.getLsbD, hm, Nat.testBit_two_pow_sub_one]
  constructor
  · intro h
    apply Nat.lt_pow_two_of_testBit
    intro i hi
    have h1 : (x &&& ~~~m).getLsbD i = false := by rw [h]; simp
    rw [BitVec.getLsbD_and, BitVec.getLsbD_not, hbit] at h1
    by_cases h32 : i < 32
    · have : x.getLsbD i = false := by
        simpa [h32, show ¬ i < k by omega] using h1
      exact this
    · exact Nat.testBit_lt_two_pow (Nat.lt_of_lt_of_le x.isLt (Nat.pow_le_pow_right (by omega) (by omega)))
  · intro h
    apply BitVec.eq_of_getLsbD_eq
    intro i hi
    rw [BitVec.getLsbD_and, BitVec.getLsbD_not, hbit]
    by_cases hk : i < k
    · simp [hk, hi]
    · have : x.getLsbD i = false := Nat.testBit_lt_two_pow (Nat.lt_of_lt_of_le h (Nat.pow_le_pow_right (by omega) (by omega)))
      simp [this]
theorem bv_all (x : BitVec 32) : x &&& 4294967295#32 = x := BitVec.and_allOnes
theorem bv_low1 (x : BitVec 32) : (x &&& 4294967294#32 = 0#32) ↔ x.toNat < 2 := bv_low 1 x 1#32 rfl
theorem bv_low8 (x : BitVec 32) : (x &&& 4294967040#32 = 0#32) ↔ x.toNat < 256 := bv_low 8 x 255#32 rfl
theorem bv_low16 (x : BitVec 32) : (x &&& 4294901760#32 = 0#32) ↔ x.toNat < 65536 := bv_low 16 x 65535#32 rfl

theorem isZero_iff (x : V) : x.isZero = true ↔ x.a = 0#32 ∧ x.b = 0#32 ∧ x.c = 0#32 ∧ x.d = 0#32 := by
  cases x; simp [V.isZero, V.zero]

theorem ones_1 : Vb.ones 1 = ⟨1#32, 0#32, 0#32, 0#32⟩ := rfl
theorem ones_8 : Vb.ones 8 = ⟨255#32, 0#32, 0#32, 0#32⟩ := rfl
theorem ones_16 : Vb.ones 16 = ⟨65535#32, 0#32, 0#32, 0#32⟩ := rfl
theorem ones_32 : Vb.ones 32 = ⟨4294967295#32, 0#32, 0#32, 0#32⟩ := rfl
theorem ones_128 : Vb.ones 128 = ⟨4294967295#32, 4294967295#32, 4294967295#32, 4294967295#32⟩ := rfl
theorem ones_other {ty : Int} (h1 : ty ≠ 1) (h2 : ty ≠ 8) (h3 : ty ≠ 16) (h4 : ty ≠ 32) (h5 : ty ≠ 128) : Vb.ones ty = V.zero := by
  simp [Vb.ones, h1, h2, h3, h4, h5]
theorem isType_iff (ty : Int) : Vb.isType ty = true ↔ ty = 1 ∨ ty = 8 ∨ ty = 16 ∨ ty = 32 ∨ ty = 128 := by
  by_cases e1 : ty = 1
  · subst e1; simp; rfl
  by_cases e2 : ty = 8
  · subst e2; simp; rfl
  by_cases e3 : ty = 16
  · subst e3; simp; rfl
  by_cases e4 : ty = 32
  · subst e4; simp; rfl
  by_cases e5 : ty = 128
  · subst e5; simp; rfl
  rw [Vb.isType, ones_other e1 e2 e3 e4 e5]
  simp [e1, e2, e3, e4, e5, V.isZero]

theorem is_eq_fits (ty : Int) (x : V) : Vb.is ty x = Rf.fits ty x := by
  rw [Bool.eq_iff_iff]
  by_cases e1 : ty = 1
  · subst e1
    simp [Vb.is, (isType_iff 1).2, isZero_iff, ones_1, V.without, V.map2, bv_low1, bv_all, Rf.fits, BitVec.lt_def, and_comm]
  by_cases e2 : ty = 8
  · subst e2
    simp [Vb.is, (isType_iff 8).2, isZero_iff, ones_8, V.without, V.map2, bv_low8, bv_all, Rf.fits, BitVec.lt_def, and_comm]
  by_cases e3 : ty = 16
  · subst e3
    simp [Vb.is, (isType_iff 16).2, isZero_iff, ones_16, V.without, V.map2, bv_low16, bv_all, Rf.fits, BitVec.lt_def, and_comm]
  by_cases e4 : ty = 32
  · subst e4
    simp [Vb.is, (isType_iff 32).2, isZero_iff, ones_32, V.without, V.map2, bv_all, Rf.fits, Rf.bytes, and_comm]
  by_cases e5 : ty = 128
  · subst e5
    simp [Vb.is, (isType_iff 128).2, isZero_iff, ones_128, V.without, V.map2, bv_all, Rf.fits, Rf.bytes, and_comm]
  have h : Vb.isType ty = false := by
    rw [← Bool.not_eq_true, isType_iff]; simp [e1, e2, e3, e4, e5]
  simp [Vb.is, h, Rf.fits, Rf.bytes, e1, e2, e3, e4, e5]

theorem bytes_iff (ty : Int) : Rf.bytes ty = 0 ↔ Vb.isType ty = false := by
  rw [← Bool.not_eq_true, isType_iff]
  unfold Rf.bytes
  by_cases e1 : ty = 1
  · simp [e1]
  by_cases e2 : ty = 8
  · simp [e2]
  by_cases e3 : ty = 16
  · simp [e3]
  by_cases e4 : ty = 32
  · simp [e4]
  by_cases e5 : ty = 128
  · simp [e5]
  simp [e1, e2, e3, e4, e5]

theorem vor_assoc (x y z : V) : (x.or y).or z = x.or (y.or z) := by
  simp [V.or, V.map2, BitVec.or_assoc]

theorem mux_eq (ty : Int) (c d x a y b : V) : Vb.mux ty c d x a y b = Rf.mux ty c d x a y b := by
  unfold Vb.mux Rf.mux
  simp only [← is_eq_fits, bytes_iff]
  by_cases h : Vb.isType ty = false
  · simp [Vb.is, h]
  · simp only [h, false_or]
    by_cases h1 : Vb.is ty x = false <;> by_cases h2 : Vb.is ty a = false <;> by_cases h3 : Vb.is ty y = false <;> by_cases h4 : Vb.is ty b = false <;> by_cases h5 : Vb.is 1 c = false <;> by_cases h6 : Vb.is 1 d = false <;> simp [h1, h2, h3, h4, h5, h6, vor_assoc]

theorem call_eq (op : Int) (s : List (BitVec 32)) : Vb.call op s = Rf.call op s := by
  unfold Vb.call Rf.call
  have hany : (s.any (· != 0#32) = false) ↔ (s.all (· == 0) = true) := by
    rw [List.any_eq_false, List.all_eq_true]
    simp
  by_cases h1 : op = 1
  · subst h1
    by_cases h : s.length = 4
    · simp only [h, hany]; simp; split <;> rfl
    · simp [h]
  · by_cases h2 : op = 2
    · subst h2
      by_cases h : s.length = 5
      · simp only [h, hany]; simp; split <;> rfl
      · simp [h]
    · simp [h1, h2]
end Go.Proofs.YtboknfppecgjmaaGreat
