/- Part 32 of the proof's texts: RefShuf, PlainM. -/
import Derived.Test.YtboknfppecgjmaaGreatSnd25
namespace Go.Proofs.YtboknfppecgjmaaGreat
set_option linter.unusedVariables false
set_option linter.unusedSimpArgs false
open Go.RowKit Go.Shelf
def Rf.shufLane (a y b : V) (i : Nat) : BitVec 32 := if decide (Rf.lane b 8 i &&& 15#32 = 0#32) = true then Rf.lane a 8 (Rf.lane y 8 i &&& 15#32).toNat else 255#32
def Rf.shufTo (a y b : V) : Nat → V
  | 0 => V.zero
  | n + 1 => Rf.setLane (Rf.shufTo a y b n) 8 n (Rf.shufLane a y b n)
theorem wrap_U (z : BitVec 32) : IntKind.i64.wrap (U z) = U z := by
  have h1 := U_nonneg z
  have h2 := U_lt z
  rw [IntKind.wrap_i64]; omega
attribute [go_sem] wrap_U
structure LS (n : Nat) (a y b o : V) (W : World) : Prop where
  A : W.heap[n]? = some (vcell a)
  Y : W.heap[n + 1]? = some (vcell y)
  B : W.heap[n + 1 + 1]? = some (vcell b)
  R : W.heap[n + 1 + 1 + 1]? = some (vcell V.zero)
  O : W.heap[n + 1 + 1 + 1 + 1]? = some (vcell o)
end Go.Proofs.YtboknfppecgjmaaGreat
namespace Go.Proofs.YtboknfppecgjmaaGreat
set_option linter.unusedVariables false
set_option linter.unusedSimpArgs false
theorem shufByte_high (a y b : V) (i t : Nat) (ht : 8 ≤ t) : (Vb.shufByte a y b i).getLsbD t = false := by
  have h8 : Wide 8 := .inl rfl
  have hm : (255#32).getLsbD t = false := by
    have := mk_bit h8 t
    rw [show mk 8 = 255#32 by decide] at this
    rw [this]
    apply decide_eq_false; omega
  unfold Vb.shufByte
  simp only
  split
  · exact hm
  · rw [BitVec.getLsbD_and]
    show (_ && (255#32).getLsbD t) = false
    rw [hm, Bool.and_false]
theorem shufWord_bit (a y b : V) (j t : Nat) (ht : t < 32) : (Vb.shufWord a y b j).getLsbD t = (Vb.shufByte a y b (4 * j + t / 8)).getLsbD (t % 8) := by
  unfold Vb.shufWord
  simp only [BitVec.getLsbD_or, BitVec.getLsbD_shiftLeft, ht, decide_true, Bool.true_and]
  have hh := shufByte_high a y b
  rcases (show t / 8 = 0 ∨ t / 8 = 1 ∨ t / 8 = 2 ∨ t / 8 = 3 by omega) with h | h | h | h
  · have h1 : t < 8 := by omega
    have h2 : t < 16 := by omega
    have h3 : t < 24 := by omega
    rw [h, show t % 8 = t by omega]
    simp [h1, h2, h3]
  · have h1 : ¬ t < 8 := by omega
    have h2 : t < 16 := by omega
    have h3 : t < 24 := by omega
    rw [h, show t % 8 = t - 8 by omega, hh _ t (by omega)]
    simp [h1, h2, h3]
  · have h1 : ¬ t < 8 := by omega
    have h2 : ¬ t < 16 := by omega
    have h3 : t < 24 := by omega
    rw [h, show t % 8 = t - 16 by omega, hh _ t (by omega), hh _ (t - 8) (by omega)]
    simp [h1, h2, h3]
  · have h1 : ¬ t < 8 := by omega
    have h2 : ¬ t < 16 := by omega
    have h3 : ¬ t < 24 := by omega
    rw [h, show t % 8 = t - 24 by omega, hh _ t (by omega), hh _ (t - 8) (by omega), hh _ (t - 16) (by omega)]
    simp [h1, h2, h3]
theorem top_bit (i : Nat) (hi : i < 32) : (2147483648#32).getLsbD i = decide (i = 31) := by
  have : (2147483648#32) = 1#32 <<< 31 := by decide
  rw [this]
  simp only [BitVec.getLsbD_shiftLeft, BitVec.getLsbD_one, hi, decide_true, Bool.true_and]
  by_cases h : i = 31
  · subst h; simp
  · have : i < 31 := by omega
    simp [h, this]
theorem flip_add (x : BitVec 32) : x ^^^ 2147483648#32 = x + 2147483648#32 := by
  apply BitVec.eq_of_getLsbD_eq; intro i hi
  rw [BitVec.getLsbD_xor, BitVec.getLsbD_add hi, top_bit i hi]
  have c0 : ∀ k, k ≤ 31 → BitVec.carry k x 2147483648#32 false = false := by
    intro k
    induction k with
    | zero => intro _; simp [BitVec.carry_zero]
    | succ k ih =>
      intro hk
      have hk31 : k ≠ 31 := by omega
      rw [BitVec.carry_succ, ih (by omega), top_bit k (by omega), decide_eq_false hk31]
      cases x.getLsbD k <;> rfl
  rw [c0 i (by omega)]
  simp
theorem S_flip (x : BitVec 32) : S x = ((x ^^^ 2147483648#32).toNat : Int) - 2147483648 := by
  rw [flip_add]
  unfold S
  rw [BitVec.toInt_eq_toNat_cond, BitVec.toNat_add]
  have hx := x.isLt
  show (if 2 * x.toNat < 2 ^ 32 then (x.toNat : Int) else (x.toNat : Int) - ((2 ^ 32 : Nat) : Int)) = ((((x.toNat + 2147483648) % 2 ^ 32 : Nat)) : Int) - 2147483648
  split <;> omega
theorem slt_flip (p q : BitVec 32) : decide (S p < S q) = decide ((p ^^^ 2147483648#32) < (q ^^^ 2147483648#32)) := by
  apply decide_eq_decide.2
  rw [S_flip, S_flip, BitVec.lt_def]
  omega
theorem sle_flip (p q : BitVec 32) : decide (S p ≤ S q) = decide ((p ^^^ 2147483648#32) ≤ (q ^^^ 2147483648#32)) := by
  apply decide_eq_decide.2
  rw [S_flip, S_flip, BitVec.le_def]
  omega
theorem lt_or_eq (p q : BitVec 32) : (decide (p < q) || decide (p = q)) = decide (p ≤ q) := by
  rw [Bool.eq_iff_iff]
  simp only [Bool.or_eq_true, decide_eq_true_eq]
  rw [BitVec.lt_def, BitVec.le_def]
  constructor
  · rintro (h | rfl)
    · omega
    · omega
  · intro h
    by_cases he : p = q
    · exact .inr he
    · left
      have : p.toNat ≠ q.toNat := fun e => he (BitVec.eq_of_toNat_eq e)
      omega
end Go.Proofs.YtboknfppecgjmaaGreat
