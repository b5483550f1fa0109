/- Plain laws on what package vbits computes: duals, fillings. -/
import Derived.Test.YtboknfppecgjmaaGreatPlainB
namespace Go.Proofs.YtboknfppecgjmaaGreat
set_option linter.unusedVariables false
set_option linter.unusedSimpArgs false

/-! ### bits of words -/
theorem ext4 {x y : V} (h1 : x.a = y.a) (h2 : x.b = y.b) (h3 : x.c = y.c) (h4 : x.d = y.d) : x = y := by
  cases x; cases y; simp only at h1 h2 h3 h4; subst h1 h2 h3 h4; rfl
theorem bw_not (m x : BitVec 32) (h : x &&& ~~~m = 0#32) : m ^^^ x = m &&& ~~~x := by
  apply BitVec.eq_of_getLsbD_eq
  intro i hi
  have hb := congrArg (fun z => z.getLsbD i) h
  simp [hi] at hb
  simp [hi]
  cases hm : m.getLsbD i <;> cases hx : x.getLsbD i <;> simp_all
theorem bw_in (m x : BitVec 32) (h : x &&& ~~~m = 0#32) : (m ^^^ x) &&& ~~~m = 0#32 := by
  apply BitVec.eq_of_getLsbD_eq
  intro i hi
  have hb := congrArg (fun z => z.getLsbD i) h
  simp [hi] at hb
  simp [hi]
  cases hm : m.getLsbD i <;> cases hx : x.getLsbD i <;> simp_all
theorem is_parts {ty : Int} {x : V} (h : Vb.is ty x = true) : Vb.isType ty = true ∧ x.a &&& ~~~(Vb.ones ty).a = 0#32 ∧ x.b &&& ~~~(Vb.ones ty).b = 0#32 ∧ x.c &&& ~~~(Vb.ones ty).c = 0#32 ∧ x.d &&& ~~~(Vb.ones ty).d = 0#32 := by
  unfold Vb.is at h
  rw [Bool.and_eq_true] at h
  exact ⟨h.1, (isZero_iff _).1 h.2⟩
theorem is_mk {ty : Int} {x : V} (h0 : Vb.isType ty = true) (h1 : x.a &&& ~~~(Vb.ones ty).a = 0#32) (h2 : x.b &&& ~~~(Vb.ones ty).b = 0#32) (h3 : x.c &&& ~~~(Vb.ones ty).c = 0#32) (h4 : x.d &&& ~~~(Vb.ones ty).d = 0#32) : Vb.is ty x = true := by
  unfold Vb.is
  rw [Bool.and_eq_true]
  exact ⟨h0, (isZero_iff _).2 ⟨h1, h2, h3, h4⟩⟩
theorem not_eq {ty : Int} {x : V} (h : Vb.is ty x = true) : Rf.not ty x = (Vb.ones ty).without x := by
  obtain ⟨_, h1, h2, h3, h4⟩ := is_parts h
  exact ext4 (bw_not _ _ h1) (bw_not _ _ h2) (bw_not _ _ h3) (bw_not _ _ h4)
theorem not_is {ty : Int} {x : V} (h : Vb.is ty x = true) : Vb.is ty (Rf.not ty x) = true := by
  obtain ⟨h0, h1, h2, h3, h4⟩ := is_parts h
  exact is_mk h0 (bw_in _ _ h1) (bw_in _ _ h2) (bw_in _ _ h3) (bw_in _ _ h4)

/-! ### duals -/
theorem second_any {op ty : Int} (ho : op = 8 ∨ op = 9 ∨ op = 10) (h : Vb.isType ty = true) : Vb.second op ty 0 = ty := by
  rcases ho with rfl | rfl | rfl <;> simp [Vb.second, h]
theorem bin_fine {op ty off : Int} {x a y b : V} (h0 : Vb.second op ty off ≠ 0) (h1 : Vb.is ty x = true) (h2 : Vb.is ty a = true) (h3 : Vb.is (Vb.second op ty off) y = true) (h4 : Vb.is (Vb.second op ty off) b = true) :
    Vb.bin op ty off x a y b = (Vb.binOp ⟨op, ty, off, x, a, y, b⟩, 0) := by
  unfold Vb.bin
  simp [h0, h1, h2, h3, h4]
theorem ty_ne {ty : Int} (h : Vb.isType ty = true) : ty ≠ 0 := by
  rintro rfl
  revert h
  decide
theorem dual_or {ty : Int} {x a y b : V} (h1 : Vb.is ty x = true) (h2 : Vb.is ty a = true) (h3 : Vb.is ty y = true) (h4 : Vb.is ty b = true) :
    (Vb.bin 9 ty 0 x a y b).2 = 0 ∧ Vb.bin 8 ty 0 (Rf.not ty x) a (Rf.not ty y) b = Vb.bin 9 ty 0 x a y b := by
  have ht := (is_parts h1).1
  have s9 := second_any (op := 9) (by simp) ht
  have s8 := second_any (op := 8) (by simp) ht
  rw [bin_fine (by rw [s9]; exact ty_ne ht) h1 h2 (by rw [s9]; exact h3) (by rw [s9]; exact h4),
    bin_fine (by rw [s8]; exact ty_ne ht) (not_is h1) h2 (by rw [s8]; exact not_is h3) (by rw [s8]; exact h4)]
  refine ⟨rfl, ?_⟩
  rw [not_eq h1, not_eq h3]
  rfl
theorem second_word {op : Int} (ho : op = 1 ∨ op = 2 ∨ op = 16 ∨ op = 17 ∨ op = 18 ∨ op = 19) : Vb.second op 32 0 = 32 := by
  rcases ho with rfl | rfl | rfl | rfl | rfl | rfl <;> decide
theorem bin_word {op : Int} (ho : op = 1 ∨ op = 2 ∨ op = 16 ∨ op = 17 ∨ op = 18 ∨ op = 19) (p c q d : BitVec 32) :
    Vb.bin op 32 0 (V.word p) (V.word c) (V.word q) (V.word d) = (Vb.binOp ⟨op, 32, 0, V.word p, V.word c, V.word q, V.word d⟩, 0) := by
  have hs := second_word ho
  exact bin_fine (by rw [hs]; decide) (is_32 _) (is_32 _) (by rw [hs]; exact is_32 _) (by rw [hs]; exact is_32 _)
theorem bw_n1 (p c : BitVec 32) : ~~~p &&& ~~~c = ~~~(p ||| c) := by
  apply BitVec.eq_of_getLsbD_eq; intro i hi; simp [hi]
theorem bw_n2 (p c : BitVec 32) : ~~~p ||| c = ~~~(p &&& ~~~c) := by
  apply BitVec.eq_of_getLsbD_eq; intro i hi; simp [hi]
theorem bw_n3 (a b : BitVec 32) : ~~~a + b = ~~~(a - b) := by
  have h1 : ∀ z : BitVec 32, ~~~z = -z - 1#32 := fun z => by rw [BitVec.neg_eq_not_add]; exact (BitVec.add_sub_cancel _ _).symm
  rw [h1, h1]
  apply BitVec.eq_of_toNat_eq
  simp only [BitVec.toNat_add, BitVec.toNat_sub, BitVec.toNat_neg]
  have := a.isLt
  have := b.isLt
  omega
theorem bw_n4 (a b : BitVec 32) : ~~~a ^^^ ~~~b = a ^^^ b := by
  apply BitVec.eq_of_getLsbD_eq; intro i hi; simp [hi]
theorem sub_add (p c q d : BitVec 32) : Vb.subtracted p c q d = Vb.added (~~~p) c q d := by
  unfold Vb.subtracted Vb.added
  rw [bw_n1, bw_n2, bw_n3, bw_n3, bw_n4, BitVec.xor_comm]
theorem bin_subadd (p c q d : BitVec 32) : Vb.bin 2 32 0 (V.word p) (V.word c) (V.word q) (V.word d) = Vb.bin 1 32 0 (V.word (~~~p)) (V.word c) (V.word q) (V.word d) := by
  rw [bin_sub_v, bin_add_v, sub_add]
  rfl
theorem lt_le (x y : BitVec 32) : (decide (x < y) || (decide (x = y) && true)) = !decide (y < x) := by
  rw [Bool.eq_iff_iff]
  simp only [Bool.or_eq_true, decide_eq_true_eq, Bool.and_true, Bool.not_eq_true', decide_eq_false_iff_not, BitVec.lt_def]
  constructor
  · rintro (h | h)
    · omega
    · rw [h]; omega
  · intro h
    by_cases h2 : x.toNat < y.toNat
    · exact .inl h2
    · exact .inr (BitVec.eq_of_toNat_eq (by omega))
theorem bin_ltle (op : Int) (ho : op = 16 ∨ op = 17) (p c q d : BitVec 32) : Vb.bin op 32 0 (V.word p) (V.word c) (V.word q) (V.word d) = Vb.bin (op + 2) 32 0 (V.word q) (V.word d) (V.word p) (V.word c) := by
  have key : ∀ a b : Bool, ((!a) != (!b)) = (b != a) := by decide
  rcases ho with rfl | rfl
  · rw [bin_word (by simp), bin_word (by simp)]
    show (Vb.one ((decide (Vb.least (p ^^^ 0) c < Vb.greatest (q ^^^ 0) d) || (decide (Vb.least (p ^^^ 0) c = Vb.greatest (q ^^^ 0) d) && false)) != (decide (Vb.greatest (p ^^^ 0) c < Vb.least (q ^^^ 0) d) || (decide (Vb.greatest (p ^^^ 0) c = Vb.least (q ^^^ 0) d) && false))), (0 : Int)) =
      (Vb.one ((decide (Vb.least (q ^^^ 0) d < Vb.greatest (p ^^^ 0) c) || (decide (Vb.least (q ^^^ 0) d = Vb.greatest (p ^^^ 0) c) && true)) != (decide (Vb.greatest (q ^^^ 0) d < Vb.least (p ^^^ 0) c) || (decide (Vb.greatest (q ^^^ 0) d = Vb.least (p ^^^ 0) c) && true))), (0 : Int))
    rw [lt_le, lt_le, key]
    simp only [Bool.and_false, Bool.or_false]
  · rw [bin_word (by simp), bin_word (by simp)]
    show (Vb.one ((decide (Vb.least (p ^^^ 2147483648#32) c < Vb.greatest (q ^^^ 2147483648#32) d) || (decide (Vb.least (p ^^^ 2147483648#32) c = Vb.greatest (q ^^^ 2147483648#32) d) && false)) != (decide (Vb.greatest (p ^^^ 2147483648#32) c < Vb.least (q ^^^ 2147483648#32) d) || (decide (Vb.greatest (p ^^^ 2147483648#32) c = Vb.least (q ^^^ 2147483648#32) d) && false))), (0 : Int)) =
      (Vb.one ((decide (Vb.least (q ^^^ 2147483648#32) d < Vb.greatest (p ^^^ 2147483648#32) c) || (decide (Vb.least (q ^^^ 2147483648#32) d = Vb.greatest (p ^^^ 2147483648#32) c) && true)) != (decide (Vb.greatest (q ^^^ 2147483648#32) d < Vb.least (p ^^^ 2147483648#32) c) || (decide (Vb.greatest (q ^^^ 2147483648#32) d = Vb.least (p ^^^ 2147483648#32) c) && true))), (0 : Int))
    rw [lt_le, lt_le, key]
    simp only [Bool.and_false, Bool.or_false]
theorem bin_lts (p c q d : BitVec 32) : Vb.bin 17 32 0 (V.word p) (V.word c) (V.word q) (V.word d) = Vb.bin 16 32 0 (V.word (p ^^^ 2147483648#32)) (V.word c) (V.word (q ^^^ 2147483648#32)) (V.word d) := by
  rw [bin_word (by simp), bin_word (by simp)]
  show (Vb.one ((decide (Vb.least (p ^^^ 2147483648#32) c < Vb.greatest (q ^^^ 2147483648#32) d) || (decide (Vb.least (p ^^^ 2147483648#32) c = Vb.greatest (q ^^^ 2147483648#32) d) && false)) != (decide (Vb.greatest (p ^^^ 2147483648#32) c < Vb.least (q ^^^ 2147483648#32) d) || (decide (Vb.greatest (p ^^^ 2147483648#32) c = Vb.least (q ^^^ 2147483648#32) d) && false))), (0 : Int)) =
    (Vb.one ((decide (Vb.least (p ^^^ 2147483648#32 ^^^ 0) c < Vb.greatest (q ^^^ 2147483648#32 ^^^ 0) d) || (decide (Vb.least (p ^^^ 2147483648#32 ^^^ 0) c = Vb.greatest (q ^^^ 2147483648#32 ^^^ 0) d) && false)) != (decide (Vb.greatest (p ^^^ 2147483648#32 ^^^ 0) c < Vb.least (q ^^^ 2147483648#32 ^^^ 0) d) || (decide (Vb.greatest (p ^^^ 2147483648#32 ^^^ 0) c = Vb.least (q ^^^ 2147483648#32 ^^^ 0) d) && false))), (0 : Int))
  have e : ∀ z : BitVec 32, z ^^^ 0 = z := fun z => by simp
  rw [e, e]

/-! ### fillings -/
def fits (x a y : BitVec 32) : Bool := decide ((x ^^^ y) &&& ~~~a = 0#32)
theorem fill_v (x a y : BitVec 32) : Vb.fill 32 (V.word x) (V.word a) (V.word y) = V.word ((x &&& ~~~a) ||| (y &&& a)) := by
  simp [Vb.fill, V.without, V.or, V.and, V.map2, V.word, ones_32, bv_all]
theorem fits_fill (x a y : BitVec 32) : fits x a ((x &&& ~~~a) ||| (y &&& a)) = true := by
  unfold fits
  rw [decide_eq_true_eq]
  apply BitVec.eq_of_getLsbD_eq; intro i hi; simp only [BitVec.getLsbD_and, BitVec.getLsbD_or, BitVec.getLsbD_xor, BitVec.getLsbD_not, hi, decide_true, Bool.true_and, BitVec.getLsbD_zero]
  cases x.getLsbD i <;> cases a.getLsbD i <;> (try cases y.getLsbD i) <;> rfl
theorem fits_least (x a : BitVec 32) : fits x a (Vb.least x a) = true := by
  unfold fits Vb.least
  rw [decide_eq_true_eq]
  apply BitVec.eq_of_getLsbD_eq; intro i hi; simp only [BitVec.getLsbD_and, BitVec.getLsbD_or, BitVec.getLsbD_xor, BitVec.getLsbD_not, hi, decide_true, Bool.true_and, BitVec.getLsbD_zero]
  cases x.getLsbD i <;> cases a.getLsbD i <;> (try cases y.getLsbD i) <;> rfl
theorem fits_greatest (x a : BitVec 32) : fits x a (Vb.greatest x a) = true := by
  unfold fits Vb.greatest
  rw [decide_eq_true_eq]
  apply BitVec.eq_of_getLsbD_eq; intro i hi; simp only [BitVec.getLsbD_and, BitVec.getLsbD_or, BitVec.getLsbD_xor, BitVec.getLsbD_not, hi, decide_true, Bool.true_and, BitVec.getLsbD_zero]
  cases x.getLsbD i <;> cases a.getLsbD i <;> (try cases y.getLsbD i) <;> rfl
theorem le_or (x y : BitVec 32) : x ≤ x ||| y := by
  rw [BitVec.le_def, BitVec.toNat_or]; exact Nat.left_le_or
theorem least_le (x a y : BitVec 32) : Vb.least x a ≤ (x &&& ~~~a) ||| (y &&& a) := le_or _ _
theorem le_greatest (x a y : BitVec 32) : (x &&& ~~~a) ||| (y &&& a) ≤ Vb.greatest x a := by
  have h : Vb.greatest x a = ((x &&& ~~~a) ||| (y &&& a)) ||| (x ||| a) := by
    unfold Vb.greatest
    apply BitVec.eq_of_getLsbD_eq; intro i hi; simp only [BitVec.getLsbD_and, BitVec.getLsbD_or, BitVec.getLsbD_xor, BitVec.getLsbD_not, hi, decide_true, Bool.true_and, BitVec.getLsbD_zero]
    cases x.getLsbD i <;> cases a.getLsbD i <;> (try cases y.getLsbD i) <;> rfl
  rw [h]; exact le_or _ _
theorem fill_fits {x a y : BitVec 32} (h : fits x a y = true) : (x &&& ~~~a) ||| (y &&& a) = y := by
  unfold fits at h
  rw [decide_eq_true_eq] at h
  apply BitVec.eq_of_getLsbD_eq
  intro i hi
  have hb := congrArg (fun z => z.getLsbD i) h
  simp [hi] at hb
  simp [hi]
  cases hx : x.getLsbD i <;> cases ha : a.getLsbD i <;> cases hy : y.getLsbD i <;> simp_all
end Go.Proofs.YtboknfppecgjmaaGreat
