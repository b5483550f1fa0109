/- Plain laws on what package vbits computes: exchanged operands, duals, lanes that are words, fillings. -/
import Derived.Test.YtboknfppecgjmaaGreatPlain
namespace Go.Proofs.YtboknfppecgjmaaGreat
set_option linter.unusedVariables false
set_option linter.unusedSimpArgs false

/-! ### vectors -/
theorem vor_comm (x y : V) : x.or y = y.or x := by simp [V.or, V.map2, BitVec.or_comm]
theorem vxor_comm (x y : V) : x.xor y = y.xor x := by simp [V.xor, V.map2, BitVec.xor_comm]

/-! ### exchanged operands -/
def commutes (op : Int) : Bool := decide (op = 8 ∨ op = 9 ∨ op = 10 ∨ op = 1 ∨ op = 3 ∨ op = 4 ∨ op = 14 ∨ op = 15 ∨ op = 20 ∨ op = 21 ∨ op = 22 ∨ op = 26 ∨ op = 27 ∨ op = 28)
theorem added_comm (x a y b : BitVec 32) : Vb.added x a y b = Vb.added y b x a := by
  unfold Vb.added
  rw [BitVec.or_comm a b, BitVec.add_comm (x &&& ~~~a), BitVec.add_comm (x ||| a)]
theorem equal_comm (x a y b : BitVec 32) : Vb.equal x a y b = Vb.equal y b x a := by
  unfold Vb.equal
  rw [BitVec.xor_comm x y, BitVec.or_comm a b]
theorem lanesFrom_comm (width : Nat) (f : BitVec 32 → BitVec 32 → BitVec 32 → BitVec 32 → BitVec 32) (hf : ∀ x a y b, f x a y b = f y b x a) (x a y b : BitVec 32) :
    ∀ (n at_ : Nat) (acc : BitVec 32), Vb.lanesFrom width f x a y b n at_ acc = Vb.lanesFrom width f y b x a n at_ acc
  | 0, _, _ => rfl
  | n + 1, at_, acc => by
    simp only [Vb.lanesFrom]
    rw [lanesFrom_comm width f hf x a y b n, hf]
theorem each_comm (width : Nat) (f : BitVec 32 → BitVec 32 → BitVec 32 → BitVec 32 → BitVec 32) (hf : ∀ x a y b, f x a y b = f y b x a) (x a y b : V) : Vb.each width x a y b f = Vb.each width y b x a f := by
  simp only [Vb.each, Vb.eachWord, lanesFrom_comm width f hf x.a, lanesFrom_comm width f hf x.b, lanesFrom_comm width f hf x.c, lanesFrom_comm width f hf x.d]
theorem second_ty {op : Int} (h : op ≠ 30) (ty off : Int) : Vb.second op ty off = 0 ∨ Vb.second op ty off = ty := by
  unfold Vb.second
  simp only [h, false_and, if_false]
  split
  · exact .inl rfl
  · split
    · exact .inr rfl
    · exact .inl rfl
theorem binOp_comm {op : Int} (h : commutes op = true) (ty off : Int) (x a y b : V) : Vb.binOp ⟨op, ty, off, x, a, y, b⟩ = Vb.binOp ⟨op, ty, off, y, b, x, a⟩ := by
  simp only [commutes, decide_eq_true_eq] at h
  rcases h with rfl | rfl | rfl | rfl | rfl | rfl | rfl | rfl | rfl | rfl | rfl | rfl | rfl | rfl
  · exact vor_comm _ _
  · exact vor_comm _ _
  · exact vor_comm _ _
  · exact each_comm _ _ added_comm _ _ _ _
  · show V.word (Vb.left (a.a ||| b.a)) = V.word (Vb.left (b.a ||| a.a)); rw [BitVec.or_comm]
  · show V.word (Vb.some (a.a ||| b.a)) = V.word (Vb.some (b.a ||| a.a)); rw [BitVec.or_comm]
  · show Vb.one (!(a.or b).isZero && ((x.xor y).without (a.or b)).isZero) = Vb.one (!(b.or a).isZero && ((y.xor x).without (b.or a)).isZero)
    rw [vor_comm a b, vxor_comm x y]
  · show Vb.one (!(a.or b).isZero && ((x.xor y).without (a.or b)).isZero) = Vb.one (!(b.or a).isZero && ((y.xor x).without (b.or a)).isZero)
    rw [vor_comm a b, vxor_comm x y]
  · exact each_comm _ _ added_comm _ _ _ _
  · exact each_comm _ _ added_comm _ _ _ _
  · exact each_comm _ _ added_comm _ _ _ _
  · exact each_comm _ _ equal_comm _ _ _ _
  · exact each_comm _ _ equal_comm _ _ _ _
  · exact each_comm _ _ equal_comm _ _ _ _
theorem bin_comm {op : Int} (h : commutes op = true) (ty : Int) (x a y b : V) : Vb.bin op ty 0 x a y b = Vb.bin op ty 0 y b x a := by
  have h30 : op ≠ 30 := by
    rintro rfl
    simp [commutes] at h
  unfold Vb.bin
  rw [binOp_comm h]
  rcases second_ty h30 ty 0 with hs | hs
  · simp [hs]
  · rw [hs]
    have : ∀ p q r s t : Prop, (p ∨ q ∨ r ∨ s ∨ t) ↔ (p ∨ s ∨ t ∨ q ∨ r) := by intros; constructor <;> (intro h; rcases h with h | h | h | h | h <;> simp [h])
    by_cases hc : (ty = 0 ∨ Vb.is ty x = false ∨ Vb.is ty a = false ∨ Vb.is ty y = false ∨ Vb.is ty b = false)
    · rw [if_pos hc, if_pos ((this _ _ _ _ _).1 hc)]
    · rw [if_neg hc, if_neg (fun h' => hc ((this _ _ _ _ _).2 h'))]

/-! ### lanes of 32 bits are words -/
theorem eachWord_32 (f : BitVec 32 → BitVec 32 → BitVec 32 → BitVec 32 → BitVec 32) (x a y b : BitVec 32) : Vb.eachWord 32 f x a y b = f x a y b := by
  have hm : ((1#32 <<< 32) - 1#32) <<< 0 = 4294967295#32 := by decide
  have hk : ∀ z : BitVec 32, z &&& 4294967295#32 = z := bv_all
  have hs : ∀ z : BitVec 32, z >>> 0 = z := fun z => by simp
  have hl : ∀ z : BitVec 32, z <<< 0 = z := fun z => by simp
  have hz : ∀ z : BitVec 32, 0 ||| z = z := fun z => by simp
  show Vb.lanesFrom 32 f x a y b 1 0 0 = _
  simp only [Vb.lanesFrom, hm, hk, hs, hl, hz]
theorem each_32 (f : BitVec 32 → BitVec 32 → BitVec 32 → BitVec 32 → BitVec 32) (x a y b : V) :
    Vb.each 32 x a y b f = ⟨f x.a a.a y.a b.a, f x.b a.b y.b b.b, f x.c a.c y.c b.c, f x.d a.d y.d b.d⟩ := by
  simp only [Vb.each, eachWord_32]
theorem is_128 (x : V) : Vb.is 128 x = true := by
  simp [Vb.is, (isType_iff 128).2, isZero_iff, ones_128, V.without, V.map2, bv_all]
theorem is_32 (w : BitVec 32) : Vb.is 32 (V.word w) = true := by
  simp [Vb.is, (isType_iff 32).2, isZero_iff, ones_32, V.without, V.map2, bv_all, V.word]
theorem is_1_one (b : Bool) : Vb.is 1 (Vb.one b) = true := by cases b <;> decide

/-! ### words -/
theorem bin_add_v (p c q d : BitVec 32) : Vb.bin 1 32 0 (V.word p) (V.word c) (V.word q) (V.word d) = (V.mk (Vb.added p c q d) (Vb.added 0 0 0 0) (Vb.added 0 0 0 0) (Vb.added 0 0 0 0), 0) := by
  have hs : Vb.second 1 32 0 = 32 := by decide
  unfold Vb.bin
  simp only [hs, is_32]
  simp only [Bool.true_eq_false, or_self, or_false, if_neg (show ¬ (32 : Int) = 0 by decide)]
  show (Vb.each 32 (V.word p) (V.word c) (V.word q) (V.word d) Vb.added, (0 : Int)) = _
  rw [each_32]
  rfl
theorem bin_sub_v (p c q d : BitVec 32) : Vb.bin 2 32 0 (V.word p) (V.word c) (V.word q) (V.word d) = (V.mk (Vb.subtracted p c q d) (Vb.subtracted 0 0 0 0) (Vb.subtracted 0 0 0 0) (Vb.subtracted 0 0 0 0), 0) := by
  have hs : Vb.second 2 32 0 = 32 := by decide
  unfold Vb.bin
  simp only [hs, is_32]
  simp only [Bool.true_eq_false, or_self, or_false, if_neg (show ¬ (32 : Int) = 0 by decide)]
  show (Vb.each 32 (V.word p) (V.word c) (V.word q) (V.word d) Vb.subtracted, (0 : Int)) = _
  rw [each_32]
  rfl
theorem bin_eq_v (p c q d : BitVec 32) : Vb.bin 14 32 0 (V.word p) (V.word c) (V.word q) (V.word d) = (Vb.one (decide (c ||| d ≠ 0#32) && decide ((p ^^^ q) &&& ~~~(c ||| d) = 0#32)), 0) := by
  have hs : Vb.second 14 32 0 = 32 := by decide
  unfold Vb.bin
  simp only [hs, is_32]
  simp only [Bool.true_eq_false, or_self, or_false, if_neg (show ¬ (32 : Int) = 0 by decide)]
  show (Vb.one (!((V.word c).or (V.word d)).isZero && (((V.word p).xor (V.word q)).without ((V.word c).or (V.word d))).isZero), (0 : Int)) = _
  have e1 : ((V.word c).or (V.word d)).isZero = decide (c ||| d = 0#32) := by
    rw [Bool.eq_iff_iff, isZero_iff]; simp [V.or, V.map2, V.word]
  have e2 : (((V.word p).xor (V.word q)).without ((V.word c).or (V.word d))).isZero = decide ((p ^^^ q) &&& ~~~(c ||| d) = 0#32) := by
    rw [Bool.eq_iff_iff, isZero_iff]; simp [V.or, V.xor, V.without, V.map2, V.word]
  rw [e1, e2]
  simp
theorem un_fill_v (b : Bool) : Vb.un 6 1 32 0 V.zero (Vb.one b) = (if b then V.word 4294967295#32 else V.zero, 0) := by
  cases b <;> decide
theorem equal_eq (p c q d : BitVec 32) : Vb.equal p c q d = if (decide (c ||| d ≠ 0#32) && decide ((p ^^^ q) &&& ~~~(c ||| d) = 0#32)) = true then 4294967295#32 else 0#32 := by
  unfold Vb.equal Vb.some
  by_cases h1 : c ||| d = 0#32 <;> by_cases h2 : (p ^^^ q) &&& ~~~(c ||| d) = 0#32 <;> simp [h1, h2]
theorem bin_lanes (op : Int) (f : BitVec 32 → BitVec 32 → BitVec 32 → BitVec 32 → BitVec 32) (ho : (op = 22 ∧ f = Vb.added) ∨ (op = 25 ∧ f = Vb.subtracted) ∨ (op = 28 ∧ f = Vb.equal)) (x a y b : V) :
    Vb.bin op 128 0 x a y b = (⟨f x.a a.a y.a b.a, f x.b a.b y.b b.b, f x.c a.c y.c b.c, f x.d a.d y.d b.d⟩, 0) := by
  rcases ho with ⟨rfl, rfl⟩ | ⟨rfl, rfl⟩ | ⟨rfl, rfl⟩
  · have hs : Vb.second 22 128 0 = 128 := by decide
    unfold Vb.bin
    simp only [hs, is_128]
    simp only [Bool.true_eq_false, or_self, or_false, if_neg (show ¬ (128 : Int) = 0 by decide)]
    show (Vb.each 32 x a y b Vb.added, (0 : Int)) = _
    rw [each_32]
  · have hs : Vb.second 25 128 0 = 128 := by decide
    unfold Vb.bin
    simp only [hs, is_128]
    simp only [Bool.true_eq_false, or_self, or_false, if_neg (show ¬ (128 : Int) = 0 by decide)]
    show (Vb.each 32 x a y b Vb.subtracted, (0 : Int)) = _
    rw [each_32]
  · have hs : Vb.second 28 128 0 = 128 := by decide
    unfold Vb.bin
    simp only [hs, is_128]
    simp only [Bool.true_eq_false, or_self, or_false, if_neg (show ¬ (128 : Int) = 0 by decide)]
    show (Vb.each 32 x a y b Vb.equal, (0 : Int)) = _
    rw [each_32]
end Go.Proofs.YtboknfppecgjmaaGreat
