/- Part 33 of the proof's texts: RefShuf, PlainM, PlainN. -/
import Derived.Test.YtboknfppecgjmaaGreatExa16
import Derived.Test.YtboknfppecgjmaaGreatExa25
set_option maxHeartbeats 16000000
namespace Go.Proofs.YtboknfppecgjmaaGreat
set_option linter.unusedVariables false
set_option linter.unusedSimpArgs false
open Go.RowKit Go.Shelf
def Rf.shufLane (a y b : V) (i : Nat) : BitVec 32 := if decide (Rf.lane b 8 i &&& 15#32 = 0#32) = true then Rf.lane a 8 (Rf.lane y 8 i &&& 15#32).toNat else 255#32
def Rf.shufTo (a y b : V) : Nat → V
  | 0 => V.zero
  | n + 1 => Rf.setLane (Rf.shufTo a y b n) 8 n (Rf.shufLane a y b n)
theorem wrap_U (z : BitVec 32) : IntKind.i64.wrap (U z) = U z := by
  have h1 := U_nonneg z
  have h2 := U_lt z
  rw [IntKind.wrap_i64]; omega
attribute [go_sem] wrap_U
structure LS (n : Nat) (a y b o : V) (W : World) : Prop where
  A : W.heap[n]? = some (vcell a)
  Y : W.heap[n + 1]? = some (vcell y)
  B : W.heap[n + 1 + 1]? = some (vcell b)
  R : W.heap[n + 1 + 1 + 1]? = some (vcell V.zero)
  O : W.heap[n + 1 + 1 + 1 + 1]? = some (vcell o)
end Go.Proofs.YtboknfppecgjmaaGreat
namespace Go.Proofs.YtboknfppecgjmaaGreat
set_option linter.unusedVariables false
set_option linter.unusedSimpArgs false
theorem shufByte_high (a y b : V) (i t : Nat) (ht : 8 ≤ t) : (Vb.shufByte a y b i).getLsbD t = false := by
  have h8 : Wide 8 := .inl rfl
  have hm : (255#32).getLsbD t = false := by
    have := mk_bit h8 t
    rw [show mk 8 = 255#32 by decide] at this
    rw [this]
    apply decide_eq_false; omega
  unfold Vb.shufByte
  simp only
  split
  · exact hm
  · rw [BitVec.getLsbD_and]
    show (_ && (255#32).getLsbD t) = false
    rw [hm, Bool.and_false]
theorem shufWord_bit (a y b : V) (j t : Nat) (ht : t < 32) : (Vb.shufWord a y b j).getLsbD t = (Vb.shufByte a y b (4 * j + t / 8)).getLsbD (t % 8) := by
  unfold Vb.shufWord
  simp only [BitVec.getLsbD_or, BitVec.getLsbD_shiftLeft, ht, decide_true, Bool.true_and]
  have hh := shufByte_high a y b
  rcases (show t / 8 = 0 ∨ t / 8 = 1 ∨ t / 8 = 2 ∨ t / 8 = 3 by omega) with h | h | h | h
  · have h1 : t < 8 := by omega
    have h2 : t < 16 := by omega
    have h3 : t < 24 := by omega
    rw [h, show t % 8 = t by omega]
    simp [h1, h2, h3]
  · have h1 : ¬ t < 8 := by omega
    have h2 : t < 16 := by omega
    have h3 : t < 24 := by omega
    rw [h, show t % 8 = t - 8 by omega, hh _ t (by omega)]
    simp [h1, h2, h3]
  · have h1 : ¬ t < 8 := by omega
    have h2 : ¬ t < 16 := by omega
    have h3 : t < 24 := by omega
    rw [h, show t % 8 = t - 16 by omega, hh _ t (by omega), hh _ (t - 8) (by omega)]
    simp [h1, h2, h3]
  · have h1 : ¬ t < 8 := by omega
    have h2 : ¬ t < 16 := by omega
    have h3 : ¬ t < 24 := by omega
    rw [h, show t % 8 = t - 24 by omega, hh _ t (by omega), hh _ (t - 8) (by omega), hh _ (t - 16) (by omega)]
    simp [h1, h2, h3]
theorem top_bit (i : Nat) (hi : i < 32) : (2147483648#32).getLsbD i = decide (i = 31) := by
  have : (2147483648#32) = 1#32 <<< 31 := by decide
  rw [this]
  simp only [BitVec.getLsbD_shiftLeft, BitVec.getLsbD_one, hi, decide_true, Bool.true_and]
  by_cases h : i = 31
  · subst h; simp
  · have : i < 31 := by omega
    simp [h, this]
theorem flip_add (x : BitVec 32) : x ^^^ 2147483648#32 = x + 2147483648#32 := by
  apply BitVec.eq_of_getLsbD_eq; intro i hi
  rw [BitVec.getLsbD_xor, BitVec.getLsbD_add hi, top_bit i hi]
  have c0 : ∀ k, k ≤ 31 → BitVec.carry k x 2147483648#32 false = false := by
    intro k
    induction k with
    | zero => intro _; simp [BitVec.carry_zero]
    | succ k ih =>
      intro hk
      have hk31 : k ≠ 31 := by omega
      rw [BitVec.carry_succ, ih (by omega), top_bit k (by omega), decide_eq_false hk31]
      cases x.getLsbD k <;> rfl
  rw [c0 i (by omega)]
  simp
theorem S_flip (x : BitVec 32) : S x = ((x ^^^ 2147483648#32).toNat : Int) - 2147483648 := by
  rw [flip_add]
  unfold S
  rw [BitVec.toInt_eq_toNat_cond, BitVec.toNat_add]
  have hx := x.isLt
  show (if 2 * x.toNat < 2 ^ 32 then (x.toNat : Int) else (x.toNat : Int) - ((2 ^ 32 : Nat) : Int)) = ((((x.toNat + 2147483648) % 2 ^ 32 : Nat)) : Int) - 2147483648
  split <;> omega
theorem slt_flip (p q : BitVec 32) : decide (S p < S q) = decide ((p ^^^ 2147483648#32) < (q ^^^ 2147483648#32)) := by
  apply decide_eq_decide.2
  rw [S_flip, S_flip, BitVec.lt_def]
  omega
theorem sle_flip (p q : BitVec 32) : decide (S p ≤ S q) = decide ((p ^^^ 2147483648#32) ≤ (q ^^^ 2147483648#32)) := by
  apply decide_eq_decide.2
  rw [S_flip, S_flip, BitVec.le_def]
  omega
theorem lt_or_eq (p q : BitVec 32) : (decide (p < q) || decide (p = q)) = decide (p ≤ q) := by
  rw [Bool.eq_iff_iff]
  simp only [Bool.or_eq_true, decide_eq_true_eq]
  rw [BitVec.lt_def, BitVec.le_def]
  constructor
  · rintro (h | rfl)
    · omega
    · omega
  · intro h
    by_cases he : p = q
    · exact .inr he
    · left
      have : p.toNat ≠ q.toNat := fun e => he (BitVec.eq_of_toNat_eq e)
      omega
end Go.Proofs.YtboknfppecgjmaaGreat
namespace Go.Proofs.YtboknfppecgjmaaGreat
set_option linter.unusedVariables false
set_option linter.unusedSimpArgs false
open Go.RowKit
def Rf.mseven (x : V) : Nat → BitVec 32
  | 0 => 0#32
  | i + 1 => Rf.mseven x i ||| (((((x.get (i / 4)) >>> (8 * (i % 4))) &&& 255#32) >>> 7) <<< i)
def Rf.shuf7 (x y : V) : V := V.gen (Vb.shufWord x y V.zero)
def Rf.un12 (op p to off : Int) (z : V) : V :=
  if op = 1 then (V.neg z).and (Vb.ones to) else if op = 2 ∨ op = 4 then z.and (Vb.ones to) else if op = 3 then V.word (Rf.signed z.a p.toNat)
  else if op = 5 then Vb.one (!decide (z = V.zero)) else if op = 6 then (if z.a = 1#32 then (V.neg V.zero).and (Vb.ones to) else V.zero)
  else if op = 7 then V.word (Vb.left z.a) else if op = 8 then V.neg (Rf.sev Rf.f53 8 (mk 8) 4 z V.zero) else if op = 9 then V.neg (Rf.sev Rf.f53 16 (mk 16) 2 z V.zero) else if op = 10 then V.neg (Rf.sev Rf.f53 32 (mk 32) 1 z V.zero)
  else if op = 11 then ⟨z.a, z.a, z.a, z.a⟩ else if op = 12 then V.word (z.get off.toNat) else V.word (Rf.mseven z 16)
def Rf.any7 (op : Int) (x y : BitVec 32) : BitVec 32 :=
  if op = 4 then BitVec.ofInt 32 (IntKind.u64.wrap (IntKind.u64.wrap (U x) * IntKind.u64.wrap (U y)) / 4294967296)
  else if y = 0#32 then 0#32 else if op = 5 then BitVec.ofInt 32 (U (x / y)) else if op = 6 then x % y else BitVec.ofInt 32 (wrap64 ((S x).tdiv (S y)))
def Rf.bin12 (op off : Int) (x y : V) : V :=
  if op = 1 then V.word (x.a + y.a) else if op = 2 then V.word (x.a - y.a) else if op = 3 then V.word (x.a * y.a) else if op = 4 ∨ op = 5 ∨ op = 6 ∨ op = 7 then V.word (Rf.any7 op x.a y.a)
  else if op = 8 then x.and y else if op = 9 then x.or y else if op = 10 then x.xor y
  else if op = 11 then V.word (x.a <<< (y.a.toNat % 32)) else if op = 12 then V.word (x.a >>> (y.a.toNat % 32)) else if op = 13 then V.word (x.a.sshiftRight (y.a.toNat % 32))
  else if op = 14 then Vb.one (decide (x = y)) else if op = 15 then Vb.one (!decide (x = y))
  else if op = 16 then Vb.one (decide (x.a < y.a)) else if op = 17 then Vb.one (decide (S x.a < S y.a)) else if op = 18 then Vb.one (decide (x.a ≤ y.a)) else if op = 19 then Vb.one (decide (S x.a ≤ S y.a))
  else if op = 20 then Rf.sev Rf.f51 8 (mk 8) 4 x y else if op = 21 then Rf.sev Rf.f51 16 (mk 16) 2 x y else if op = 22 then Rf.sev Rf.f51 32 (mk 32) 1 x y
  else if op = 23 then Rf.sev Rf.f52 8 (mk 8) 4 x y else if op = 24 then Rf.sev Rf.f52 16 (mk 16) 2 x y else if op = 25 then Rf.sev Rf.f52 32 (mk 32) 1 x y
  else if op = 26 then Rf.sev Rf.f53 8 (mk 8) 4 x y else if op = 27 then Rf.sev Rf.f53 16 (mk 16) 2 x y else if op = 28 then Rf.sev Rf.f53 32 (mk 32) 1 x y
  else if op = 29 then Rf.shuf7 x y else x.set off.toNat y.a
/-! ### words -/
theorem is_and_self {ty : Int} {a : V} (h : Vb.is ty a = true) : a.and (Vb.ones ty) = a := by
  obtain ⟨_, h1, h2, h3, h4⟩ := is_parts h
  have w : ∀ x m : BitVec 32, x &&& ~~~m = 0#32 → x &&& m = x := by
    intro x m hm
    apply BitVec.eq_of_getLsbD_eq; intro i hi
    have hb := congrArg (fun z => z.getLsbD i) hm
    simp only [BitVec.getLsbD_and, BitVec.getLsbD_not, hi, decide_true, Bool.true_and, BitVec.getLsbD_zero] at hb ⊢
    cases hx : x.getLsbD i <;> cases hmm : m.getLsbD i <;> simp_all
  exact ext4 (w _ _ h1) (w _ _ h2) (w _ _ h3) (w _ _ h4)
def LaneSound (f : BitVec 32 → BitVec 32 → BitVec 32) (F : BitVec 32 → BitVec 32 → BitVec 32 → BitVec 32 → BitVec 32) : Prop := ∀ x x' a y y' b, Ag x x' a → Ag y y' b → Ag (f x y) (f x' y') (F x a y b)
theorem sub_not (x y : BitVec 32) : x - y = ~~~(~~~x + y) := by rw [bw_n3, BitVec.not_not]
theorem or_zero (a b : BitVec 32) (h : a ||| b = 0#32) : a = 0#32 ∧ b = 0#32 := by
  constructor
  all_goals
    apply BitVec.eq_of_getLsbD_eq; intro i hi
    have := congrArg (fun z => z.getLsbD i) h
    simp only [BitVec.getLsbD_or, BitVec.getLsbD_zero, Bool.or_eq_false_iff] at this
    simp [this.1, this.2]
theorem sevTo_bit (f : BitVec 32 → BitVec 32 → BitVec 32) {s : Nat} (hs : Wide s) (u v : BitVec 32) (t : Nat) (ht : t < 32) : ∀ n, s * n ≤ 32 → (Rf.sevTo f s (mk s) u v n).getLsbD t = (decide (t / s < n) && (f (L u s (t / s)) (L v s (t / s))).getLsbD (t % s))
  | 0, _ => by simp [Rf.sevTo]
  | n + 1, h => by
    have hpos : 0 < s := by rcases hs with rfl | rfl | rfl <;> omega
    have ih := sevTo_bit f hs u v t ht n (by rw [Nat.mul_add] at h; omega)
    simp only [Rf.sevTo]
    rw [BitVec.getLsbD_or, ih]
    simp only [BitVec.getLsbD_and, BitVec.getLsbD_shiftLeft, mk_bit hs, ht, decide_true, Bool.true_and]
    show (_ || (!decide (t < s * n) && ((f (L u s n) (L v s n)).getLsbD (t - s * n) && decide (t - s * n < s)))) = _
    by_cases hk : t / s = n
    · have h2 : ¬ t < s * n := by rcases hs with rfl | rfl | rfl <;> omega
      have h3 : t - s * n = t % s := by rcases hs with rfl | rfl | rfl <;> omega
      have h4 : t % s < s := Nat.mod_lt _ hpos
      have h5 : ¬ t / s < n := by omega
      have h6 : t / s < n + 1 := by omega
      rw [decide_eq_false h5, decide_eq_true h6, decide_eq_false h2, h3, decide_eq_true h4, hk]
      simp
    · have h2 : t < s * n ∨ ¬ t - s * n < s := by rcases hs with rfl | rfl | rfl <;> omega
      have h3 : decide (t / s < n + 1) = decide (t / s < n) := decide_eq_decide.2 (by omega)
      rw [h3]
      rcases h2 with h2 | h2 <;> simp [h2]
theorem sev_get (f : BitVec 32 → BitVec 32 → BitVec 32) (s : Nat) (m : BitVec 32) (n : Nat) (x y : V) (j : Nat) (hj : j < 4) : (Rf.sev f s m n x y).get j = Rf.sevTo f s m (x.get j) (y.get j) n := by
  rcases (show j = 0 ∨ j = 1 ∨ j = 2 ∨ j = 3 by omega) with rfl | rfl | rfl | rfl <;> rfl
theorem sev_bit (f : BitVec 32 → BitVec 32 → BitVec 32) {s : Nat} (hs : Wide s) (x y : V) (j t : Nat) (hj : j < 4) (ht : t < 32) :
    ((Rf.sev f s (mk s) (32 / s) x y).get j).getLsbD t = (f (L (x.get j) s (t / s)) (L (y.get j) s (t / s))).getLsbD (t % s) := by
  rw [sev_get f s _ _ x y j hj, sevTo_bit f hs _ _ t ht _ (by rcases hs with rfl | rfl | rfl <;> omega)]
  have h : t / s < 32 / s := by rcases hs with rfl | rfl | rfl <;> omega
  rw [decide_eq_true h]
  simp
theorem unLane_equal (x a : BitVec 32) : Vb.unLane x a 0#32 0#32 = Vb.equal x a 0#32 0#32 := by
  unfold Vb.unLane Vb.equal
  simp only [BitVec.xor_zero, BitVec.or_zero]
theorem L_zero (s k : Nat) : L 0#32 s k = 0#32 := by simp [L]
theorem each_un (s : Nat) (hs : Wide s) (x a : V) : Vb.each s x a V.zero V.zero Vb.unLane = Vb.each s x a V.zero V.zero Vb.equal := by
  apply ext_bits
  intro j hj t ht
  rw [each_bit hs _ _ _ _ _ j t hj ht, each_bit hs _ _ _ _ _ j t hj ht, get_z, L_zero, unLane_equal]
theorem signed_bit {n : Nat} (hn : n = 1 ∨ n = 8 ∨ n = 16) (x : BitVec 32) (i : Nat) (hi : i < 32) : (Rf.signed x n).getLsbD i = (x.getLsbD i || (decide (n ≤ i) && x.getLsbD (n - 1))) := by
  unfold Rf.signed
  have hb := bit_test x (n - 1)
  have hm : ((4294967295#32) <<< n).getLsbD i = decide (n ≤ i) := by
    show ((BitVec.allOnes 32) <<< n).getLsbD i = _
    rw [BitVec.getLsbD_shiftLeft, BitVec.getLsbD_allOnes]
    have h32 : i - n < 32 := by omega
    simp only [hi, h32, decide_true, Bool.true_and, Bool.and_true]
    by_cases h : i < n
    · have : ¬ n ≤ i := by omega
      simp [h, this]
    · have : n ≤ i := by omega
      simp [h, this]
  cases h : x.getLsbD (n - 1)
  · rw [if_neg (fun hh => by rw [hb.1 hh] at h; cases h)]
    simp
  · rw [if_pos (hb.2 h), BitVec.getLsbD_or, hm]
    simp
theorem mseven_bit (x : V) (i : Nat) : ∀ n, n ≤ 16 → i < 32 → (Rf.mseven x n).getLsbD i = (decide (i < n) && (x.get (i / 4)).getLsbD (8 * (i % 4) + 7))
  | 0, _, _ => by simp [Rf.mseven]
  | n + 1, h, hi => by
    have h8 : Wide 8 := .inl rfl
    have e : (255#32) = mk 8 := by decide
    simp only [Rf.mseven]
    rw [BitVec.getLsbD_or, mseven_bit x i n (by omega) hi, e]
    simp only [BitVec.getLsbD_shiftLeft, BitVec.getLsbD_ushiftRight, BitVec.getLsbD_and, mk_bit h8, hi, decide_true, Bool.true_and]
    by_cases hk : i = n
    · subst hk
      simp
    · by_cases h1 : i < n
      · have h2 : i < n + 1 := by omega
        simp [h1, h2]
      · have h2 : ¬ i < n + 1 := by omega
        have h3 : ¬ 7 + (i - n) < 8 := by omega
        simp [h1, h2, h3]
theorem maskTo_bit (x : V) (i : Nat) : ∀ n, n ≤ 16 → i < 32 → (Vb.maskTo x n).getLsbD i = (decide (i < n) && (x.get (i / 4)).getLsbD (8 * (i % 4) + 7))
  | 0, _, _ => by simp [Vb.maskTo]
  | n + 1, h, hi => by
    have h1 : ∀ k, (1#32).getLsbD k = decide (k = 0) := fun k => by rw [BitVec.getLsbD_one]; simp
    simp only [Vb.maskTo]
    rw [BitVec.getLsbD_or, maskTo_bit x i n (by omega) hi]
    show (_ || (((x.get (n / 4) >>> (8 * (n % 4) + 7)) &&& 1#32) <<< n).getLsbD i) = _
    simp only [BitVec.getLsbD_shiftLeft, BitVec.getLsbD_ushiftRight, BitVec.getLsbD_and, h1, hi, decide_true, Bool.true_and]
    by_cases hk : i = n
    · subst hk
      simp
    · by_cases h1 : i < n
      · have h2 : i < n + 1 := by omega
        simp [h1, h2]
      · have h2 : ¬ i < n + 1 := by omega
        have h3 : ¬ i - n = 0 := by omega
        simp [h1, h2, h3]
theorem isZero_eq {x : V} (h : x.isZero = true) : x = V.zero := of_decide_eq_true h
end Go.Proofs.YtboknfppecgjmaaGreat
