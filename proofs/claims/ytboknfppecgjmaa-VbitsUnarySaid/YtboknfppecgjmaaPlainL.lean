/- Plain laws on lanes: the reference goes lane by lane over the whole vector, package vbits word by word. -/
import Derived.Test.YtboknfppecgjmaaPlainE
import Derived.Test.YtboknfppecgjmaaRefUn
namespace Go.Proofs.Ytboknfppecgjmaa
set_option linter.unusedVariables false
set_option linter.unusedSimpArgs false
/-- The width of lanes. -/
def Wide (s : Nat) : Prop := s = 8 ∨ s = 16 ∨ s = 32
abbrev mk (s : Nat) : BitVec 32 := 4294967295#32 >>> (32 - s)
theorem mk_bit {s : Nat} (hs : Wide s) (t : Nat) : (mk s).getLsbD t = decide (t < s) := by
  show ((BitVec.allOnes 32) >>> (32 - s)).getLsbD t = _
  rw [BitVec.getLsbD_ushiftRight, BitVec.getLsbD_allOnes]
  rcases hs with rfl | rfl | rfl <;> (apply decide_eq_decide.2; omega)
theorem mk_eq {s : Nat} (hs : Wide s) : (1#32 <<< s) - 1#32 = mk s := by
  rcases hs with rfl | rfl | rfl <;> decide
/-- The lane number k of a word. -/
def L (x : BitVec 32) (s k : Nat) : BitVec 32 := (x >>> (s * k)) &&& mk s
theorem lane_L (x : V) (s i : Nat) : Rf.lane x s i = L (x.get (i / (32 / s))) s (i % (32 / s)) := rfl
theorem lane_vb (x : BitVec 32) (s k : Nat) (hs : Wide s) (hk : s * k + s ≤ 32) : (x &&& (((1#32 <<< s) - 1#32) <<< (s * k))) >>> (s * k) = L x s k := by
  rw [mk_eq hs]
  unfold L
  apply BitVec.eq_of_getLsbD_eq; intro i hi
  simp only [BitVec.getLsbD_ushiftRight, BitVec.getLsbD_and, BitVec.getLsbD_shiftLeft, mk_bit hs]
  by_cases h : i < s
  · have h1 : s * k + i < 32 := by omega
    have h2 : ¬ s * k + i < s * k := by omega
    have h3 : s * k + i - s * k = i := by omega
    simp [h1, h2, h3, h]
  · have h3 : s * k + i - s * k = i := by omega
    simp [h3, h]
theorem set_get (x : V) (k j : Nat) (w : BitVec 32) (hk : k < 4) (hj : j < 4) : (x.set k w).get j = if j = k then w else x.get j := by
  rcases (show k = 0 ∨ k = 1 ∨ k = 2 ∨ k = 3 by omega) with rfl | rfl | rfl | rfl <;>
    rcases (show j = 0 ∨ j = 1 ∨ j = 2 ∨ j = 3 by omega) with rfl | rfl | rfl | rfl <;> rfl
theorem ext_bits {x y : V} (h : ∀ j, j < 4 → ∀ b, b < 32 → (x.get j).getLsbD b = (y.get j).getLsbD b) : x = y :=
  ext4 (BitVec.eq_of_getLsbD_eq fun i hi => h 0 (by omega) i hi) (BitVec.eq_of_getLsbD_eq fun i hi => h 1 (by omega) i hi)
    (BitVec.eq_of_getLsbD_eq fun i hi => h 2 (by omega) i hi) (BitVec.eq_of_getLsbD_eq fun i hi => h 3 (by omega) i hi)
theorem setLane_bit (o : V) (s i : Nat) (v : BitVec 32) (hs : Wide s) (hi : i < 128 / s) (j b : Nat) (hj : j < 4) (hb : b < 32) :
    ((Rf.setLane o s i v).get j).getLsbD b = if j * (32 / s) + b / s = i then v.getLsbD (b % s) else (o.get j).getLsbD b := by
  unfold Rf.setLane
  have hk : i / (32 / s) < 4 := by rcases hs with rfl | rfl | rfl <;> omega
  rw [set_get _ _ _ _ hk hj]
  by_cases h1 : j = i / (32 / s)
  · rw [if_pos h1, ← h1]
    simp only [BitVec.getLsbD_or, BitVec.getLsbD_and, BitVec.getLsbD_not, BitVec.getLsbD_shiftLeft, mk_bit hs, hb, decide_true, Bool.true_and]
    by_cases h2 : b / s = i % (32 / s)
    · have h3 : j * (32 / s) + b / s = i := by rcases hs with rfl | rfl | rfl <;> omega
      have h4 : ¬ b < s * (i % (32 / s)) := by rcases hs with rfl | rfl | rfl <;> omega
      have h5 : b - s * (i % (32 / s)) = b % s := by rcases hs with rfl | rfl | rfl <;> omega
      have h6 : b % s < s := Nat.mod_lt _ (by rcases hs with rfl | rfl | rfl <;> omega)
      rw [if_pos h3, h5]
      simp [h4, h6]
    · have h3 : ¬ j * (32 / s) + b / s = i := by rcases hs with rfl | rfl | rfl <;> omega
      rw [if_neg h3]
      by_cases h4 : b < s * (i % (32 / s))
      · simp [h4]
      · have h5 : ¬ b - s * (i % (32 / s)) < s := by rcases hs with rfl | rfl | rfl <;> omega
        simp [h5]
  · have h3 : ¬ j * (32 / s) + b / s = i := by rcases hs with rfl | rfl | rfl <;> omega
    rw [if_neg h1, if_neg h3]
theorem lanesFrom_bit {s : Nat} (hs : Wide s) (f : BitVec 32 → BitVec 32 → BitVec 32 → BitVec 32 → BitVec 32) (x a y b : BitVec 32) (t : Nat) (ht : t < 32) :
    ∀ (n k : Nat) (acc : BitVec 32), s * k + s * n ≤ 32 → (Vb.lanesFrom s f x a y b n (s * k) acc).getLsbD t =
      (acc.getLsbD t || (decide (k ≤ t / s ∧ t / s < k + n) && (f (L x s (t / s)) (L a s (t / s)) (L y s (t / s)) (L b s (t / s))).getLsbD (t % s)))
  | 0, k, acc, _ => by
    have : ¬ (k ≤ t / s ∧ t / s < k + 0) := by omega
    rw [decide_eq_false this]
    simp [Vb.lanesFrom]
  | n + 1, k, acc, h => by
    have hpos : 0 < s := by rcases hs with rfl | rfl | rfl <;> omega
    have h1 : s * k + s ≤ 32 := by rw [Nat.mul_add] at h; omega
    have e : s * k + s = s * (k + 1) := by rw [Nat.mul_add]; omega
    simp only [Vb.lanesFrom]
    rw [lane_vb x s k hs h1, lane_vb a s k hs h1, lane_vb y s k hs h1, lane_vb b s k hs h1, e, lanesFrom_bit hs f x a y b t ht n (k + 1) _ (by rw [← e]; rw [Nat.mul_add] at h; omega)]
    rw [BitVec.getLsbD_or, mk_eq hs]
    simp only [BitVec.getLsbD_and, BitVec.getLsbD_shiftLeft, mk_bit hs, ht, decide_true, Bool.true_and]
    by_cases hk : t / s = k
    · have h2 : ¬ t < s * k := by rcases hs with rfl | rfl | rfl <;> omega
      have h3 : t - s * k = t % s := by rcases hs with rfl | rfl | rfl <;> omega
      have h4 : t % s < s := Nat.mod_lt _ hpos
      have h5 : ¬ (k + 1 ≤ t / s ∧ t / s < k + 1 + n) := by omega
      have h6 : (k ≤ t / s ∧ t / s < k + (n + 1)) := by omega
      rw [decide_eq_false h5, decide_eq_true h6, decide_eq_false h2, h3, decide_eq_true h4, hk]
      simp
    · have h2 : t < s * k ∨ ¬ t - s * k < s := by rcases hs with rfl | rfl | rfl <;> omega
      have h3 : decide (k + 1 ≤ t / s ∧ t / s < k + 1 + n) = decide (k ≤ t / s ∧ t / s < k + (n + 1)) := decide_eq_decide.2 (by omega)
      rw [h3]
      rcases h2 with h2 | h2 <;> simp [h2]
theorem eachWord_bit {s : Nat} (hs : Wide s) (f : BitVec 32 → BitVec 32 → BitVec 32 → BitVec 32 → BitVec 32) (x a y b : BitVec 32) (t : Nat) (ht : t < 32) :
    (Vb.eachWord s f x a y b).getLsbD t = (f (L x s (t / s)) (L a s (t / s)) (L y s (t / s)) (L b s (t / s))).getLsbD (t % s) := by
  unfold Vb.eachWord
  have := lanesFrom_bit hs f x a y b t ht (32 / s) 0 0#32 (by rcases hs with rfl | rfl | rfl <;> omega)
  rw [Nat.mul_zero] at this
  show (Vb.lanesFrom s f x a y b (32 / s) 0 0#32).getLsbD t = _
  have h : 0 ≤ t / s ∧ t / s < 0 + 32 / s := by rcases hs with rfl | rfl | rfl <;> omega
  rw [this, decide_eq_true h]
  simp
theorem each_bit {s : Nat} (hs : Wide s) (f : BitVec 32 → BitVec 32 → BitVec 32 → BitVec 32 → BitVec 32) (x a y b : V) (j t : Nat) (hj : j < 4) (ht : t < 32) :
    ((Vb.each s x a y b f).get j).getLsbD t = (f (L (x.get j) s (t / s)) (L (a.get j) s (t / s)) (L (y.get j) s (t / s)) (L (b.get j) s (t / s))).getLsbD (t % s) := by
  rcases (show j = 0 ∨ j = 1 ∨ j = 2 ∨ j = 3 by omega) with rfl | rfl | rfl | rfl
  · exact eachWord_bit hs f _ _ _ _ t ht
  · exact eachWord_bit hs f _ _ _ _ t ht
  · exact eachWord_bit hs f _ _ _ _ t ht
  · exact eachWord_bit hs f _ _ _ _ t ht
/-- The lane of a bit. -/
theorem lane_of_bit (x : V) {s : Nat} (hs : Wide s) (j t : Nat) (hj : j < 4) (ht : t < 32) : Rf.lane x s (j * (32 / s) + t / s) = L (x.get j) s (t / s) := by
  rw [lane_L]
  have h1 : (j * (32 / s) + t / s) / (32 / s) = j := by rcases hs with rfl | rfl | rfl <;> omega
  have h2 : (j * (32 / s) + t / s) % (32 / s) = t / s := by rcases hs with rfl | rfl | rfl <;> omega
  rw [h1, h2]
theorem all_bit (t s : Nat) (hs : Wide s) : (4294967295#32).getLsbD (t % s) = true := by
  show (BitVec.allOnes 32).getLsbD (t % s) = true
  rw [BitVec.getLsbD_allOnes]
  rcases hs with rfl | rfl | rfl <;> (apply decide_eq_true; omega)
theorem zero_get (j : Nat) (b : Nat) : (V.zero.get j).getLsbD b = false := by rw [get_z]; simp
theorem lanesTo_bit (x a : V) {s : Nat} (hs : Wide s) (j t : Nat) (hj : j < 4) (ht : t < 32) : ∀ N, N ≤ 128 / s → ((Rf.lanesTo x a s N).get j).getLsbD t =
    (decide (j * (32 / s) + t / s < N) && Rf.undecided (V.word (Rf.lane x s (j * (32 / s) + t / s))) (V.word (Rf.lane a s (j * (32 / s) + t / s))))
  | 0, _ => by simp [Rf.lanesTo, zero_get]
  | N + 1, h => by
    have ih := lanesTo_bit x a hs j t hj ht N (by omega)
    unfold Rf.lanesTo
    by_cases hN : j * (32 / s) + t / s = N
    · have h1 : ¬ j * (32 / s) + t / s < N := by omega
      have h2 : j * (32 / s) + t / s < N + 1 := by omega
      simp only [h2, decide_true, Bool.true_and]
      rw [hN]
      cases hd : Rf.undecided (V.word (Rf.lane x s N)) (V.word (Rf.lane a s N))
      · simp only [Bool.false_eq_true, if_false]
        rw [ih]; simp [h1]
      · simp only [if_true]
        rw [setLane_bit _ _ _ _ hs (by omega) _ _ hj ht, if_pos hN, all_bit t s hs]
    · have h3 : decide (j * (32 / s) + t / s < N + 1) = decide (j * (32 / s) + t / s < N) := decide_eq_decide.2 (by omega)
      rw [h3]
      cases hd : Rf.undecided (V.word (Rf.lane x s N)) (V.word (Rf.lane a s N))
      · simp only [Bool.false_eq_true, if_false]; exact ih
      · simp only [if_true]
        rw [setLane_bit _ _ _ _ hs (by omega) _ _ hj ht, if_neg hN]; exact ih
theorem word_zero (w : BitVec 32) : (V.word w).isZero = decide (w = 0#32) := by
  rw [Bool.eq_iff_iff, isZero_iff]
  simp [V.word]
theorem und_word (x a : BitVec 32) : Rf.undecided (V.word x) (V.word a) = (!decide (a = 0#32) && decide (x &&& ~~~a = 0#32)) := by
  unfold Rf.undecided
  rw [word_zero]
  congr 1
  have : (V.word x).without (V.word a) = V.word (x &&& ~~~a) := by simp [V.without, V.map2, V.word]
  rw [this, word_zero]
theorem unLane_bit (x a y b : BitVec 32) (t s : Nat) (hs : Wide s) : (Vb.unLane x a y b).getLsbD (t % s) = Rf.undecided (V.word x) (V.word a) := by
  rw [und_word]
  unfold Vb.unLane Vb.some
  by_cases h1 : x &&& ~~~a = 0#32
  · have h1' : x &&& ~~~a = 0 := h1
    rw [if_pos h1']
    by_cases h2 : a = 0#32
    · have h2' : a = 0 := h2
      rw [if_pos h2', decide_eq_true h2]; simp
    · have h2' : ¬ a = 0 := h2
      rw [if_neg h2', all_bit t s hs]; simp [h1, h2]
  · have h1' : ¬ x &&& ~~~a = 0 := h1
    rw [if_neg h1']; simp [h1]
theorem lanesOf_eq (x a : V) {s : Nat} (hs : Wide s) : Rf.lanesTo x a s (128 / s) = Vb.each s x a V.zero V.zero Vb.unLane := by
  apply ext_bits
  intro j hj t ht
  rw [lanesTo_bit x a hs j t hj ht _ (Nat.le_refl _), each_bit hs _ _ _ _ _ j t hj ht, unLane_bit _ _ _ _ _ _ hs, lane_of_bit x hs j t hj ht, lane_of_bit a hs j t hj ht]
  have : j * (32 / s) + t / s < 128 / s := by rcases hs with rfl | rfl | rfl <;> omega
  simp [this]
theorem rmask_eq (x : V) : ∀ n, n ≤ 16 → Rf.maskTo x n = Vb.maskTo x n
  | 0, _ => rfl
  | n + 1, h => by
    simp only [Rf.maskTo, Vb.maskTo]
    rw [rmask_eq x n (by omega), lane_L]
    show _ ||| (L (x.get (n / 4)) 8 (n % 4) >>> 7) <<< n = _
    congr 2
    unfold L
    apply BitVec.eq_of_getLsbD_eq; intro i hi
    have h8 : Wide 8 := .inl rfl
    simp only [BitVec.getLsbD_ushiftRight, BitVec.getLsbD_and, mk_bit h8]
    have h1 : (1#32).getLsbD i = decide (i = 0) := by
      rw [BitVec.getLsbD_one]; simp
    show _ = ((x.get (n / 4)).getLsbD (8 * (n % 4) + 7 + i) && (1#32).getLsbD i)
    rw [h1]
    by_cases hi0 : i = 0
    · subst hi0; simp
    · have : ¬ 7 + i < 8 := by omega
      simp [this, hi0]
end Go.Proofs.Ytboknfppecgjmaa
