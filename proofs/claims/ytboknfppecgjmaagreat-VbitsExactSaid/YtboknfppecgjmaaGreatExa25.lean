/- Part 25 of the proof's texts: PlainL, RefLaned, RefUnB, RefUnC, Seven. -/
import Derived.Test.YtboknfppecgjmaaGreatExa1
import Derived.Test.YtboknfppecgjmaaGreatExa2
import Derived.Test.YtboknfppecgjmaaGreatExa9
import Derived.Test.YtboknfppecgjmaaGreatExa21
import Derived.Test.YtboknfppecgjmaaGreatExa23
set_option maxHeartbeats 16000000
namespace Go.Proofs.YtboknfppecgjmaaGreat
set_option linter.unusedVariables false
set_option linter.unusedSimpArgs false
def Wide (s : Nat) : Prop := s = 8 ∨ s = 16 ∨ s = 32
abbrev mk (s : Nat) : BitVec 32 := 4294967295#32 >>> (32 - s)
theorem mk_bit {s : Nat} (hs : Wide s) (t : Nat) : (mk s).getLsbD t = decide (t < s) := by
  show ((BitVec.allOnes 32) >>> (32 - s)).getLsbD t = _
  rw [BitVec.getLsbD_ushiftRight, BitVec.getLsbD_allOnes]
  rcases hs with rfl | rfl | rfl <;> (apply decide_eq_decide.2; omega)
theorem mk_eq {s : Nat} (hs : Wide s) : (1#32 <<< s) - 1#32 = mk s := by
  rcases hs with rfl | rfl | rfl <;> decide
def L (x : BitVec 32) (s k : Nat) : BitVec 32 := (x >>> (s * k)) &&& mk s
theorem lane_vb (x : BitVec 32) (s k : Nat) (hs : Wide s) (hk : s * k + s ≤ 32) : (x &&& (((1#32 <<< s) - 1#32) <<< (s * k))) >>> (s * k) = L x s k := by
  rw [mk_eq hs]
  unfold L
  apply BitVec.eq_of_getLsbD_eq; intro i hi
  simp only [BitVec.getLsbD_ushiftRight, BitVec.getLsbD_and, BitVec.getLsbD_shiftLeft, mk_bit hs]
  by_cases h : i < s
  · have h1 : s * k + i < 32 := by omega
    have h2 : ¬ s * k + i < s * k := by omega
    have h3 : s * k + i - s * k = i := by omega
    simp [h1, h2, h3, h]
  · have h3 : s * k + i - s * k = i := by omega
    simp [h3, h]
theorem set_get (x : V) (k j : Nat) (w : BitVec 32) (hk : k < 4) (hj : j < 4) : (x.set k w).get j = if j = k then w else x.get j := by
  rcases (show k = 0 ∨ k = 1 ∨ k = 2 ∨ k = 3 by omega) with rfl | rfl | rfl | rfl <;>
    rcases (show j = 0 ∨ j = 1 ∨ j = 2 ∨ j = 3 by omega) with rfl | rfl | rfl | rfl <;> rfl
theorem ext_bits {x y : V} (h : ∀ j, j < 4 → ∀ b, b < 32 → (x.get j).getLsbD b = (y.get j).getLsbD b) : x = y :=
  ext4 (BitVec.eq_of_getLsbD_eq fun i hi => h 0 (by omega) i hi) (BitVec.eq_of_getLsbD_eq fun i hi => h 1 (by omega) i hi)
    (BitVec.eq_of_getLsbD_eq fun i hi => h 2 (by omega) i hi) (BitVec.eq_of_getLsbD_eq fun i hi => h 3 (by omega) i hi)
theorem setLane_bit (o : V) (s i : Nat) (v : BitVec 32) (hs : Wide s) (hi : i < 128 / s) (j b : Nat) (hj : j < 4) (hb : b < 32) :
    ((Rf.setLane o s i v).get j).getLsbD b = if j * (32 / s) + b / s = i then v.getLsbD (b % s) else (o.get j).getLsbD b := by
  unfold Rf.setLane
  have hk : i / (32 / s) < 4 := by rcases hs with rfl | rfl | rfl <;> omega
  rw [set_get _ _ _ _ hk hj]
  by_cases h1 : j = i / (32 / s)
  · rw [if_pos h1, ← h1]
    simp only [BitVec.getLsbD_or, BitVec.getLsbD_and, BitVec.getLsbD_not, BitVec.getLsbD_shiftLeft, mk_bit hs, hb, decide_true, Bool.true_and]
    by_cases h2 : b / s = i % (32 / s)
    · have h3 : j * (32 / s) + b / s = i := by rcases hs with rfl | rfl | rfl <;> omega
      have h4 : ¬ b < s * (i % (32 / s)) := by rcases hs with rfl | rfl | rfl <;> omega
      have h5 : b - s * (i % (32 / s)) = b % s := by rcases hs with rfl | rfl | rfl <;> omega
      have h6 : b % s < s := Nat.mod_lt _ (by rcases hs with rfl | rfl | rfl <;> omega)
      rw [if_pos h3, h5]
      simp [h4, h6]
    · have h3 : ¬ j * (32 / s) + b / s = i := by rcases hs with rfl | rfl | rfl <;> omega
      rw [if_neg h3]
      by_cases h4 : b < s * (i % (32 / s))
      · simp [h4]
      · have h5 : ¬ b - s * (i % (32 / s)) < s := by rcases hs with rfl | rfl | rfl <;> omega
        simp [h5]
  · have h3 : ¬ j * (32 / s) + b / s = i := by rcases hs with rfl | rfl | rfl <;> omega
    rw [if_neg h1, if_neg h3]
theorem lanesFrom_bit {s : Nat} (hs : Wide s) (f : BitVec 32 → BitVec 32 → BitVec 32 → BitVec 32 → BitVec 32) (x a y b : BitVec 32) (t : Nat) (ht : t < 32) :
    ∀ (n k : Nat) (acc : BitVec 32), s * k + s * n ≤ 32 → (Vb.lanesFrom s f x a y b n (s * k) acc).getLsbD t =
      (acc.getLsbD t || (decide (k ≤ t / s ∧ t / s < k + n) && (f (L x s (t / s)) (L a s (t / s)) (L y s (t / s)) (L b s (t / s))).getLsbD (t % s)))
  | 0, k, acc, _ => by
    have : ¬ (k ≤ t / s ∧ t / s < k + 0) := by omega
    rw [decide_eq_false this]
    simp [Vb.lanesFrom]
  | n + 1, k, acc, h => by
    have hpos : 0 < s := by rcases hs with rfl | rfl | rfl <;> omega
    have h1 : s * k + s ≤ 32 := by rw [Nat.mul_add] at h; omega
    have e : s * k + s = s * (k + 1) := by rw [Nat.mul_add]; omega
    simp only [Vb.lanesFrom]
    rw [lane_vb x s k hs h1, lane_vb a s k hs h1, lane_vb y s k hs h1, lane_vb b s k hs h1, e, lanesFrom_bit hs f x a y b t ht n (k + 1) _ (by rw [← e]; rw [Nat.mul_add] at h; omega)]
    rw [BitVec.getLsbD_or, mk_eq hs]
    simp only [BitVec.getLsbD_and, BitVec.getLsbD_shiftLeft, mk_bit hs, ht, decide_true, Bool.true_and]
    by_cases hk : t / s = k
    · have h2 : ¬ t < s * k := by rcases hs with rfl | rfl | rfl <;> omega
      have h3 : t - s * k = t % s := by rcases hs with rfl | rfl | rfl <;> omega
      have h4 : t % s < s := Nat.mod_lt _ hpos
      have h5 : ¬ (k + 1 ≤ t / s ∧ t / s < k + 1 + n) := by omega
      have h6 : (k ≤ t / s ∧ t / s < k + (n + 1)) := by omega
      rw [decide_eq_false h5, decide_eq_true h6, decide_eq_false h2, h3, decide_eq_true h4, hk]
      simp
    · have h2 : t < s * k ∨ ¬ t - s * k < s := by rcases hs with rfl | rfl | rfl <;> omega
      have h3 : decide (k + 1 ≤ t / s ∧ t / s < k + 1 + n) = decide (k ≤ t / s ∧ t / s < k + (n + 1)) := decide_eq_decide.2 (by omega)
      rw [h3]
      rcases h2 with h2 | h2 <;> simp [h2]
theorem eachWord_bit {s : Nat} (hs : Wide s) (f : BitVec 32 → BitVec 32 → BitVec 32 → BitVec 32 → BitVec 32) (x a y b : BitVec 32) (t : Nat) (ht : t < 32) :
    (Vb.eachWord s f x a y b).getLsbD t = (f (L x s (t / s)) (L a s (t / s)) (L y s (t / s)) (L b s (t / s))).getLsbD (t % s) := by
  unfold Vb.eachWord
  have := lanesFrom_bit hs f x a y b t ht (32 / s) 0 0#32 (by rcases hs with rfl | rfl | rfl <;> omega)
  rw [Nat.mul_zero] at this
  show (Vb.lanesFrom s f x a y b (32 / s) 0 0#32).getLsbD t = _
  have h : 0 ≤ t / s ∧ t / s < 0 + 32 / s := by rcases hs with rfl | rfl | rfl <;> omega
  rw [this, decide_eq_true h]
  simp
theorem each_bit {s : Nat} (hs : Wide s) (f : BitVec 32 → BitVec 32 → BitVec 32 → BitVec 32 → BitVec 32) (x a y b : V) (j t : Nat) (hj : j < 4) (ht : t < 32) :
    ((Vb.each s x a y b f).get j).getLsbD t = (f (L (x.get j) s (t / s)) (L (a.get j) s (t / s)) (L (y.get j) s (t / s)) (L (b.get j) s (t / s))).getLsbD (t % s) := by
  rcases (show j = 0 ∨ j = 1 ∨ j = 2 ∨ j = 3 by omega) with rfl | rfl | rfl | rfl
  · exact eachWord_bit hs f _ _ _ _ t ht
  · exact eachWord_bit hs f _ _ _ _ t ht
  · exact eachWord_bit hs f _ _ _ _ t ht
  · exact eachWord_bit hs f _ _ _ _ t ht
end Go.Proofs.YtboknfppecgjmaaGreat
namespace Go.Proofs.YtboknfppecgjmaaGreat
set_option linter.unusedVariables false
set_option linter.unusedSimpArgs false
open Go.RowKit Go.Shelf
def Rf.equal (p q u v : BitVec 32) : BitVec 32 := if Rf.undecided (V.word (p ^^^ u)) (V.word (q ||| v)) = true then 4294967295#32 else 0#32
def Rf.lanedTo (f : BitVec 32 → BitVec 32 → BitVec 32 → BitVec 32 → BitVec 32) (x a y b : V) (s : Nat) : Nat → V
  | 0 => V.zero
  | n + 1 => Rf.setLane (Rf.lanedTo f x a y b s n) s n (f (Rf.lane x s n) (Rf.lane a s n) (Rf.lane y s n) (Rf.lane b s n))
structure LB (n bo : Nat) (x a y b o : V) (W : World) : Prop where
  X : W.heap[n]? = some (vcell x)
  A : W.heap[n + 1]? = some (vcell a)
  Y : W.heap[n + 1 + 1]? = some (vcell y)
  B : W.heap[n + 1 + 1 + 1]? = some (vcell b)
  R : W.heap[n + 1 + 1 + 1 + 1]? = some (vcell V.zero)
  O : W.heap[bo]? = some (vcell o)
  h : n + 1 + 1 + 1 + 1 < bo
end Go.Proofs.YtboknfppecgjmaaGreat
namespace Go.Proofs.YtboknfppecgjmaaGreat
set_option linter.unusedVariables false
set_option linter.unusedSimpArgs false
open Go.RowKit Go.Shelf
end Go.Proofs.YtboknfppecgjmaaGreat
namespace Go.Proofs.YtboknfppecgjmaaGreat
set_option linter.unusedVariables false
set_option linter.unusedSimpArgs false
open Go.RowKit Go.Shelf
theorem word_of_small {ty : Int} {a : V} (h : Vb.is ty a = true) (ht : ty ≠ 128) : a = V.word a.a := by
  obtain ⟨h0, _, h2, h3, h4⟩ := is_parts h
  have e : ∀ z : BitVec 32, z &&& ~~~0#32 = 0#32 → z = 0#32 := fun z hz => (bv_all z).symm.trans hz
  have ho : (Vb.ones ty).b = 0#32 ∧ (Vb.ones ty).c = 0#32 ∧ (Vb.ones ty).d = 0#32 := by
    rcases isType_cases h0 with rfl | rfl | rfl | rfl | rfl
    · exact ⟨rfl, rfl, rfl⟩
    · exact ⟨rfl, rfl, rfl⟩
    · exact ⟨rfl, rfl, rfl⟩
    · exact ⟨rfl, rfl, rfl⟩
    · exact absurd rfl ht
  rw [ho.1] at h2; rw [ho.2.1] at h3; rw [ho.2.2] at h4
  exact ext4 rfl (e _ h2) (e _ h3) (e _ h4)
theorem isUn_small {op p to off : Int} (h : Vb.isUn op p to off = true) (ho : op = 2 ∨ op = 3) : (p = 1 ∨ p = 8 ∨ p = 16) ∧ to = 32 := by
  unfold Vb.isUn at h
  simp only at h
  split at h
  · cases h
  · have h1 : ¬ op = 1 := by omega
    (try rw [if_neg h1] at h)
    (try rw [if_pos ho] at h)
    simp only [Bool.and_eq_true, Bool.or_eq_true, beq_iff_eq] at h
    omega
theorem isUn_fill {p to off : Int} (h : Vb.isUn 6 p to off = true) : p = 1 := by
  unfold Vb.isUn at h
  simp only [show ¬ ((6 : Int) = 1) by decide, show ¬ ((6 : Int) = 2 ∨ (6 : Int) = 3) by decide, show ¬ ((6 : Int) = 4) by decide, show ¬ ((6 : Int) = 5) by decide, if_false, if_true] at h
  split at h
  · cases h
  · simp only [Bool.and_eq_true, beq_iff_eq] at h
    exact h.1
theorem bit_test (x : BitVec 32) (k : Nat) : (x >>> k) &&& 1#32 = 1#32 ↔ x.getLsbD k = true := by
  constructor
  · intro h
    have := congrArg (fun z => z.getLsbD 0) h
    simpa using this
  · intro h
    apply BitVec.eq_of_getLsbD_eq; intro i hi
    simp only [BitVec.getLsbD_and, BitVec.getLsbD_ushiftRight, BitVec.getLsbD_one]
    by_cases h0 : i = 0
    · subst h0; simp [h]
    · simp [h0]
theorem bit_mask (x : BitVec 32) (k : Nat) (hk : k < 32) (m : BitVec 32) (hm : m = 1#32 <<< k) : x &&& m ≠ 0 ↔ x.getLsbD k = true := by
  subst hm
  have hb : ∀ i, i < 32 → (1#32 <<< k).getLsbD i = decide (i = k) := by
    intro i hi
    simp only [BitVec.getLsbD_shiftLeft, BitVec.getLsbD_one, hi, decide_true, Bool.true_and]
    by_cases h : i = k
    · subst h; simp
    · have : ¬ i - k = 0 ∨ i < k := by omega
      rcases this with h1 | h1 <;> simp [h, h1]
  constructor
  · intro h
    cases hx : x.getLsbD k
    · exfalso
      apply h
      apply BitVec.eq_of_getLsbD_eq; intro i hi
      rw [BitVec.getLsbD_and, hb i hi]
      by_cases hik : i = k
      · subst hik; simp [hx]
      · simp [hik]
    · rfl
  · intro hx h
    have := congrArg (fun z => z.getLsbD k) h
    simp only [BitVec.getLsbD_and, hb k hk, hx] at this
    simp at this
theorem sext_eq {p : Int} {a : V} (h : Vb.is p a = true) (n : Nat) (hp : (p = 1 ∧ n = 1) ∨ (p = 8 ∧ n = 8) ∨ (p = 16 ∧ n = 16)) (x : V) (to off : Int) : Vb.unOp 3 ⟨x, a, p, to, off⟩ = V.word (Rf.signed a.a n) := by
  have hw := word_of_small h (by omega)
  show Vb.Unary.sext ⟨x, a, p, to, off⟩ = _
  unfold Vb.Unary.sext Rf.signed
  simp only
  rcases hp with ⟨rfl, rfl⟩ | ⟨rfl, rfl⟩ | ⟨rfl, rfl⟩
  · have t1 := bit_test a.a 0
    have t2 := bit_mask a.a 0 (by omega) ((Vb.ones 1).a &&& ~~~((Vb.ones 1).a >>> 1)) (by decide)
    by_cases hb : a.a.getLsbD 0 = true
    · rw [if_pos (t2.2 hb), if_pos (t1.2 hb)]
      rw [hw, ones_32, ones_1]
      simp [V.or, V.without, V.map2, V.word]
    · rw [if_neg (fun h => hb (t2.1 h)), if_neg (fun h => hb (t1.1 h))]
      exact hw
  · have t1 := bit_test a.a 7
    have t2 := bit_mask a.a 7 (by omega) ((Vb.ones 8).a &&& ~~~((Vb.ones 8).a >>> 1)) (by decide)
    by_cases hb : a.a.getLsbD 7 = true
    · rw [if_pos (t2.2 hb), if_pos (t1.2 hb)]
      rw [hw, ones_32, ones_8]
      simp [V.or, V.without, V.map2, V.word]
    · rw [if_neg (fun h => hb (t2.1 h)), if_neg (fun h => hb (t1.1 h))]
      exact hw
  · have t1 := bit_test a.a 15
    have t2 := bit_mask a.a 15 (by omega) ((Vb.ones 16).a &&& ~~~((Vb.ones 16).a >>> 1)) (by decide)
    by_cases hb : a.a.getLsbD 15 = true
    · rw [if_pos (t2.2 hb), if_pos (t1.2 hb)]
      rw [hw, ones_32, ones_16]
      simp [V.or, V.without, V.map2, V.word]
    · rw [if_neg (fun h => hb (t2.1 h)), if_neg (fun h => hb (t1.1 h))]
      exact hw
end Go.Proofs.YtboknfppecgjmaaGreat
namespace Go.Proofs.YtboknfppecgjmaaGreat
set_option linter.unusedVariables false
set_option linter.unusedSimpArgs false
open Go.RowKit Go.Shelf
def Rf.eq7 (u v : BitVec 32) : BitVec 32 := if u = v then 4294967295#32 else 0#32
def Rf.sevTo (f : BitVec 32 → BitVec 32 → BitVec 32) (s : Nat) (m u v : BitVec 32) : Nat → BitVec 32
  | 0 => 0#32
  | j + 1 => Rf.sevTo f s m u v j ||| ((f ((u >>> (s * j)) &&& m) ((v >>> (s * j)) &&& m) &&& m) <<< (s * j))
def Rf.sev (f : BitVec 32 → BitVec 32 → BitVec 32) (s : Nat) (m : BitVec 32) (n : Nat) (x y : V) : V :=
  ⟨Rf.sevTo f s m x.a y.a n, Rf.sevTo f s m x.b y.b n, Rf.sevTo f s m x.c y.c n, Rf.sevTo f s m x.d y.d n⟩
theorem sev_first (f : BitVec 32 → BitVec 32 → BitVec 32) (s : Nat) (m u v : BitVec 32) : Rf.sevTo f s m u v 0 ||| (f (u &&& m) (v &&& m) &&& m) = Rf.sevTo f s m u v 1 := by
  simp [Rf.sevTo]
structure L7 (n : Nat) (x y o : V) (W : World) : Prop where
  X : W.heap[n]? = some (vcell x)
  Y : W.heap[n + 1]? = some (vcell y)
  R : W.heap[n + 1 + 1]? = some (vcell V.zero)
  O : W.heap[n + 1 + 1 + 1]? = some (vcell o)
theorem L7.lt {n : Nat} {x y o : V} {W : World} (K : L7 n x y o W) : n + 1 + 1 + 1 < W.heap.size := (Array.getElem?_eq_some_iff.1 K.O).1
theorem L7.step {n : Nat} {x y o : V} {W W' : World} (K : L7 n x y o W) (hb : Below W.heap.size W W') : L7 n x y o W' := by
  have h1 := K.lt
  exact ⟨(hb.block _ (by omega)).trans K.X, (hb.block _ (by omega)).trans K.Y, (hb.block _ (by omega)).trans K.R, (hb.block _ h1).trans K.O⟩
theorem L7.store {n : Nat} {x y o p : V} {W W' : World} (K : L7 n x y o W) (hS : Stored (n + 1 + 1 + 1) W W') (hO : W'.heap[n + 1 + 1 + 1]? = some (vcell p)) : L7 n x y p W' :=
  ⟨(hS.other _ (by omega)).trans K.X, (hS.other _ (by omega)).trans K.Y, (hS.other _ (by omega)).trans K.R, hO⟩
theorem store1 {w : World} {b : Nat} {cs : Array Value} {T : TypeId} (h : w.heap[b]? = some (.cells cs T)) (o : Nat) (p : Value) :
    ∃ w', w.setCell ⟨b, o, none⟩ p = w' ∧ w'.heap[b]? = some (.cells (cs.setIfInBounds o p) T) ∧ Stored b w w' := ⟨_, rfl, setCells_heap b [p] o w cs T h, stored_cells b o [p] w⟩
theorem l7_8_0 (a : BitVec 32) (w : World) : Calls Tryz.prog 136 #[uv a, iv (0 : Int), iv (8 : Int)] w fun e w' => e = .returned (uv (a &&& 255#32)) ∧ Below w.heap.size w w' := by
  go_enter Tryz.func136, Tryz.ntmps136
  go_wp2
  go_ret
  exact ⟨rfl, by (repeat (first | exact Below.refl _ _ | refine Below.setCell ?_ (by first | omega | (simp <;> omega)) _ | refine Below.alloc ?_ (by first | omega | (simp <;> omega)) _ | refine Below.drew ?_ | refine Below.trans ?_ (Below.mono (by assumption) (by first | omega | (simp <;> omega)))))⟩
theorem l7_8_8 (a : BitVec 32) (w : World) : Calls Tryz.prog 136 #[uv a, iv (8 : Int), iv (8 : Int)] w fun e w' => e = .returned (uv ((a >>> 8) &&& 255#32)) ∧ Below w.heap.size w w' := by
  go_enter Tryz.func136, Tryz.ntmps136
  go_wp2
  go_ret
  exact ⟨rfl, by (repeat (first | exact Below.refl _ _ | refine Below.setCell ?_ (by first | omega | (simp <;> omega)) _ | refine Below.alloc ?_ (by first | omega | (simp <;> omega)) _ | refine Below.drew ?_ | refine Below.trans ?_ (Below.mono (by assumption) (by first | omega | (simp <;> omega)))))⟩
theorem l7_8_16 (a : BitVec 32) (w : World) : Calls Tryz.prog 136 #[uv a, iv (16 : Int), iv (8 : Int)] w fun e w' => e = .returned (uv ((a >>> 16) &&& 255#32)) ∧ Below w.heap.size w w' := by
  go_enter Tryz.func136, Tryz.ntmps136
  go_wp2
  go_ret
  exact ⟨rfl, by (repeat (first | exact Below.refl _ _ | refine Below.setCell ?_ (by first | omega | (simp <;> omega)) _ | refine Below.alloc ?_ (by first | omega | (simp <;> omega)) _ | refine Below.drew ?_ | refine Below.trans ?_ (Below.mono (by assumption) (by first | omega | (simp <;> omega)))))⟩
theorem l7_8_24 (a : BitVec 32) (w : World) : Calls Tryz.prog 136 #[uv a, iv (24 : Int), iv (8 : Int)] w fun e w' => e = .returned (uv ((a >>> 24) &&& 255#32)) ∧ Below w.heap.size w w' := by
  go_enter Tryz.func136, Tryz.ntmps136
  go_wp2
  go_ret
  exact ⟨rfl, by (repeat (first | exact Below.refl _ _ | refine Below.setCell ?_ (by first | omega | (simp <;> omega)) _ | refine Below.alloc ?_ (by first | omega | (simp <;> omega)) _ | refine Below.drew ?_ | refine Below.trans ?_ (Below.mono (by assumption) (by first | omega | (simp <;> omega)))))⟩
theorem l7_16_0 (a : BitVec 32) (w : World) : Calls Tryz.prog 136 #[uv a, iv (0 : Int), iv (16 : Int)] w fun e w' => e = .returned (uv (a &&& 65535#32)) ∧ Below w.heap.size w w' := by
  go_enter Tryz.func136, Tryz.ntmps136
  go_wp2
  go_ret
  exact ⟨rfl, by (repeat (first | exact Below.refl _ _ | refine Below.setCell ?_ (by first | omega | (simp <;> omega)) _ | refine Below.alloc ?_ (by first | omega | (simp <;> omega)) _ | refine Below.drew ?_ | refine Below.trans ?_ (Below.mono (by assumption) (by first | omega | (simp <;> omega)))))⟩
theorem l7_16_16 (a : BitVec 32) (w : World) : Calls Tryz.prog 136 #[uv a, iv (16 : Int), iv (16 : Int)] w fun e w' => e = .returned (uv ((a >>> 16) &&& 65535#32)) ∧ Below w.heap.size w w' := by
  go_enter Tryz.func136, Tryz.ntmps136
  go_wp2
  go_ret
  exact ⟨rfl, by (repeat (first | exact Below.refl _ _ | refine Below.setCell ?_ (by first | omega | (simp <;> omega)) _ | refine Below.alloc ?_ (by first | omega | (simp <;> omega)) _ | refine Below.drew ?_ | refine Below.trans ?_ (Below.mono (by assumption) (by first | omega | (simp <;> omega)))))⟩
theorem l7_32_0 (a : BitVec 32) (w : World) : Calls Tryz.prog 136 #[uv a, iv (0 : Int), iv (32 : Int)] w fun e w' => e = .returned (uv (a &&& 4294967295#32)) ∧ Below w.heap.size w w' := by
  go_enter Tryz.func136, Tryz.ntmps136
  go_wp2
  go_ret
  exact ⟨rfl, by (repeat (first | exact Below.refl _ _ | refine Below.setCell ?_ (by first | omega | (simp <;> omega)) _ | refine Below.alloc ?_ (by first | omega | (simp <;> omega)) _ | refine Below.drew ?_ | refine Below.trans ?_ (Below.mono (by assumption) (by first | omega | (simp <;> omega)))))⟩
def Rf.f51 (u v : BitVec 32) : BitVec 32 := u + v
def Rf.f52 (u v : BitVec 32) : BitVec 32 := u - v
def Rf.f53 (u v : BitVec 32) : BitVec 32 := Rf.eq7 u v
end Go.Proofs.YtboknfppecgjmaaGreat
