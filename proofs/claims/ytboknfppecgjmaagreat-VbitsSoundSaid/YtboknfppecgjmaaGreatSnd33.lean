/- Part 33 of the proof's texts: PlainN. -/
import Derived.Test.YtboknfppecgjmaaGreatSnd16
import Derived.Test.YtboknfppecgjmaaGreatSnd25
import Derived.Test.YtboknfppecgjmaaGreatSnd32
namespace Go.Proofs.YtboknfppecgjmaaGreat
set_option linter.unusedVariables false
set_option linter.unusedSimpArgs false
open Go.RowKit
/-- The top bits of the first so many bytes. -/
def Rf.mseven (x : V) : Nat → BitVec 32
  | 0 => 0#32
  | i + 1 => Rf.mseven x i ||| (((((x.get (i / 4)) >>> (8 * (i % 4))) &&& 255#32) >>> 7) <<< i)
/-- Bytes of x, picked by those of y. -/
def Rf.shuf7 (x y : V) : V := V.gen (Vb.shufWord x y V.zero)
/-- What the reference computes for a unary operation of a value z of its type. -/
def Rf.un12 (op p to off : Int) (z : V) : V :=
  if op = 1 then (V.neg z).and (Vb.ones to) else if op = 2 ∨ op = 4 then z.and (Vb.ones to) else if op = 3 then V.word (Rf.signed z.a p.toNat)
  else if op = 5 then Vb.one (!decide (z = V.zero)) else if op = 6 then (if z.a = 1#32 then (V.neg V.zero).and (Vb.ones to) else V.zero)
  else if op = 7 then V.word (Vb.left z.a) else if op = 8 then V.neg (Rf.sev Rf.f53 8 (mk 8) 4 z V.zero) else if op = 9 then V.neg (Rf.sev Rf.f53 16 (mk 16) 2 z V.zero) else if op = 10 then V.neg (Rf.sev Rf.f53 32 (mk 32) 1 z V.zero)
  else if op = 11 then ⟨z.a, z.a, z.a, z.a⟩ else if op = 12 then V.word (z.get off.toNat) else V.word (Rf.mseven z 16)
/-- Four operations of which soundness asks nothing but that they are functions. -/
def Rf.any7 (op : Int) (x y : BitVec 32) : BitVec 32 :=
  if op = 4 then BitVec.ofInt 32 (IntKind.u64.wrap (IntKind.u64.wrap (U x) * IntKind.u64.wrap (U y)) / 4294967296)
  else if y = 0#32 then 0#32 else if op = 5 then BitVec.ofInt 32 (U (x / y)) else if op = 6 then x % y else BitVec.ofInt 32 (wrap64 ((S x).tdiv (S y)))
/-- What the reference computes for a binary operation of values of their types. -/
def Rf.bin12 (op off : Int) (x y : V) : V :=
  if op = 1 then V.word (x.a + y.a) else if op = 2 then V.word (x.a - y.a) else if op = 3 then V.word (x.a * y.a) else if op = 4 ∨ op = 5 ∨ op = 6 ∨ op = 7 then V.word (Rf.any7 op x.a y.a)
  else if op = 8 then x.and y else if op = 9 then x.or y else if op = 10 then x.xor y
  else if op = 11 then V.word (x.a <<< (y.a.toNat % 32)) else if op = 12 then V.word (x.a >>> (y.a.toNat % 32)) else if op = 13 then V.word (x.a.sshiftRight (y.a.toNat % 32))
  else if op = 14 then Vb.one (decide (x = y)) else if op = 15 then Vb.one (!decide (x = y))
  else if op = 16 then Vb.one (decide (x.a < y.a)) else if op = 17 then Vb.one (decide (S x.a < S y.a)) else if op = 18 then Vb.one (decide (x.a ≤ y.a)) else if op = 19 then Vb.one (decide (S x.a ≤ S y.a))
  else if op = 20 then Rf.sev Rf.f51 8 (mk 8) 4 x y else if op = 21 then Rf.sev Rf.f51 16 (mk 16) 2 x y else if op = 22 then Rf.sev Rf.f51 32 (mk 32) 1 x y
  else if op = 23 then Rf.sev Rf.f52 8 (mk 8) 4 x y else if op = 24 then Rf.sev Rf.f52 16 (mk 16) 2 x y else if op = 25 then Rf.sev Rf.f52 32 (mk 32) 1 x y
  else if op = 26 then Rf.sev Rf.f53 8 (mk 8) 4 x y else if op = 27 then Rf.sev Rf.f53 16 (mk 16) 2 x y else if op = 28 then Rf.sev Rf.f53 32 (mk 32) 1 x y
  else if op = 29 then Rf.shuf7 x y else x.set off.toNat y.a

/-! ### words -/
theorem Ag.L {x x' a : BitVec 32} (h : Ag x x' a) (s k : Nat) : Ag (L x s k) (L x' s k) (L a s k) := by
  apply Ag.of; intro i hi
  unfold Go.Proofs.YtboknfppecgjmaaGreat.L
  generalize mk s = m
  simp only [BitVec.getLsbD_and, BitVec.getLsbD_ushiftRight]
  by_cases h2 : s * k + i < 32
  · rcases h.bit _ h2 with h | h
    · cases hm : m.getLsbD i
      · right; simp
      · left; simp [h]
    · right; simp [h]
  · right
    rw [BitVec.getLsbD_of_ge x _ (by omega), BitVec.getLsbD_of_ge x' _ (by omega)]
theorem Ag.all (x x' : BitVec 32) : Ag x x' 4294967295#32 := by
  apply Ag.of; intro i hi
  left
  show (BitVec.allOnes 32).getLsbD i = true
  rw [BitVec.getLsbD_allOnes]
  simpa using hi
theorem Ag.eq {x x' : BitVec 32} (h : Ag x x' 0#32) : x = x' := by
  apply BitVec.eq_of_getLsbD_eq; intro i hi
  rcases h.bit i hi with h | h
  · simp at h
  · exact h
theorem Ag.not {x x' a : BitVec 32} (h : Ag x x' a) : Ag (~~~x) (~~~x') a := by
  apply Ag.of; intro i hi
  rcases h.bit i hi with h | h
  · exact .inl h
  · right; simp only [BitVec.getLsbD_not]; rw [h]
theorem Agv.of_get {x x' a : V} (h : ∀ j, j < 4 → Ag (x.get j) (x'.get j) (a.get j)) : Agv x x' a :=
  ⟨h 0 (by omega), h 1 (by omega), h 2 (by omega), h 3 (by omega)⟩
theorem Agv.of_bits {x x' a : V} (h : ∀ j, j < 4 → ∀ t, t < 32 → (a.get j).getLsbD t = true ∨ (x.get j).getLsbD t = (x'.get j).getLsbD t) : Agv x x' a :=
  Agv.of_get fun j hj => Ag.of fun t ht => h j hj t ht
theorem Agv.word {x x' a : BitVec 32} (h : Ag x x' a) : Agv (V.word x) (V.word x') (V.word a) := ⟨h, rfl, rfl, rfl⟩
theorem Agv.eq {x x' : V} (h : Agv x x' V.zero) : x = x' := ext4 h.fa.eq h.fb.eq h.fc.eq h.fd.eq
theorem Agv.not {x x' a : V} (h : Agv x x' a) : Agv (V.neg x) (V.neg x') a := ⟨h.fa.not, h.fb.not, h.fc.not, h.fd.not⟩
theorem Agv.symm {x x' a : V} (h : Agv x x' a) : Agv x' x a := ⟨h.fa.symm, h.fb.symm, h.fc.symm, h.fd.symm⟩
theorem Agv.trans {x y z a : V} (h : Agv x y a) (g : Agv y z a) : Agv x z a := ⟨h.fa.trans g.fa, h.fb.trans g.fb, h.fc.trans g.fc, h.fd.trans g.fd⟩
theorem Ag.and_ones {x x' a : BitVec 32} (h : Ag x x' a) (o : BitVec 32) : Ag (x &&& o) (x' &&& o) (a &&& o) := by
  apply Ag.of; intro i hi
  simp only [BitVec.getLsbD_and]
  rcases h.bit i hi with h | h
  · cases o.getLsbD i
    · right; simp
    · left; simp [h]
  · right; rw [h]
theorem Agv.and_ones {x x' a : V} (h : Agv x x' a) (o : V) : Agv (x.and o) (x'.and o) (a.and o) := ⟨h.fa.and_ones _, h.fb.and_ones _, h.fc.and_ones _, h.fd.and_ones _⟩
theorem is_and_self {ty : Int} {a : V} (h : Vb.is ty a = true) : a.and (Vb.ones ty) = a := by
  obtain ⟨_, h1, h2, h3, h4⟩ := is_parts h
  have w : ∀ x m : BitVec 32, x &&& ~~~m = 0#32 → x &&& m = x := by
    intro x m hm
    apply BitVec.eq_of_getLsbD_eq; intro i hi
    have hb := congrArg (fun z => z.getLsbD i) hm
    simp only [BitVec.getLsbD_and, BitVec.getLsbD_not, hi, decide_true, Bool.true_and, BitVec.getLsbD_zero] at hb ⊢
    cases hx : x.getLsbD i <;> cases hmm : m.getLsbD i <;> simp_all
  exact ext4 (w _ _ h1) (w _ _ h2) (w _ _ h3) (w _ _ h4)
theorem Agv.one {p p' c : Bool} (h : c = true ∨ p = p') : Agv (Vb.one p) (Vb.one p') (Vb.one c) := by
  rcases h with rfl | rfl
  · cases p <;> cases p' <;> exact ⟨by unfold Ag; decide, by unfold Ag; decide, by unfold Ag; decide, by unfold Ag; decide⟩
  · exact Agv.refl _ _

/-! ### lanes -/
def LaneSound (f : BitVec 32 → BitVec 32 → BitVec 32) (F : BitVec 32 → BitVec 32 → BitVec 32 → BitVec 32 → BitVec 32) : Prop := ∀ x x' a y y' b, Ag x x' a → Ag y y' b → Ag (f x y) (f x' y') (F x a y b)
theorem add_sound : LaneSound Rf.f51 Vb.added := by
  intro x x' a y y' b hx hy
  apply Ag.of; intro i hi
  cases hs : (Vb.added x a y b).getLsbD i
  · right
    rw [added_bit _ _ _ _ i hi] at hs
    have gx := hx.bit i hi
    have gy := hy.bit i hi
    have e1 : Vb.least x' a = Vb.least x a := Eq.symm hx
    have e2 : Vb.least y' b = Vb.least y b := Eq.symm hy
    have e3 : Vb.greatest x' a = Vb.greatest x a := hx.or.symm
    have e4 : Vb.greatest y' b = Vb.greatest y b := hy.or.symm
    have lo : ∀ z c : BitVec 32, Sub (Vb.least z c) z := fun z c k _ h => by simp only [Vb.least, BitVec.getLsbD_and, Bool.and_eq_true] at h; exact h.1
    have hi' : ∀ z c : BitVec 32, Sub z (Vb.greatest z c) := fun z c k _ h => by simp only [Vb.greatest, BitVec.getLsbD_or, Bool.or_eq_true]; exact .inl h
    have c1 := carry_mono (lo x a) (lo y b) i (by omega)
    have c2 := carry_mono (hi' x a) (hi' y b) i (by omega)
    have c3 := carry_mono (lo x' a) (lo y' b) i (by omega)
    have c4 := carry_mono (hi' x' a) (hi' y' b) i (by omega)
    rw [e1, e2] at c3
    rw [e3, e4] at c4
    show (x + y).getLsbD i = (x' + y').getLsbD i
    rw [BitVec.getLsbD_add hi, BitVec.getLsbD_add hi]
    revert hs gx gy c1 c2 c3 c4
    simp only [Vb.least, Vb.greatest, BitVec.getLsbD_and, BitVec.getLsbD_or, BitVec.getLsbD_not, hi, decide_true, Bool.true_and]
    generalize BitVec.carry i (x &&& ~~~a) (y &&& ~~~b) false = k1
    generalize BitVec.carry i (x ||| a) (y ||| b) false = k2
    generalize BitVec.carry i x y false = k3
    generalize BitVec.carry i x' y' false = k4
    generalize x.getLsbD i = p
    generalize y.getLsbD i = q
    generalize x'.getLsbD i = p'
    generalize y'.getLsbD i = q'
    generalize a.getLsbD i = r
    generalize b.getLsbD i = s
    revert k1 k2 k3 k4 p q p' q' r s
    decide
  · exact .inl rfl
theorem sub_not (x y : BitVec 32) : x - y = ~~~(~~~x + y) := by rw [bw_n3, BitVec.not_not]
theorem sub_sound : LaneSound Rf.f52 Vb.subtracted := by
  intro x x' a y y' b hx hy
  rw [sub_add]
  show Ag (x - y) (x' - y') _
  rw [sub_not, sub_not x']
  exact (add_sound _ _ _ _ _ _ hx.not hy).not
theorem or_zero (a b : BitVec 32) (h : a ||| b = 0#32) : a = 0#32 ∧ b = 0#32 := by
  constructor
  all_goals
    apply BitVec.eq_of_getLsbD_eq; intro i hi
    have := congrArg (fun z => z.getLsbD i) h
    simp only [BitVec.getLsbD_or, BitVec.getLsbD_zero, Bool.or_eq_false_iff] at this
    simp [this.1, this.2]
theorem eq_differ {x y a : BitVec 32} (h : (x ^^^ y) &&& ~~~a ≠ 0#32) : x ≠ y := by
  rintro rfl
  apply h
  simp
theorem eq_sound : LaneSound Rf.f53 Vb.equal := by
  intro x x' a y y' b hx hy
  have he := eq_bits hx hy
  unfold Rf.f53 Rf.eq7 Vb.equal Vb.some
  by_cases h : (x ^^^ y) &&& ~~~(a ||| b) = 0#32
  · have h' : (x ^^^ y) &&& ~~~(a ||| b) = 0 := h
    rw [if_pos h']
    by_cases h2 : a ||| b = 0#32
    · obtain ⟨rfl, rfl⟩ := or_zero _ _ h2
      obtain rfl := hx.eq
      obtain rfl := hy.eq
      rfl
    · have h2' : ¬ a ||| b = 0 := h2
      rw [if_neg h2']
      exact Ag.all _ _
  · have h' : ¬ (x ^^^ y) &&& ~~~(a ||| b) = 0 := h
    rw [if_neg h', if_neg (eq_differ h), if_neg (eq_differ (by rw [← he]; exact h))]
    rfl
theorem sevTo_bit (f : BitVec 32 → BitVec 32 → BitVec 32) {s : Nat} (hs : Wide s) (u v : BitVec 32) (t : Nat) (ht : t < 32) : ∀ n, s * n ≤ 32 → (Rf.sevTo f s (mk s) u v n).getLsbD t = (decide (t / s < n) && (f (L u s (t / s)) (L v s (t / s))).getLsbD (t % s))
  | 0, _ => by simp [Rf.sevTo]
  | n + 1, h => by
    have hpos : 0 < s := by rcases hs with rfl | rfl | rfl <;> omega
    have ih := sevTo_bit f hs u v t ht n (by rw [Nat.mul_add] at h; omega)
    simp only [Rf.sevTo]
    rw [BitVec.getLsbD_or, ih]
    simp only [BitVec.getLsbD_and, BitVec.getLsbD_shiftLeft, mk_bit hs, ht, decide_true, Bool.true_and]
    show (_ || (!decide (t < s * n) && ((f (L u s n) (L v s n)).getLsbD (t - s * n) && decide (t - s * n < s)))) = _
    by_cases hk : t / s = n
    · have h2 : ¬ t < s * n := by rcases hs with rfl | rfl | rfl <;> omega
      have h3 : t - s * n = t % s := by rcases hs with rfl | rfl | rfl <;> omega
      have h4 : t % s < s := Nat.mod_lt _ hpos
      have h5 : ¬ t / s < n := by omega
      have h6 : t / s < n + 1 := by omega
      rw [decide_eq_false h5, decide_eq_true h6, decide_eq_false h2, h3, decide_eq_true h4, hk]
      simp
    · have h2 : t < s * n ∨ ¬ t - s * n < s := by rcases hs with rfl | rfl | rfl <;> omega
      have h3 : decide (t / s < n + 1) = decide (t / s < n) := decide_eq_decide.2 (by omega)
      rw [h3]
      rcases h2 with h2 | h2 <;> simp [h2]
theorem sev_get (f : BitVec 32 → BitVec 32 → BitVec 32) (s : Nat) (m : BitVec 32) (n : Nat) (x y : V) (j : Nat) (hj : j < 4) : (Rf.sev f s m n x y).get j = Rf.sevTo f s m (x.get j) (y.get j) n := by
  rcases (show j = 0 ∨ j = 1 ∨ j = 2 ∨ j = 3 by omega) with rfl | rfl | rfl | rfl <;> rfl
theorem sev_bit (f : BitVec 32 → BitVec 32 → BitVec 32) {s : Nat} (hs : Wide s) (x y : V) (j t : Nat) (hj : j < 4) (ht : t < 32) :
    ((Rf.sev f s (mk s) (32 / s) x y).get j).getLsbD t = (f (L (x.get j) s (t / s)) (L (y.get j) s (t / s))).getLsbD (t % s) := by
  rw [sev_get f s _ _ x y j hj, sevTo_bit f hs _ _ t ht _ (by rcases hs with rfl | rfl | rfl <;> omega)]
  have h : t / s < 32 / s := by rcases hs with rfl | rfl | rfl <;> omega
  rw [decide_eq_true h]
  simp
theorem sev_sound {f : BitVec 32 → BitVec 32 → BitVec 32} {F : BitVec 32 → BitVec 32 → BitVec 32 → BitVec 32 → BitVec 32} (hf : LaneSound f F) {s : Nat} (hs : Wide s) {x x' a y y' b : V} (hx : Agv x x' a) (hy : Agv y y' b) :
    Agv (Rf.sev f s (mk s) (32 / s) x y) (Rf.sev f s (mk s) (32 / s) x' y') (Vb.each s x a y b F) := by
  apply Agv.of_bits
  intro j hj t ht
  rw [sev_bit f hs x y j t hj ht, sev_bit f hs x' y' j t hj ht, each_bit hs F x a y b j t hj ht]
  exact (hf _ _ _ _ _ _ ((hx.get j).L s (t / s)) ((hy.get j).L s (t / s))).bit _ (by rcases hs with rfl | rfl | rfl <;> omega)
theorem unLane_equal (x a : BitVec 32) : Vb.unLane x a 0#32 0#32 = Vb.equal x a 0#32 0#32 := by
  unfold Vb.unLane Vb.equal
  simp only [BitVec.xor_zero, BitVec.or_zero]
theorem L_zero (s k : Nat) : L 0#32 s k = 0#32 := by simp [L]
theorem each_un (s : Nat) (hs : Wide s) (x a : V) : Vb.each s x a V.zero V.zero Vb.unLane = Vb.each s x a V.zero V.zero Vb.equal := by
  apply ext_bits
  intro j hj t ht
  rw [each_bit hs _ _ _ _ _ j t hj ht, each_bit hs _ _ _ _ _ j t hj ht, get_z, L_zero, unLane_equal]
theorem lanes_sound {s : Nat} (hs : Wide s) {x x' a : V} (hx : Agv x x' a) : Agv (V.neg (Rf.sev Rf.f53 s (mk s) (32 / s) x V.zero)) (V.neg (Rf.sev Rf.f53 s (mk s) (32 / s) x' V.zero)) (Vb.each s x a V.zero V.zero Vb.unLane) := by
  rw [each_un s hs]
  exact (sev_sound eq_sound hs hx (Agv.refl V.zero V.zero)).not

/-! ### unary operations -/
theorem left_sound {x x' a : BitVec 32} (h : Ag x x' a) : Ag (Vb.left x) (Vb.left x') (Vb.left a &&& ~~~Vb.left (x &&& ~~~a)) := by
  apply Ag.of; intro i hi
  have one : ∀ z z' : BitVec 32, Ag z z' a → (Vb.left z).getLsbD i = true → (Vb.left a &&& ~~~Vb.left (z &&& ~~~a)).getLsbD i = true ∨ (Vb.left z').getLsbD i = true := by
    intro z z' hz h1
    by_cases h2 : (Vb.left (z &&& ~~~a)).getLsbD i = true
    · right
      obtain ⟨j, hj, hb⟩ := (left_bit _ i hi).1 h2
      refine (left_bit _ i hi).2 ⟨j, hj, ?_⟩
      have hz' : z &&& ~~~a = z' &&& ~~~a := hz
      rw [hz'] at hb
      simp only [BitVec.getLsbD_and, Bool.and_eq_true] at hb
      exact hb.1
    · left
      obtain ⟨j, hj, hb⟩ := (left_bit _ i hi).1 h1
      have ha : a.getLsbD j = true := by
        cases hc : a.getLsbD j
        · exfalso
          apply h2
          refine (left_bit _ i hi).2 ⟨j, hj, ?_⟩
          have h32 : j < 32 := by omega
          rw [BitVec.getLsbD_and, BitVec.getLsbD_not, hb, hc]
          simp [h32]
        · rfl
      have h3 : (Vb.left a).getLsbD i = true := (left_bit _ i hi).2 ⟨j, hj, ha⟩
      simp only [Bool.not_eq_true] at h2
      rw [BitVec.getLsbD_and, BitVec.getLsbD_not, h3, h2]
      simp [hi]
  have e : x &&& ~~~a = x' &&& ~~~a := h
  have o1 := one x x' h
  have o2 := one x' x h.symm
  rw [← e] at o2
  cases h1 : (Vb.left x).getLsbD i <;> cases h2 : (Vb.left x').getLsbD i
  · exact .inr rfl
  · rcases o2 h2 with h | h
    · exact .inl h
    · rw [h] at h1; cases h1
  · rcases o1 h1 with h | h
    · exact .inl h
    · rw [h] at h2; cases h2
  · exact .inr rfl
theorem signed_bit {n : Nat} (hn : n = 1 ∨ n = 8 ∨ n = 16) (x : BitVec 32) (i : Nat) (hi : i < 32) : (Rf.signed x n).getLsbD i = (x.getLsbD i || (decide (n ≤ i) && x.getLsbD (n - 1))) := by
  unfold Rf.signed
  have hb := bit_test x (n - 1)
  have hm : ((4294967295#32) <<< n).getLsbD i = decide (n ≤ i) := by
    show ((BitVec.allOnes 32) <<< n).getLsbD i = _
    rw [BitVec.getLsbD_shiftLeft, BitVec.getLsbD_allOnes]
    have h32 : i - n < 32 := by omega
    simp only [hi, h32, decide_true, Bool.true_and, Bool.and_true]
    by_cases h : i < n
    · have : ¬ n ≤ i := by omega
      simp [h, this]
    · have : n ≤ i := by omega
      simp [h, this]
  cases h : x.getLsbD (n - 1)
  · rw [if_neg (fun hh => by rw [hb.1 hh] at h; cases h)]
    simp
  · rw [if_pos (hb.2 h), BitVec.getLsbD_or, hm]
    simp
theorem signed_sound {n : Nat} (hn : n = 1 ∨ n = 8 ∨ n = 16) {x x' a : BitVec 32} (h : Ag x x' a) : Ag (Rf.signed x n) (Rf.signed x' n) (Rf.signed a n) := by
  apply Ag.of; intro i hi
  rw [signed_bit hn _ i hi, signed_bit hn _ i hi, signed_bit hn _ i hi]
  have h1 := h.bit i hi
  have h2 := h.bit (n - 1) (by omega)
  revert h1 h2
  generalize x.getLsbD i = p
  generalize x'.getLsbD i = p'
  generalize a.getLsbD i = r
  generalize x.getLsbD (n - 1) = q
  generalize x'.getLsbD (n - 1) = q'
  generalize a.getLsbD (n - 1) = s
  generalize decide (n ≤ i) = d
  revert p p' r q q' s d
  decide
theorem mseven_bit (x : V) (i : Nat) : ∀ n, n ≤ 16 → i < 32 → (Rf.mseven x n).getLsbD i = (decide (i < n) && (x.get (i / 4)).getLsbD (8 * (i % 4) + 7))
  | 0, _, _ => by simp [Rf.mseven]
  | n + 1, h, hi => by
    have h8 : Wide 8 := .inl rfl
    have e : (255#32) = mk 8 := by decide
    simp only [Rf.mseven]
    rw [BitVec.getLsbD_or, mseven_bit x i n (by omega) hi, e]
    simp only [BitVec.getLsbD_shiftLeft, BitVec.getLsbD_ushiftRight, BitVec.getLsbD_and, mk_bit h8, hi, decide_true, Bool.true_and]
    by_cases hk : i = n
    · subst hk
      simp
    · by_cases h1 : i < n
      · have h2 : i < n + 1 := by omega
        simp [h1, h2]
      · have h2 : ¬ i < n + 1 := by omega
        have h3 : ¬ 7 + (i - n) < 8 := by omega
        simp [h1, h2, h3]
theorem maskTo_bit (x : V) (i : Nat) : ∀ n, n ≤ 16 → i < 32 → (Vb.maskTo x n).getLsbD i = (decide (i < n) && (x.get (i / 4)).getLsbD (8 * (i % 4) + 7))
  | 0, _, _ => by simp [Vb.maskTo]
  | n + 1, h, hi => by
    have h1 : ∀ k, (1#32).getLsbD k = decide (k = 0) := fun k => by rw [BitVec.getLsbD_one]; simp
    simp only [Vb.maskTo]
    rw [BitVec.getLsbD_or, maskTo_bit x i n (by omega) hi]
    show (_ || (((x.get (n / 4) >>> (8 * (n % 4) + 7)) &&& 1#32) <<< n).getLsbD i) = _
    simp only [BitVec.getLsbD_shiftLeft, BitVec.getLsbD_ushiftRight, BitVec.getLsbD_and, h1, hi, decide_true, Bool.true_and]
    by_cases hk : i = n
    · subst hk
      simp
    · by_cases h1 : i < n
      · have h2 : i < n + 1 := by omega
        simp [h1, h2]
      · have h2 : ¬ i < n + 1 := by omega
        have h3 : ¬ i - n = 0 := by omega
        simp [h1, h2, h3]
theorem mask_sound {x x' a : V} (h : Agv x x' a) : Ag (Rf.mseven x 16) (Rf.mseven x' 16) (Vb.maskTo a 16) := by
  apply Ag.of; intro i hi
  rw [mseven_bit x i 16 (by omega) hi, mseven_bit x' i 16 (by omega) hi, maskTo_bit a i 16 (by omega) hi]
  have h1 := (h.get (i / 4)).bit (8 * (i % 4) + 7) (by omega)
  cases decide (i < 16)
  · right; simp
  · simpa using h1
theorem isZero_eq {x : V} (h : x.isZero = true) : x = V.zero := of_decide_eq_true h
theorem nz_sound {x x' a : V} (h : Agv x x' a) : Agv (Vb.one (!decide (x = V.zero))) (Vb.one (!decide (x' = V.zero))) (Vb.one (!a.isZero && (x.without a).isZero)) := by
  apply Agv.one
  cases ha : a.isZero
  · cases hw : (x.without a).isZero
    · right
      have no : ∀ z : V, z.without a = x.without a → decide (z = V.zero) = false := by
        intro z hz
        apply decide_eq_false
        rintro rfl
        rw [← hz] at hw
        have : V.zero.without a = V.zero := by simp [V.without, V.map2, V.zero]
        rw [this] at hw
        exact absurd hw (by decide)
      rw [no x rfl, no x' h.without.symm]
    · left; rfl
  · right
    rw [isZero_eq ha] at h
    rw [h.eq]
theorem sound_un {op p to off : Int} {x x' a : V} (hU : Vb.isUn op p to off = true) (ha : Vb.is p a = true) (h : Agv x x' a) : Agv (Rf.un12 op p to off x) (Rf.un12 op p to off x') (Vb.unOp op ⟨x, a, p, to, off⟩) := by
  by_cases h1 : op = 1
  · subst h1
    have hp : p = to := by
      unfold Vb.isUn at hU
      simp only at hU
      split at hU
      · cases hU
      · simpa using hU
    subst hp
    show Agv ((V.neg x).and (Vb.ones p)) ((V.neg x').and (Vb.ones p)) a
    have := h.not.and_ones (Vb.ones p)
    rw [is_and_self ha] at this
    exact this
  by_cases h2 : op = 2
  · subst h2; exact h.and_ones _
  by_cases h4 : op = 4
  · subst h4; exact h.and_ones _
  by_cases h3 : op = 3
  · subst h3
    obtain ⟨hp, _⟩ := isUn_small hU (.inr rfl)
    have hn : (p = 1 ∧ p.toNat = 1) ∨ (p = 8 ∧ p.toNat = 8) ∨ (p = 16 ∧ p.toNat = 16) := by omega
    rw [sext_eq ha p.toNat hn]
    exact Agv.word (signed_sound (by omega) h.fa)
  by_cases h5 : op = 5
  · subst h5; exact nz_sound h
  by_cases h6 : op = 6
  · subst h6
    obtain rfl := isUn_fill hU
    show Agv (if x.a = 1#32 then (V.neg V.zero).and (Vb.ones to) else V.zero) (if x'.a = 1#32 then (V.neg V.zero).and (Vb.ones to) else V.zero) (if a.a = 1 then Vb.ones to else V.zero)
    rcases is_one ha with rfl | rfl
    · rw [h.eq]; exact Agv.refl _ _
    · rw [if_pos (show (V.word 1#32).a = 1 from rfl)]
      apply Agv.of_bits
      intro j hj t ht
      cases ho : ((Vb.ones to).get j).getLsbD t
      · right
        have e : ∀ z : V, ((if z.a = 1#32 then (V.neg V.zero).and (Vb.ones to) else V.zero).get j).getLsbD t = false := by
          intro z
          split
          · have e2 : ((V.neg V.zero).and (Vb.ones to)).get j = (V.neg V.zero).get j &&& (Vb.ones to).get j := by
              rcases (show j = 0 ∨ j = 1 ∨ j = 2 ∨ j = 3 by omega) with rfl | rfl | rfl | rfl <;> rfl
            rw [e2, BitVec.getLsbD_and, ho, Bool.and_false]
          · exact zero_get j t
        rw [e, e]
      · exact .inl rfl
  by_cases h7 : op = 7
  · subst h7; exact Agv.word (left_sound h.fa)
  by_cases h8 : op = 8
  · subst h8; exact lanes_sound (.inl rfl) h
  by_cases h9 : op = 9
  · subst h9; exact lanes_sound (.inr (.inl rfl)) h
  by_cases h10 : op = 10
  · subst h10; exact lanes_sound (.inr (.inr rfl)) h
  by_cases h11 : op = 11
  · subst h11; exact ⟨h.fa, h.fa, h.fa, h.fa⟩
  by_cases h12 : op = 12
  · subst h12; exact Agv.word (h.get _)
  · have e1 : ∀ z, Rf.un12 op p to off z = V.word (Rf.mseven z 16) := fun z => by unfold Rf.un12; simp [h1, h2, h3, h4, h5, h6, h7, h8, h9, h10, h11, h12]
    have e2 : Vb.unOp op ⟨x, a, p, to, off⟩ = V.word (Vb.maskTo a 16) := by unfold Vb.unOp; simp [h1, h2, h3, h4, h5, h6, h7, h8, h9, h10, h11, h12, Vb.Unary.mask]
    rw [e1, e1, e2]
    exact Agv.word (mask_sound h)
end Go.Proofs.YtboknfppecgjmaaGreat
