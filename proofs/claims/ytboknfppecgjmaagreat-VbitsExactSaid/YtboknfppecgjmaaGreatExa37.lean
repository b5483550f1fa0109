/- Part 37 of the proof's texts: PlainO, PlainP, PlainX, PlainY, PlainZ, PlainW, PlainU, ExactA, ExactE. -/
import Derived.Test.YtboknfppecgjmaaGreatExa15
import Derived.Test.YtboknfppecgjmaaGreatExa16
import Derived.Test.YtboknfppecgjmaaGreatExa32
import Derived.Test.YtboknfppecgjmaaGreatExa33
set_option maxHeartbeats 16000000
namespace Go.Proofs.YtboknfppecgjmaaGreat
set_option linter.unusedVariables false
set_option linter.unusedSimpArgs false
theorem orv_zero {a b : V} (h : (a.or b).isZero = true) : a = V.zero ∧ b = V.zero := by
  obtain ⟨h1, h2, h3, h4⟩ := (isZero_iff _).1 h
  exact ⟨ext4 (or_zero _ _ h1).1 (or_zero _ _ h2).1 (or_zero _ _ h3).1 (or_zero _ _ h4).1, ext4 (or_zero _ _ h1).2 (or_zero _ _ h2).2 (or_zero _ _ h3).2 (or_zero _ _ h4).2⟩
def Rf.less12 (op : Int) (x y : BitVec 32) : Bool := Vb.lessOp op (x ^^^ Vb.flip op) (y ^^^ Vb.flip op)
theorem less12_16 (x y : BitVec 32) : decide (x < y) = Rf.less12 16 x y := by
  have f : Vb.flip 16 = 0#32 := rfl
  unfold Rf.less12 Vb.lessOp
  rw [f, BitVec.xor_zero, BitVec.xor_zero]; simp
theorem less12_18 (x y : BitVec 32) : decide (x ≤ y) = Rf.less12 18 x y := by
  have f : Vb.flip 18 = 0#32 := rfl
  unfold Rf.less12 Vb.lessOp
  rw [f, BitVec.xor_zero, BitVec.xor_zero, ← lt_or_eq]; simp
theorem less12_17 (x y : BitVec 32) : decide (S x < S y) = Rf.less12 17 x y := by
  have f : Vb.flip 17 = 2147483648#32 := rfl
  rw [slt_flip]
  unfold Rf.less12 Vb.lessOp
  rw [f]; simp
theorem less12_19 (x y : BitVec 32) : decide (S x ≤ S y) = Rf.less12 19 x y := by
  have f : Vb.flip 19 = 2147483648#32 := rfl
  rw [sle_flip]
  unfold Rf.less12 Vb.lessOp
  rw [f, ← lt_or_eq]; simp
theorem ones_mono_all (x : BitVec 32) (t : Nat) (h : t < 8) : (255#32).getLsbD t = true := by
  have h8 : Wide 8 := .inl rfl
  have := mk_bit h8 t
  rw [show mk 8 = 255#32 by decide] at this
  rw [this]
  exact decide_eq_true h
theorem gen_get (f : Nat → BitVec 32) (j : Nat) (hj : j < 4) : (V.gen f).get j = f j := by
  rcases (show j = 0 ∨ j = 1 ∨ j = 2 ∨ j = 3 by omega) with rfl | rfl | rfl | rfl <;> rfl
end Go.Proofs.YtboknfppecgjmaaGreat
namespace Go.Proofs.YtboknfppecgjmaaGreat
set_option linter.unusedVariables false
set_option linter.unusedSimpArgs false
theorem isUn_same {p to off : Int} (h : Vb.isUn 1 p to off = true) : p = to := by
  unfold Vb.isUn at h
  simp only at h
  grind (splits := 40)
theorem isUn_op {op p to off : Int} (h : Vb.isUn op p to off = true) : 1 ≤ op ∧ op ≤ 13 := by
  unfold Vb.isUn at h
  simp only at h
  grind (splits := 40)
theorem sec_ty {op ty off : Int} (h : Vb.second op ty off ≠ 0) : 1 ≤ op ∧ op ≤ 30 ∧ (1 ≤ op ∧ op ≤ 7 ∨ 11 ≤ op ∧ op ≤ 13 ∨ 16 ≤ op ∧ op ≤ 19 → ty = 32) ∧ (20 ≤ op → ty = 128) := by
  unfold Vb.second at h
  simp only at h
  grind (splits := 40)
theorem is32_word {a : V} (h : Vb.is 32 a = true) : a = V.word a.a := word_of_small h (by decide)
theorem each32_is {f : BitVec 32 → BitVec 32 → BitVec 32 → BitVec 32 → BitVec 32} (hf : LaneZ f) {x a y b : V} (ha : Vb.is 32 a = true) (hb : Vb.is 32 b = true) : Vb.is 32 (Vb.each 32 x a y b f) = true := by
  have e1 := is32_word ha
  have e2 := is32_word hb
  have k : Vb.each 32 x a y b f = V.word (f x.a a.a y.a b.a) := by
    rw [each_32, e1, e2]
    exact ext4 rfl (hf _ _) (hf _ _) (hf _ _)
  rw [k]
  exact is_32 _
def muxV (c x y : V) : V := if c.a = 1#32 then x else y
end Go.Proofs.YtboknfppecgjmaaGreat
namespace Go.Proofs.YtboknfppecgjmaaGreat
set_option linter.unusedVariables false
set_option linter.unusedSimpArgs false
def fw (x a p : BitVec 32) : BitVec 32 := (x &&& ~~~a) ||| (p &&& a)
theorem fw_bit (x a p : BitVec 32) (i : Nat) (hi : i < 32) : (fw x a p).getLsbD i = if a.getLsbD i = true then p.getLsbD i else x.getLsbD i := by
  unfold fw
  simp only [BitVec.getLsbD_or, BitVec.getLsbD_and, BitVec.getLsbD_not, hi, decide_true, Bool.true_and]
  cases a.getLsbD i <;> simp
theorem all_bit' (i : Nat) (hi : i < 32) : (4294967295#32).getLsbD i = true := by
  show (BitVec.allOnes 32).getLsbD i = true
  rw [BitVec.getLsbD_allOnes]
  simpa using hi
theorem fw_zero (x a : BitVec 32) : fw x a 0#32 = Vb.least x a := by
  apply BitVec.eq_of_getLsbD_eq; intro i hi
  rw [fw_bit _ _ _ i hi]
  simp only [Vb.least, BitVec.getLsbD_and, BitVec.getLsbD_not, hi, decide_true, Bool.true_and]
  cases a.getLsbD i <;> simp
theorem fw_all (x a : BitVec 32) : fw x a 4294967295#32 = Vb.greatest x a := by
  apply BitVec.eq_of_getLsbD_eq; intro i hi
  rw [fw_bit _ _ _ i hi, all_bit' i hi]
  simp only [Vb.greatest, BitVec.getLsbD_or]
  cases a.getLsbD i <;> simp
def bitw (t : Nat) : BitVec 32 := 1#32 <<< t
theorem bitw_bit (t i : Nat) (hi : i < 32) : (bitw t).getLsbD i = decide (i = t) := by
  unfold bitw
  simp only [BitVec.getLsbD_shiftLeft, BitVec.getLsbD_one, hi, decide_true, Bool.true_and]
  by_cases h : i = t
  · subst h; simp
  · have : ¬ i - t = 0 ∨ i < t := by omega
    rcases this with h1 | h1 <;> simp [h, h1]
inductive W2 (x a y b : BitVec 32) : BitVec 32 → BitVec 32 → BitVec 32 → BitVec 32 → Prop
  | flipx (t : Nat) (ht : t < 32) (h : a.getLsbD t = true) : W2 x a y b (fw x a 0#32) (fw y b 0#32) (fw x a (bitw t)) (fw y b 0#32)
  | flipy (t : Nat) (ht : t < 32) (h : b.getLsbD t = true) : W2 x a y b (fw x a 0#32) (fw y b 0#32) (fw x a 0#32) (fw y b (bitw t))
  | low : W2 x a y b (fw x a 0#32) (fw y b 0#32) (fw x a 4294967295#32) (fw y b 4294967295#32)
  | cross : W2 x a y b (fw x a 0#32) (fw y b 4294967295#32) (fw x a 4294967295#32) (fw y b 0#32)
  | eqx (t : Nat) (ht : t < 32) (h : a.getLsbD t = true) : W2 x a y b (fw x a (y ||| b)) (fw y b (x ||| a)) (fw x a ((y ||| b) ^^^ bitw t)) (fw y b (x ||| a))
  | eqy (t : Nat) (ht : t < 32) (h : b.getLsbD t = true) : W2 x a y b (fw x a (y ||| b)) (fw y b (x ||| a)) (fw x a (y ||| b)) (fw y b ((x ||| a) ^^^ bitw t))
theorem carry_ext {x x' y y' : BitVec 32} : ∀ i, i ≤ 32 → (∀ k, k < i → x.getLsbD k = x'.getLsbD k ∧ y.getLsbD k = y'.getLsbD k) → BitVec.carry i x y false = BitVec.carry i x' y' false
  | 0, _, _ => by simp [BitVec.carry_zero]
  | i + 1, hi, h => by
    rw [BitVec.carry_succ, BitVec.carry_succ, carry_ext i (by omega) (fun k hk => h k (by omega)), (h i (by omega)).1, (h i (by omega)).2]
theorem flip_low (x a : BitVec 32) (t k : Nat) (hk : k < t) (ht : t < 32) : (fw x a 0#32).getLsbD k = (fw x a (bitw t)).getLsbD k := by
  rw [fw_bit _ _ _ k (by omega), fw_bit _ _ _ k (by omega), bitw_bit t k (by omega)]
  have : ¬ k = t := by omega
  simp [this]
theorem flip_at (x a : BitVec 32) (t : Nat) (ht : t < 32) (h : a.getLsbD t = true) : (fw x a 0#32).getLsbD t = false ∧ (fw x a (bitw t)).getLsbD t = true := by
  rw [fw_bit _ _ _ t ht, fw_bit _ _ _ t ht, bitw_bit t t ht]
  simp [h]
def LaneExact (f : BitVec 32 → BitVec 32 → BitVec 32) (F : BitVec 32 → BitVec 32 → BitVec 32 → BitVec 32 → BitVec 32) : Prop :=
  ∀ x a y b t, t < 32 → (F x a y b).getLsbD t = true → ∃ x1 y1 x2 y2, W2 x a y b x1 y1 x2 y2 ∧ (f x1 y1).getLsbD t ≠ (f x2 y2).getLsbD t
theorem add_exact : LaneExact Rf.f51 Vb.added := by
  intro x a y b t ht h
  by_cases ha : a.getLsbD t = true
  · refine ⟨_, _, _, _, .flipx t ht ha, ?_⟩
    show (_ + _ : BitVec 32).getLsbD t ≠ (_ + _ : BitVec 32).getLsbD t
    rw [BitVec.getLsbD_add ht, BitVec.getLsbD_add ht, carry_ext t (by omega) (fun k hk => ⟨flip_low x a t k hk ht, rfl⟩), (flip_at x a t ht ha).1, (flip_at x a t ht ha).2]
    generalize (fw y b 0#32).getLsbD t = p
    generalize BitVec.carry t _ _ false = q
    revert p q; decide
  · by_cases hb : b.getLsbD t = true
    · refine ⟨_, _, _, _, .flipy t ht hb, ?_⟩
      show (_ + _ : BitVec 32).getLsbD t ≠ (_ + _ : BitVec 32).getLsbD t
      rw [BitVec.getLsbD_add ht, BitVec.getLsbD_add ht, carry_ext t (by omega) (fun k hk => ⟨rfl, flip_low y b t k hk ht⟩), (flip_at y b t ht hb).1, (flip_at y b t ht hb).2]
      generalize (fw x a 0#32).getLsbD t = p
      generalize BitVec.carry t _ _ false = q
      revert p q; decide
    · refine ⟨_, _, _, _, .low, ?_⟩
      show (_ + _ : BitVec 32).getLsbD t ≠ (_ + _ : BitVec 32).getLsbD t
      unfold Vb.added at h
      rw [BitVec.getLsbD_or, BitVec.getLsbD_or, BitVec.getLsbD_xor] at h
      rw [fw_zero, fw_zero, fw_all, fw_all]
      have e1 : (x &&& ~~~a) + (y &&& ~~~b) = Vb.least x a + Vb.least y b := rfl
      have e2 : (x ||| a) + (y ||| b) = Vb.greatest x a + Vb.greatest y b := rfl
      rw [e1, e2] at h
      simp only [Bool.not_eq_true] at ha hb
      rw [ha, hb] at h
      revert h
      generalize (Vb.least x a + Vb.least y b).getLsbD t = p
      generalize (Vb.greatest x a + Vb.greatest y b).getLsbD t = q
      revert p q; decide
theorem sub_flip_low {x x' y y' : BitVec 32} (t : Nat) (ht : t < 32) (h : ∀ k, k < t → x.getLsbD k = x'.getLsbD k ∧ y.getLsbD k = y'.getLsbD k) (hd : (x.getLsbD t ^^ y.getLsbD t) ≠ (x'.getLsbD t ^^ y'.getLsbD t)) : (x - y).getLsbD t ≠ (x' - y').getLsbD t := by
  rw [sub_not, sub_not x']
  rw [BitVec.getLsbD_not, BitVec.getLsbD_not, BitVec.getLsbD_add ht, BitVec.getLsbD_add ht]
  rw [carry_ext (x := ~~~x) (x' := ~~~x') (y := y) (y' := y') t (by omega) (fun k hk => ⟨by rw [BitVec.getLsbD_not, BitVec.getLsbD_not, (h k hk).1], (h k hk).2⟩)]
  rw [BitVec.getLsbD_not, BitVec.getLsbD_not]
  simp only [ht, decide_true, Bool.true_and]
  revert hd
  generalize x.getLsbD t = p
  generalize y.getLsbD t = q
  generalize x'.getLsbD t = p'
  generalize y'.getLsbD t = q'
  generalize BitVec.carry t _ _ false = c
  revert p q p' q' c; decide
theorem sub_exact : LaneExact Rf.f52 Vb.subtracted := by
  intro x a y b t ht h
  by_cases ha : a.getLsbD t = true
  · refine ⟨_, _, _, _, .flipx t ht ha, ?_⟩
    refine sub_flip_low t ht (fun k hk => ⟨flip_low x a t k hk ht, rfl⟩) ?_
    rw [(flip_at x a t ht ha).1, (flip_at x a t ht ha).2]
    cases (fw y b 0#32).getLsbD t <;> decide
  · by_cases hb : b.getLsbD t = true
    · refine ⟨_, _, _, _, .flipy t ht hb, ?_⟩
      refine sub_flip_low t ht (fun k hk => ⟨rfl, flip_low y b t k hk ht⟩) ?_
      rw [(flip_at y b t ht hb).1, (flip_at y b t ht hb).2]
      cases (fw x a 0#32).getLsbD t <;> decide
    · refine ⟨_, _, _, _, .cross, ?_⟩
      show (_ - _ : BitVec 32).getLsbD t ≠ (_ - _ : BitVec 32).getLsbD t
      unfold Vb.subtracted at h
      rw [BitVec.getLsbD_or, BitVec.getLsbD_or, BitVec.getLsbD_xor] at h
      rw [fw_zero, fw_all, fw_all, fw_zero]
      have e1 : (x &&& ~~~a) - (y ||| b) = Vb.least x a - Vb.greatest y b := rfl
      have e2 : (x ||| a) - (y &&& ~~~b) = Vb.greatest x a - Vb.least y b := rfl
      rw [e1, e2] at h
      simp only [Bool.not_eq_true] at ha hb
      rw [ha, hb] at h
      revert h
      generalize (Vb.least x a - Vb.greatest y b).getLsbD t = p
      generalize (Vb.greatest x a - Vb.least y b).getLsbD t = q
      revert p q; decide
theorem eq_fill {x a y b : BitVec 32} (h : (x ^^^ y) &&& ~~~(a ||| b) = 0#32) : fw x a (y ||| b) = fw y b (x ||| a) := by
  apply BitVec.eq_of_getLsbD_eq; intro i hi
  have h1 := congrArg (fun z => z.getLsbD i) h
  rw [fw_bit _ _ _ i hi, fw_bit _ _ _ i hi]
  simp only [BitVec.getLsbD_and, BitVec.getLsbD_or, BitVec.getLsbD_xor, BitVec.getLsbD_not, hi, decide_true, Bool.true_and, BitVec.getLsbD_zero] at h1 ⊢
  revert h1
  generalize x.getLsbD i = p
  generalize y.getLsbD i = q
  generalize a.getLsbD i = r
  generalize b.getLsbD i = s
  revert p q r s; decide
theorem flip_ne {x a p : BitVec 32} {t : Nat} (ht : t < 32) (h : a.getLsbD t = true) : fw x a p ≠ fw x a (p ^^^ bitw t) := by
  intro he
  have h1 := congrArg (fun z => z.getLsbD t) he
  simp only [fw_bit _ _ _ t ht, h, if_true, BitVec.getLsbD_xor, bitw_bit t t ht] at h1
  revert h1
  cases p.getLsbD t <;> simp
theorem some_bit {z : BitVec 32} (h : z ≠ 0#32) : ∃ t, t < 32 ∧ z.getLsbD t = true := by
  apply Classical.byContradiction
  intro hn
  apply h
  apply BitVec.eq_of_getLsbD_eq; intro i hi
  cases hz : z.getLsbD i
  · simp
  · exact absurd ⟨i, hi, hz⟩ hn
theorem equal_on {x a y b : BitVec 32} {t : Nat} (h : (Vb.equal x a y b).getLsbD t = true) : (x ^^^ y) &&& ~~~(a ||| b) = 0#32 ∧ a ||| b ≠ 0#32 := by
  unfold Vb.equal Vb.some at h
  split at h
  · rename_i h1
    split at h
    · simp at h
    · rename_i h2; exact ⟨h1, h2⟩
  · simp at h
theorem eq_exact : LaneExact Rf.f53 Vb.equal := by
  intro x a y b t ht h
  obtain ⟨h1, h2⟩ := equal_on h
  have he := eq_fill h1
  obtain ⟨u, hu, hb⟩ := some_bit h2
  rw [BitVec.getLsbD_or, Bool.or_eq_true] at hb
  have val : ∀ p q : BitVec 32, (p = q → (Rf.f53 p q).getLsbD t = true) ∧ (p ≠ q → (Rf.f53 p q).getLsbD t = false) := by
    intro p q
    unfold Rf.f53 Rf.eq7
    constructor
    · intro hpq; rw [if_pos hpq]; exact all_bit' t ht
    · intro hpq; rw [if_neg hpq]; simp
  rcases hb with hb | hb
  · refine ⟨_, _, _, _, .eqx u hu hb, ?_⟩
    rw [(val _ _).1 he, (val _ _).2 (fun e => flip_ne hu hb (he.trans e.symm))]
    decide
  · refine ⟨_, _, _, _, .eqy u hu hb, ?_⟩
    rw [(val _ _).1 he, (val _ _).2 (fun e => flip_ne hu hb (he.symm.trans e))]
    decide
end Go.Proofs.YtboknfppecgjmaaGreat
namespace Go.Proofs.YtboknfppecgjmaaGreat
set_option linter.unusedVariables false
set_option linter.unusedSimpArgs false
def V.fw (x a p : V) : V := ⟨Go.Proofs.YtboknfppecgjmaaGreat.fw x.a a.a p.a, Go.Proofs.YtboknfppecgjmaaGreat.fw x.b a.b p.b, Go.Proofs.YtboknfppecgjmaaGreat.fw x.c a.c p.c, Go.Proofs.YtboknfppecgjmaaGreat.fw x.d a.d p.d⟩
theorem fw_get (x a p : V) (j : Nat) : (V.fw x a p).get j = fw (x.get j) (a.get j) (p.get j) := by
  unfold V.get
  repeat' split
  all_goals rfl
theorem fill_fw {ty : Int} {x a p : V} (hx : Vb.is ty x = true) (ha : Vb.is ty a = true) : Vb.fill ty x a p = V.fw x a p := by
  obtain ⟨_, h1, h2, h3, h4⟩ := is_parts hx
  obtain ⟨_, g1, g2, g3, g4⟩ := is_parts ha
  have w : ∀ x a p o : BitVec 32, x &&& ~~~o = 0#32 → a &&& ~~~o = 0#32 → ((x &&& ~~~a) ||| (p &&& a)) &&& o = fw x a p := by
    intro x a p o hx ha
    apply BitVec.eq_of_getLsbD_eq; intro i hi
    have k1 := congrArg (fun z => z.getLsbD i) hx
    have k2 := congrArg (fun z => z.getLsbD i) ha
    unfold fw
    simp only [BitVec.getLsbD_and, BitVec.getLsbD_or, BitVec.getLsbD_not, hi, decide_true, Bool.true_and, BitVec.getLsbD_zero] at k1 k2 ⊢
    revert k1 k2
    generalize x.getLsbD i = q
    generalize a.getLsbD i = r
    generalize p.getLsbD i = s
    generalize o.getLsbD i = t
    revert q r s t; decide
  exact ext4 (w _ _ _ _ h1 g1) (w _ _ _ _ h2 g2) (w _ _ _ _ h3 g3) (w _ _ _ _ h4 g4)
def V.bit (i : Nat) : V := V.zero.set (i / 32) (bitw (i % 32))
theorem bit_get (i j : Nat) (hi : i < 128) (hj : j < 4) : (V.bit i).get j = if j = i / 32 then bitw (i % 32) else 0#32 := by
  unfold V.bit
  rw [set_get _ _ _ _ (by omega) hj, get_z]
def V.top : V := ⟨2147483648#32, 2147483648#32, 2147483648#32, 2147483648#32⟩
def bases : List V := [V.zero, V.all, V.top, V.all.xor V.top]
def rawPairs (x a y b : V) : List (V × V) := (bases.flatMap fun p => bases.map fun r => (p, r)) ++ [(y, x), (y.or b, x.or a), (y.and (V.all.xor b), x.and (V.all.xor a))]
inductive Raw (x a y b : V) : V → V → Prop
  | base (p r : V) (h : (p, r) ∈ rawPairs x a y b) : Raw x a y b p r
  | flipx (p r : V) (h : (p, r) ∈ rawPairs x a y b) (i : Nat) (hi : i < 128) (hb : (a.get (i / 32)).getLsbD (i % 32) = true) : Raw x a y b (p.xor (V.bit i)) r
  | flipy (p r : V) (h : (p, r) ∈ rawPairs x a y b) (i : Nat) (hi : i < 128) (hb : (b.get (i / 32)).getLsbD (i % 32) = true) : Raw x a y b p (r.xor (V.bit i))
theorem raw_zz (x a y b : V) : (V.zero, V.zero) ∈ rawPairs x a y b := by simp [rawPairs, bases]
theorem raw_aa (x a y b : V) : (V.all, V.all) ∈ rawPairs x a y b := by simp [rawPairs, bases]
theorem raw_za (x a y b : V) : (V.zero, V.all) ∈ rawPairs x a y b := by simp [rawPairs, bases]
theorem raw_az (x a y b : V) : (V.all, V.zero) ∈ rawPairs x a y b := by simp [rawPairs, bases]
theorem raw_tn (x a y b : V) : (V.top, V.all.xor V.top) ∈ rawPairs x a y b := by simp [rawPairs, bases]
theorem raw_nt (x a y b : V) : (V.all.xor V.top, V.top) ∈ rawPairs x a y b := by simp [rawPairs, bases]
theorem raw_eq (x a y b : V) : (y.or b, x.or a) ∈ rawPairs x a y b := by simp [rawPairs]
theorem xor_get (x y : V) (j : Nat) : (x.xor y).get j = x.get j ^^^ y.get j := by
  unfold V.get
  repeat' split
  all_goals rfl
theorem or_get (x y : V) (j : Nat) : (x.or y).get j = x.get j ||| y.get j := by
  unfold V.get
  repeat' split
  all_goals rfl
theorem all_get (j : Nat) : V.all.get j = 4294967295#32 := by
  unfold V.get
  repeat' split
  all_goals rfl
theorem zero_xor_bit (i j : Nat) : (V.zero.xor (V.bit i)).get j = (V.bit i).get j := by rw [xor_get, get_z, BitVec.zero_xor]
/-! ### lanes of fillings -/
theorem L_bit {s : Nat} (hs : Wide s) (x : BitVec 32) (k i : Nat) (hi : i < 32) : (L x s k).getLsbD i = (x.getLsbD (s * k + i) && decide (i < s)) := by
  unfold L
  rw [BitVec.getLsbD_and, BitVec.getLsbD_ushiftRight, mk_bit hs]
theorem L_fw {s : Nat} (hs : Wide s) (x a p : BitVec 32) (k : Nat) (hk : s * k + s ≤ 32) : L (fw x a p) s k = fw (L x s k) (L a s k) (L p s k) := by
  apply BitVec.eq_of_getLsbD_eq; intro i hi
  rw [fw_bit _ _ _ i hi, L_bit hs _ k i hi, L_bit hs _ k i hi, L_bit hs _ k i hi, L_bit hs _ k i hi]
  by_cases h : i < s
  · rw [fw_bit _ _ _ _ (by omega)]
    simp only [h, decide_true, Bool.and_true]
  · simp [h]
theorem L_or {s : Nat} (hs : Wide s) (x y : BitVec 32) (k : Nat) : L (x ||| y) s k = L x s k ||| L y s k := by
  apply BitVec.eq_of_getLsbD_eq; intro i hi
  rw [BitVec.getLsbD_or, L_bit hs _ k i hi, L_bit hs _ k i hi, L_bit hs _ k i hi, BitVec.getLsbD_or, Bool.and_or_distrib_right]
theorem L_xor {s : Nat} (hs : Wide s) (x y : BitVec 32) (k : Nat) : L (x ^^^ y) s k = L x s k ^^^ L y s k := by
  apply BitVec.eq_of_getLsbD_eq; intro i hi
  rw [BitVec.getLsbD_xor, L_bit hs _ k i hi, L_bit hs _ k i hi, L_bit hs _ k i hi, BitVec.getLsbD_xor]
  cases decide (i < s) <;> simp
theorem L_bitw {s : Nat} (hs : Wide s) (k t : Nat) (hk : s * k + s ≤ 32) (ht : t < s) : L (bitw (s * k + t)) s k = bitw t := by
  apply BitVec.eq_of_getLsbD_eq; intro i hi
  have h32 : s ≤ 32 := by omega
  rw [L_bit hs _ k i hi, bitw_bit t i hi]
  by_cases h : i < s
  · rw [bitw_bit _ _ (by omega)]
    simp only [h, decide_true, Bool.and_true]
    exact decide_eq_decide.2 (by omega)
  · have : ¬ i = t := by omega
    simp [h, this]
theorem fw_ext {x a p q : BitVec 32} (h : ∀ i, i < 32 → a.getLsbD i = true → p.getLsbD i = q.getLsbD i) : fw x a p = fw x a q := by
  apply BitVec.eq_of_getLsbD_eq; intro i hi
  rw [fw_bit _ _ _ i hi, fw_bit _ _ _ i hi]
  by_cases ha : a.getLsbD i = true
  · rw [if_pos ha, if_pos ha, h i hi ha]
  · rw [if_neg ha, if_neg ha]
theorem L_all {s : Nat} (hs : Wide s) (x a : BitVec 32) (k : Nat) (hk : s * k + s ≤ 32) : fw (L x s k) (L a s k) (L 4294967295#32 s k) = fw (L x s k) (L a s k) 4294967295#32 := by
  apply fw_ext
  intro i hi ha
  rw [L_bit hs _ k i hi] at ha
  simp only [Bool.and_eq_true, decide_eq_true_eq] at ha
  rw [L_bit hs _ k i hi, all_bit' _ (by omega), all_bit' i hi]
  simp [ha.2]
theorem L_undef {s : Nat} (hs : Wide s) {a : BitVec 32} {k t : Nat} (ht : t < 32) (h : (L a s k).getLsbD t = true) : t < s ∧ a.getLsbD (s * k + t) = true := by
  rw [L_bit hs _ k t ht] at h
  simp only [Bool.and_eq_true, decide_eq_true_eq] at h
  exact ⟨h.2, h.1⟩
theorem lane_raw {s : Nat} (hs : Wide s) (x a y b : V) (j k : Nat) (hj : j < 4) (hk : s * k + s ≤ 32) {x1 y1 x2 y2 : BitVec 32} (h : W2 (L (x.get j) s k) (L (a.get j) s k) (L (y.get j) s k) (L (b.get j) s k) x1 y1 x2 y2) :
    ∃ p1 r1 p2 r2, Raw x a y b p1 r1 ∧ Raw x a y b p2 r2 ∧ L ((V.fw x a p1).get j) s k = x1 ∧ L ((V.fw y b r1).get j) s k = y1 ∧ L ((V.fw x a p2).get j) s k = x2 ∧ L ((V.fw y b r2).get j) s k = y2 := by
  have hs32 : s ≤ 32 := by omega
  have hpos : 0 < s := by rcases hs with rfl | rfl | rfl <;> omega
  have ix : ∀ t, t < s → (32 * j + (s * k + t)) / 32 = j ∧ (32 * j + (s * k + t)) % 32 = s * k + t ∧ 32 * j + (s * k + t) < 128 := by
    intro t ht
    have : s * k + t < 32 := by omega
    omega
  have vb : ∀ t, t < s → L ((V.bit (32 * j + (s * k + t))).get j) s k = bitw t := by
    intro t ht
    obtain ⟨h1, h2, h3⟩ := ix t ht
    rw [bit_get _ _ h3 hj, if_pos h1.symm, h2, L_bitw hs k t hk ht]
  have lz : L (V.zero.get j) s k = 0#32 := by rw [get_z, L_zero]
  have zb : ∀ t, t < s → L ((V.zero.xor (V.bit (32 * j + (s * k + t)))).get j) s k = bitw t := by
    intro t ht
    rw [zero_xor_bit, vb t ht]
  have la : L (V.all.get j) s k = L 4294967295#32 s k := by rw [all_get]
  have pull : ∀ (x a p : V), L ((V.fw x a p).get j) s k = fw (L (x.get j) s k) (L (a.get j) s k) (L (p.get j) s k) := by
    intro x a p
    rw [fw_get, L_fw hs _ _ _ k hk]
  cases h with
  | flipx t ht h =>
    obtain ⟨h1, h2⟩ := L_undef hs ht h
    obtain ⟨g1, g2, g3⟩ := ix t h1
    exact ⟨_, _, _, _, .base _ _ (raw_zz x a y b), .flipx _ _ (raw_zz x a y b) _ g3 (by rw [g1, g2]; exact h2), by rw [pull, lz], by rw [pull, lz], by rw [pull, zb t h1], by rw [pull, lz]⟩
  | flipy t ht h =>
    obtain ⟨h1, h2⟩ := L_undef hs ht h
    obtain ⟨g1, g2, g3⟩ := ix t h1
    exact ⟨_, _, _, _, .base _ _ (raw_zz x a y b), .flipy _ _ (raw_zz x a y b) _ g3 (by rw [g1, g2]; exact h2), by rw [pull, lz], by rw [pull, lz], by rw [pull, lz], by rw [pull, zb t h1]⟩
  | low => exact ⟨_, _, _, _, .base _ _ (raw_zz x a y b), .base _ _ (raw_aa x a y b), by rw [pull, lz], by rw [pull, lz], by rw [pull, la, L_all hs _ _ k hk], by rw [pull, la, L_all hs _ _ k hk]⟩
  | cross => exact ⟨_, _, _, _, .base _ _ (raw_za x a y b), .base _ _ (raw_az x a y b), by rw [pull, lz], by rw [pull, la, L_all hs _ _ k hk], by rw [pull, la, L_all hs _ _ k hk], by rw [pull, lz]⟩
  | eqx t ht h =>
    obtain ⟨h1, h2⟩ := L_undef hs ht h
    obtain ⟨g1, g2, g3⟩ := ix t h1
    exact ⟨_, _, _, _, .base _ _ (raw_eq x a y b), .flipx _ _ (raw_eq x a y b) _ g3 (by rw [g1, g2]; exact h2), by rw [pull, or_get, L_or hs], by rw [pull, or_get, L_or hs], by rw [pull, xor_get, L_xor hs, vb t h1, or_get, L_or hs], by rw [pull, or_get, L_or hs]⟩
  | eqy t ht h =>
    obtain ⟨h1, h2⟩ := L_undef hs ht h
    obtain ⟨g1, g2, g3⟩ := ix t h1
    exact ⟨_, _, _, _, .base _ _ (raw_eq x a y b), .flipy _ _ (raw_eq x a y b) _ g3 (by rw [g1, g2]; exact h2), by rw [pull, or_get, L_or hs], by rw [pull, or_get, L_or hs], by rw [pull, or_get, L_or hs], by rw [pull, xor_get, L_xor hs, vb t h1, or_get, L_or hs]⟩
end Go.Proofs.YtboknfppecgjmaaGreat
namespace Go.Proofs.YtboknfppecgjmaaGreat
set_option linter.unusedVariables false
set_option linter.unusedSimpArgs false
def Differs (f : V → V → V) (x a y b : V) (j t : Nat) : Prop := ∃ p1 r1 p2 r2, Raw x a y b p1 r1 ∧ Raw x a y b p2 r2 ∧ ((f (V.fw x a p1) (V.fw y b r1)).get j).getLsbD t ≠ ((f (V.fw x a p2) (V.fw y b r2)).get j).getLsbD t
theorem bit_at (j' t' : Nat) (hj : j' < 4) (ht : t' < 32) : (32 * j' + t') / 32 = j' ∧ (32 * j' + t') % 32 = t' ∧ 32 * j' + t' < 128 := by omega
theorem flipped (x a : V) {j' t' : Nat} (hj : j' < 4) (ht : t' < 32) (h : (a.get j').getLsbD t' = true) :
    ((V.fw x a V.zero).get j').getLsbD t' = false ∧ ((V.fw x a (V.zero.xor (V.bit (32 * j' + t')))).get j').getLsbD t' = true := by
  obtain ⟨h1, h2, h3⟩ := bit_at j' t' hj ht
  rw [fw_get, fw_get, zero_xor_bit, bit_get _ _ h3 hj, if_pos h1.symm, h2, get_z]
  exact flip_at _ _ t' ht h
theorem flip_x {f : V → V → V} {x a y b : V} {j t : Nat} (j' t' : Nat) (g : Bool → Bool) (hj : j' < 4) (ht : t' < 32) (h : (a.get j').getLsbD t' = true)
    (hf : ∀ p, Raw x a y b p V.zero → ((f (V.fw x a p) (V.fw y b V.zero)).get j).getLsbD t = g (((V.fw x a p).get j').getLsbD t')) (hg : g false ≠ g true) : Differs f x a y b j t := by
  obtain ⟨h1, h2, h3⟩ := bit_at j' t' hj ht
  obtain ⟨e1, e2⟩ := flipped x a hj ht h
  have r1 : Raw x a y b V.zero V.zero := .base _ _ (raw_zz x a y b)
  have r2 : Raw x a y b (V.zero.xor (V.bit (32 * j' + t'))) V.zero := .flipx _ _ (raw_zz x a y b) _ h3 (by rw [h1, h2]; exact h)
  refine ⟨_, _, _, _, r1, r2, ?_⟩
  rw [hf _ r1, hf _ r2, e1, e2]
  exact hg
theorem flip_y {f : V → V → V} {x a y b : V} {j t : Nat} (j' t' : Nat) (g : Bool → Bool) (hj : j' < 4) (ht : t' < 32) (h : (b.get j').getLsbD t' = true)
    (hf : ∀ r, ((f (V.fw x a V.zero) (V.fw y b r)).get j).getLsbD t = g (((V.fw y b r).get j').getLsbD t')) (hg : g false ≠ g true) : Differs f x a y b j t := by
  obtain ⟨h1, h2, h3⟩ := bit_at j' t' hj ht
  obtain ⟨e1, e2⟩ := flipped y b hj ht h
  have r1 : Raw x a y b V.zero V.zero := .base _ _ (raw_zz x a y b)
  have r2 : Raw x a y b V.zero (V.zero.xor (V.bit (32 * j' + t'))) := .flipy _ _ (raw_zz x a y b) _ h3 (by rw [h1, h2]; exact h)
  refine ⟨_, _, _, _, r1, r2, ?_⟩
  rw [hf _, hf _, e1, e2]
  exact hg
theorem sev_exact {f : BitVec 32 → BitVec 32 → BitVec 32} {F : BitVec 32 → BitVec 32 → BitVec 32 → BitVec 32 → BitVec 32} (hf : LaneExact f F) {s : Nat} (hs : Wide s) {x a y b : V} {j t : Nat} (hj : j < 4) (ht : t < 32)
    (h : ((Vb.each s x a y b F).get j).getLsbD t = true) : Differs (Rf.sev f s (mk s) (32 / s)) x a y b j t := by
  rw [each_bit hs F x a y b j t hj ht] at h
  obtain ⟨x1, y1, x2, y2, hw, hne⟩ := hf _ _ _ _ _ (by have := Nat.mod_lt t (show 0 < s by rcases hs with rfl | rfl | rfl <;> omega); rcases hs with rfl | rfl | rfl <;> omega) h
  obtain ⟨p1, r1, p2, r2, h1, h2, e1, e2, e3, e4⟩ := lane_raw hs x a y b j (t / s) hj (by rcases hs with rfl | rfl | rfl <;> omega) hw
  refine ⟨p1, r1, p2, r2, h1, h2, ?_⟩
  rw [sev_bit f hs _ _ j t hj ht, sev_bit f hs _ _ j t hj ht, e1, e2, e3, e4]
  exact hne
theorem and_get (x y : V) (j : Nat) : (x.and y).get j = x.get j &&& y.get j := by
  unfold V.get
  repeat' split
  all_goals rfl
theorem neg_get (x : V) (j : Nat) : (V.neg x).get j = ~~~(x.get j) := by
  unfold V.get
  repeat' split
  all_goals rfl
theorem word_get (w : BitVec 32) (j : Nat) : (V.word w).get j = if j = 0 then w else 0#32 := by
  unfold V.get
  by_cases h : j = 0
  · rw [if_pos h, if_pos h]; rfl
  · rw [if_neg h, if_neg h]
    repeat' split
    all_goals rfl
theorem in_ones {ty : Int} {a : V} (h : Vb.is ty a = true) {j t : Nat} (hj : j < 4) (ht : t < 32) (hb : (a.get j).getLsbD t = true) : ((Vb.ones ty).get j).getLsbD t = true := by
  have e := is_and_self h
  rw [← e, and_get, BitVec.getLsbD_and, Bool.and_eq_true] at hb
  exact hb.2
theorem word_on {w : BitVec 32} {j t : Nat} (h : ((V.word w).get j).getLsbD t = true) : j = 0 ∧ w.getLsbD t = true := by
  rw [word_get] at h
  by_cases hj : j = 0
  · rw [if_pos hj] at h; exact ⟨hj, h⟩
  · rw [if_neg hj] at h; simp at h
theorem one_on {c : Bool} {j t : Nat} (ht : t < 32) (h : ((Vb.one c).get j).getLsbD t = true) : j = 0 ∧ t = 0 ∧ c = true := by
  cases c
  · have : Vb.one false = V.zero := rfl
    rw [this, get_z] at h
    simp at h
  · obtain ⟨h1, h2⟩ := word_on h
    refine ⟨h1, ?_, rfl⟩
    have : (1#32).getLsbD t = decide (t = 0) := by rw [BitVec.getLsbD_one]; simp
    rw [this] at h2
    simpa using h2
theorem one_bit0 (c : Bool) : ((Vb.one c).get 0).getLsbD 0 = c := by cases c <;> rfl
theorem fw_z (x a : V) : V.fw x a V.zero = x.without a := ext4 (fw_zero _ _) (fw_zero _ _) (fw_zero _ _) (fw_zero _ _)
theorem fw_a (x a : V) : V.fw x a V.all = x.or a := ext4 (fw_all _ _) (fw_all _ _) (fw_all _ _) (fw_all _ _)
theorem low_high {f : V → V → V} {x a y b : V} {j t : Nat} (h : ((f (x.without a) (V.fw y b V.zero)).get j).getLsbD t ≠ ((f (x.or a) (V.fw y b V.all)).get j).getLsbD t) : Differs f x a y b j t := by
  refine ⟨_, _, _, _, .base _ _ (raw_zz x a y b), .base _ _ (raw_aa x a y b), ?_⟩
  rw [fw_z, fw_a]
  exact h
theorem ornz {x a : V} (h : a.isZero = false) : ¬ x.or a = V.zero := by
  intro he
  have := orv_zero (a := x) (b := a) (by rw [he]; decide)
  rw [this.2] at h
  exact absurd h (by decide)
theorem lanes_exact {s : Nat} (hs : Wide s) (x a y b : V) {j t : Nat} (hj : j < 4) (ht : t < 32) (h : ((Vb.each s x a V.zero V.zero Vb.unLane).get j).getLsbD t = true) :
    Differs (fun z _ => V.neg (Rf.sev Rf.f53 s (mk s) (32 / s) z V.zero)) x a y b j t := by
  have hk : s * (t / s) + s ≤ 32 := by rcases hs with rfl | rfl | rfl <;> omega
  have hlt : t % s < 32 := by have := Nat.mod_lt t (show 0 < s by rcases hs with rfl | rfl | rfl <;> omega); rcases hs with rfl | rfl | rfl <;> omega
  rw [each_un s hs, each_bit hs _ _ _ _ _ j t hj ht] at h
  simp only [get_z, L_zero] at h
  obtain ⟨e1, e2⟩ := equal_on h
  simp only [BitVec.xor_zero, BitVec.or_zero] at e1 e2
  refine low_high ?_
  have val : ∀ z : V, ((V.neg (Rf.sev Rf.f53 s (mk s) (32 / s) z V.zero)).get j).getLsbD t = !decide (L (z.get j) s (t / s) = 0#32) := by
    intro z
    rw [neg_get, BitVec.getLsbD_not, sev_bit Rf.f53 hs _ _ j t hj ht, get_z, L_zero]
    simp only [ht, decide_true, Bool.true_and]
    unfold Rf.f53 Rf.eq7
    by_cases hz : L (z.get j) s (t / s) = 0#32
    · rw [if_pos hz, decide_eq_true hz, all_bit' _ hlt]
    · rw [if_neg hz, decide_eq_false hz]; simp
  show ((V.neg (Rf.sev Rf.f53 s (mk s) (32 / s) (x.without a) V.zero)).get j).getLsbD t ≠ ((V.neg (Rf.sev Rf.f53 s (mk s) (32 / s) (x.or a) V.zero)).get j).getLsbD t
  rw [val, val, ← fw_z, ← fw_a, fw_get, fw_get, L_fw hs _ _ _ _ hk, L_fw hs _ _ _ _ hk, get_z, L_zero, all_get, L_all hs _ _ _ hk, fw_zero, fw_all]
  have z1 : Vb.least (L (x.get j) s (t / s)) (L (a.get j) s (t / s)) = 0#32 := e1
  have z2 : ¬ Vb.greatest (L (x.get j) s (t / s)) (L (a.get j) s (t / s)) = 0#32 := fun he => e2 (or_zero _ _ he).2
  rw [decide_eq_true z1, decide_eq_false z2]
  decide
theorem exact_un {op p to off : Int} {x a : V} (y b : V) (hU : Vb.isUn op p to off = true) (hx : Vb.is p x = true) (ha : Vb.is p a = true) {j t : Nat} (hj : j < 4) (ht : t < 32)
    (h : ((Vb.unOp op ⟨x, a, p, to, off⟩).get j).getLsbD t = true) : Differs (fun z _ => Rf.un12 op p to off z) x a y b j t := by
  obtain ⟨h1, h2⟩ := isUn_op hU
  rcases (show op = 1 ∨ op = 2 ∨ op = 3 ∨ op = 4 ∨ op = 5 ∨ op = 6 ∨ op = 7 ∨ op = 8 ∨ op = 9 ∨ op = 10 ∨ op = 11 ∨ op = 12 ∨ op = 13 by omega) with rfl | rfl | rfl | rfl | rfl | rfl | rfl | rfl | rfl | rfl | rfl | rfl | rfl
  · have hp := isUn_same hU
    subst hp
    have h' : (a.get j).getLsbD t = true := h
    have ho := in_ones ha hj ht h'
    refine flip_x j t (fun z => !z) hj ht h' (fun q _ => ?_) (by decide)
    show (((V.neg _).and (Vb.ones p)).get j).getLsbD t = _
    rw [and_get, neg_get, BitVec.getLsbD_and, BitVec.getLsbD_not, ho]
    simp [ht]
  · have h' : ((a.and (Vb.ones to)).get j).getLsbD t = true := h
    rw [and_get, BitVec.getLsbD_and, Bool.and_eq_true] at h'
    refine flip_x j t id hj ht h'.1 (fun q _ => ?_) (by decide)
    show ((V.and _ (Vb.ones to)).get j).getLsbD t = _
    rw [and_get, BitVec.getLsbD_and, h'.2]
    simp
  · obtain ⟨hp, _⟩ := isUn_small hU (.inr rfl)
    have hn : (p = 1 ∧ p.toNat = 1) ∨ (p = 8 ∧ p.toNat = 8) ∨ (p = 16 ∧ p.toNat = 16) := by omega
    have hn' : p.toNat = 1 ∨ p.toNat = 8 ∨ p.toNat = 16 := by omega
    rw [sext_eq ha p.toNat hn] at h
    obtain ⟨rfl, h'⟩ := word_on h
    rw [signed_bit hn' _ t ht] at h'
    have hle : ∀ z : V, Vb.is p z = true → p.toNat ≤ t → z.a.getLsbD t = false := by
      intro z hz hle
      have hz2 := (is_parts hz).2.1
      have := congrArg (fun u => u.getLsbD t) hz2
      simp only [BitVec.getLsbD_and, BitVec.getLsbD_not, ht, decide_true, Bool.true_and, BitVec.getLsbD_zero] at this
      have ho : (Vb.ones p).a.getLsbD t = false := by
        have hk : ∀ k : Nat, k ≤ t → (mk k).getLsbD t = false ∨ True := fun _ _ => .inr trivial
        rcases hn with ⟨hp, hq⟩ | ⟨hp, hq⟩ | ⟨hp, hq⟩
        · subst hp
          show (1#32).getLsbD t = false
          rw [BitVec.getLsbD_one]
          have : ¬ t = 0 := by omega
          simp [this]
        · subst hp
          show (255#32).getLsbD t = false
          have := mk_bit (s := 8) (.inl rfl) t
          rw [show mk 8 = 255#32 by decide] at this
          rw [this]; exact decide_eq_false (by omega)
        · subst hp
          show (65535#32).getLsbD t = false
          have := mk_bit (s := 16) (.inr (.inl rfl)) t
          rw [show mk 16 = 65535#32 by decide] at this
          rw [this]; exact decide_eq_false (by omega)
      rw [ho] at this
      simpa using this
    by_cases hlt : p.toNat ≤ t
    · have hat := hle a ha hlt
      rw [hat] at h'
      simp only [Bool.false_or, Bool.and_eq_true] at h'
      refine flip_x 0 (p.toNat - 1) id (by omega) (by omega) h'.2 (fun q _ => ?_) (by decide)
      show ((V.word (Rf.signed _ p.toNat)).get 0).getLsbD t = _
      rw [word_get, if_pos rfl, signed_bit hn' _ t ht, ← fill_fw hx ha, hle _ (fill_is (is_type hx)) hlt, decide_eq_true hlt]
      rfl
    · rw [decide_eq_false hlt] at h'
      simp only [Bool.false_and, Bool.or_false] at h'
      refine flip_x 0 t id (by omega) ht h' (fun q _ => ?_) (by decide)
      show ((V.word (Rf.signed _ p.toNat)).get 0).getLsbD t = _
      rw [word_get, if_pos rfl, signed_bit hn' _ t ht, decide_eq_false hlt]
      simp only [Bool.false_and, Bool.or_false]
      rfl
  · have h' : ((a.and (Vb.ones to)).get j).getLsbD t = true := h
    rw [and_get, BitVec.getLsbD_and, Bool.and_eq_true] at h'
    refine flip_x j t id hj ht h'.1 (fun q _ => ?_) (by decide)
    show ((V.and _ (Vb.ones to)).get j).getLsbD t = _
    rw [and_get, BitVec.getLsbD_and, h'.2]
    simp
  · obtain ⟨rfl, rfl, hc⟩ := one_on ht h
    simp only [Bool.and_eq_true, Bool.not_eq_true'] at hc
    refine low_high ?_
    show ((Vb.one (!decide (x.without a = V.zero))).get 0).getLsbD 0 ≠ ((Vb.one (!decide (x.or a = V.zero))).get 0).getLsbD 0
    rw [one_bit0, one_bit0, decide_eq_true (isZero_eq hc.2), decide_eq_false (ornz hc.1)]
    decide
  · have hp1 := isUn_fill hU
    subst hp1
    have h' : ((if a.a = 1 then Vb.ones to else V.zero).get j).getLsbD t = true := h
    rcases is_one ha with rfl | rfl
    · rw [if_neg (by decide), get_z] at h'; simp at h'
    · rw [if_pos (show (V.word 1#32).a = 1 from rfl)] at h'
      refine low_high ?_
      have e1 : (x.without (V.word 1#32)).a = 0#32 := by rcases is_one hx with rfl | rfl <;> decide
      have e2 : (x.or (V.word 1#32)).a = 1#32 := by rcases is_one hx with rfl | rfl <;> decide
      show ((if (x.without (V.word 1#32)).a = 1#32 then (V.neg V.zero).and (Vb.ones to) else V.zero).get j).getLsbD t ≠ ((if (x.or (V.word 1#32)).a = 1#32 then (V.neg V.zero).and (Vb.ones to) else V.zero).get j).getLsbD t
      rw [e1, e2, if_neg (by decide), if_pos rfl, get_z, and_get, BitVec.getLsbD_and, h', neg_get, get_z, BitVec.getLsbD_not]
      simp only [BitVec.getLsbD_zero, ht, decide_true, Bool.true_and, Bool.not_false, Bool.and_true]
      decide
  · obtain ⟨rfl, h'⟩ := word_on h
    refine low_high ?_
    show ((V.word (Vb.left (x.without a).a)).get 0).getLsbD t ≠ ((V.word (Vb.left (x.or a).a)).get 0).getLsbD t
    rw [word_get, word_get, if_pos rfl, if_pos rfl]
    simp only [BitVec.getLsbD_and, BitVec.getLsbD_not, Bool.and_eq_true, Bool.not_eq_true'] at h'
    have e1 : (Vb.left (x.without a).a).getLsbD t = false := h'.2.2
    have e2 : (Vb.left (x.or a).a).getLsbD t = true := by
      obtain ⟨k, hk, hb⟩ := (left_bit _ t ht).1 h'.1
      exact (left_bit _ t ht).2 ⟨k, hk, by show (x.a ||| a.a).getLsbD k = true; simp [hb]⟩
    rw [e1, e2]
    decide
  · exact lanes_exact (.inl rfl) x a y b hj ht h
  · exact lanes_exact (.inr (.inl rfl)) x a y b hj ht h
  · exact lanes_exact (.inr (.inr rfl)) x a y b hj ht h
  · have e : ∀ z : V, (⟨z.a, z.a, z.a, z.a⟩ : V).get j = z.a := by
      intro z
      unfold V.get
      repeat' split
      all_goals rfl
    have h' : (a.get 0).getLsbD t = true := by
      have h2 : ((⟨a.a, a.a, a.a, a.a⟩ : V).get j).getLsbD t = true := h
      rw [e] at h2; exact h2
    refine flip_x 0 t id (by omega) ht h' (fun q _ => ?_) (by decide)
    show ((⟨_, _, _, _⟩ : V).get j).getLsbD t = _
    rw [e]; rfl
  · obtain ⟨rfl, h'⟩ := word_on h
    have e : ∀ z : V, z.get (if off.toNat < 4 then off.toNat else 3) = z.get off.toNat := by
      intro z
      by_cases h4 : off.toNat < 4
      · rw [if_pos h4]
      · rw [if_neg h4]
        unfold V.get
        rw [if_neg (by omega), if_neg (by omega), if_neg (by omega), if_neg (by omega), if_neg (by omega), if_neg (by omega)]
    rw [← e] at h'
    refine flip_x (if off.toNat < 4 then off.toNat else 3) t id (by split <;> omega) ht h' (fun q _ => ?_) (by decide)
    show ((V.word (V.get _ off.toNat)).get 0).getLsbD t = _
    rw [word_get, if_pos rfl, ← e]; rfl
  · obtain ⟨rfl, h'⟩ := word_on h
    rw [maskTo_bit a t 16 (by omega) ht, Bool.and_eq_true, decide_eq_true_eq] at h'
    refine flip_x (t / 4) (8 * (t % 4) + 7) id (by omega) (by omega) h'.2 (fun q _ => ?_) (by decide)
    show ((V.word (Rf.mseven _ 16)).get 0).getLsbD t = _
    rw [word_get, if_pos rfl, mseven_bit _ t 16 (by omega) ht, decide_eq_true h'.1]
    rfl
end Go.Proofs.YtboknfppecgjmaaGreat
namespace Go.Proofs.YtboknfppecgjmaaGreat
set_option linter.unusedVariables false
set_option linter.unusedSimpArgs false
theorem L_32 (z : BitVec 32) : L z 32 0 = z := by
  unfold L
  show (z >>> (32 * 0)) &&& mk 32 = z
  rw [show mk 32 = 4294967295#32 by decide, Nat.mul_zero, BitVec.ushiftRight_zero]
  exact bv_all z
theorem word32_exact {f : BitVec 32 → BitVec 32 → BitVec 32} {F : BitVec 32 → BitVec 32 → BitVec 32 → BitVec 32 → BitVec 32} (hf : LaneExact f F) (hz : LaneZ F) {x a y b : V} (ha : Vb.is 32 a = true) (hb : Vb.is 32 b = true) {j t : Nat} (hj : j < 4) (ht : t < 32)
    (h : ((Vb.each 32 x a y b F).get j).getLsbD t = true) : Differs (fun z v => V.word (f z.a v.a)) x a y b j t := by
  have hw := is32_word (each32_is hz (x := x) (y := y) ha hb)
  rw [hw] at h
  obtain ⟨rfl, h'⟩ := word_on h
  rw [each_32] at h'
  obtain ⟨x1, y1, x2, y2, hw2, hne⟩ := hf x.a a.a y.a b.a t ht h'
  have e : ∀ z : V, L (z.get 0) 32 0 = z.a := fun z => L_32 _
  have hw3 : W2 (L (x.get 0) 32 0) (L (a.get 0) 32 0) (L (y.get 0) 32 0) (L (b.get 0) 32 0) x1 y1 x2 y2 := by rw [e, e, e, e]; exact hw2
  obtain ⟨p1, r1, p2, r2, g1, g2, e1, e2, e3, e4⟩ := lane_raw (.inr (.inr rfl)) x a y b 0 0 (by omega) (by omega) hw3
  rw [e] at e1 e2 e3 e4
  refine ⟨p1, r1, p2, r2, g1, g2, ?_⟩
  show ((V.word (f (V.fw x a p1).a (V.fw y b r1).a)).get 0).getLsbD t ≠ ((V.word (f (V.fw x a p2).a (V.fw y b r2).a)).get 0).getLsbD t
  rw [word_get, word_get, if_pos rfl, if_pos rfl, e1, e2, e3, e4]
  exact hne
theorem fwz_bit (x a : V) (j t : Nat) (ht : t < 32) : ((V.fw x a V.zero).get j).getLsbD t = (if (a.get j).getLsbD t = true then false else (x.get j).getLsbD t) := by
  rw [fw_get, fw_bit _ _ _ t ht, get_z]; simp
theorem fwa_bit (x a : V) (j t : Nat) (ht : t < 32) : ((V.fw x a V.all).get j).getLsbD t = (if (a.get j).getLsbD t = true then true else (x.get j).getLsbD t) := by
  rw [fw_get, fw_bit _ _ _ t ht, all_get, all_bit' t ht]
theorem and_exact {x a y b : V} {j t : Nat} (hj : j < 4) (ht : t < 32) (h : (((a.and (y.or b)).or (b.and (x.or a))).get j).getLsbD t = true) : Differs V.and x a y b j t := by
  rw [or_get, and_get, and_get, or_get, or_get] at h
  simp only [BitVec.getLsbD_or, BitVec.getLsbD_and, Bool.or_eq_true, Bool.and_eq_true] at h
  rcases h with ⟨h1, h2⟩ | ⟨h1, h2⟩
  · refine ⟨_, _, _, _, .base _ _ (raw_za x a y b), .base _ _ (raw_aa x a y b), ?_⟩
    rw [and_get, and_get, BitVec.getLsbD_and, BitVec.getLsbD_and, fwz_bit _ _ _ _ ht, fwa_bit _ _ _ _ ht, fwa_bit _ _ _ _ ht, if_pos h1, if_pos h1]
    rcases h2 with h2 | h2 <;> simp [h2]
  · refine ⟨_, _, _, _, .base _ _ (raw_az x a y b), .base _ _ (raw_aa x a y b), ?_⟩
    rw [and_get, and_get, BitVec.getLsbD_and, BitVec.getLsbD_and, fwz_bit _ _ _ _ ht, fwa_bit _ _ _ _ ht, fwa_bit _ _ _ _ ht, if_pos h1, if_pos h1]
    rcases h2 with h2 | h2 <;> simp [h2]
theorem without_get (x y : V) (j : Nat) : (x.without y).get j = x.get j &&& ~~~(y.get j) := by
  unfold V.get
  repeat' split
  all_goals rfl
theorem or_exact {o x a y b : V} {j t : Nat} (hj : j < 4) (ht : t < 32) (h : (((a.and ((o.without y).or b)).or (b.and ((o.without x).or a))).get j).getLsbD t = true) : Differs V.or x a y b j t := by
  rw [or_get, and_get, and_get, or_get, or_get, without_get, without_get] at h
  simp only [BitVec.getLsbD_or, BitVec.getLsbD_and, BitVec.getLsbD_not, ht, decide_true, Bool.true_and, Bool.or_eq_true, Bool.and_eq_true, Bool.not_eq_true'] at h
  rcases h with ⟨h1, h2⟩ | ⟨h1, h2⟩
  · refine ⟨_, _, _, _, .base _ _ (raw_zz x a y b), .base _ _ (raw_az x a y b), ?_⟩
    rw [or_get, or_get, BitVec.getLsbD_or, BitVec.getLsbD_or, fwz_bit _ _ _ _ ht, fwa_bit _ _ _ _ ht, fwz_bit _ _ _ _ ht, if_pos h1, if_pos h1]
    rcases h2 with h2 | h2 <;> simp [h2]
  · refine ⟨_, _, _, _, .base _ _ (raw_zz x a y b), .base _ _ (raw_za x a y b), ?_⟩
    rw [or_get, or_get, BitVec.getLsbD_or, BitVec.getLsbD_or, fwz_bit _ _ _ _ ht, fwa_bit _ _ _ _ ht, fwz_bit _ _ _ _ ht, if_pos h1, if_pos h1]
    rcases h2 with h2 | h2 <;> simp [h2]
theorem xor_exact {x a y b : V} {j t : Nat} (hj : j < 4) (ht : t < 32) (h : ((a.or b).get j).getLsbD t = true) : Differs V.xor x a y b j t := by
  rw [or_get, BitVec.getLsbD_or, Bool.or_eq_true] at h
  rcases h with h | h
  · refine flip_x j t (fun z => z ^^ ((V.fw y b V.zero).get j).getLsbD t) hj ht h (fun q _ => ?_) (by cases ((V.fw y b V.zero).get j).getLsbD t <;> decide)
    rw [xor_get, BitVec.getLsbD_xor]
  · refine flip_y j t (fun z => ((V.fw x a V.zero).get j).getLsbD t ^^ z) hj ht h (fun q => ?_) (by cases ((V.fw x a V.zero).get j).getLsbD t <;> decide)
    rw [xor_get, BitVec.getLsbD_xor]
theorem fw_ag (x a p : BitVec 32) : Ag x (fw x a p) a := by
  apply Ag.of; intro i hi
  rw [fw_bit _ _ _ i hi]
  cases a.getLsbD i
  · right; simp
  · left; rfl
theorem fwv_ag (x a p : V) : Agv x (V.fw x a p) a := ⟨fw_ag _ _ _, fw_ag _ _ _, fw_ag _ _ _, fw_ag _ _ _⟩
theorem eqv_fill {x a y b : V} (h : ((x.xor y).without (a.or b)).isZero = true) : V.fw x a (y.or b) = V.fw y b (x.or a) := by
  obtain ⟨h1, h2, h3, h4⟩ := (isZero_iff _).1 h
  exact ext4 (eq_fill h1) (eq_fill h2) (eq_fill h3) (eq_fill h4)
theorem nz_bit {z : V} (h : z.isZero = false) : ∃ j t, j < 4 ∧ t < 32 ∧ (z.get j).getLsbD t = true := by
  apply Classical.byContradiction
  intro hn
  have hz : z = V.zero := by
    apply ext_bits
    intro j hj t ht
    rw [get_z]
    cases hb : (z.get j).getLsbD t
    · simp
    · exact absurd ⟨j, t, hj, ht, hb⟩ hn
  rw [hz] at h
  exact absurd h (by decide)
theorem flipv_ne {x a p : V} {j t : Nat} (hj : j < 4) (ht : t < 32) (h : (a.get j).getLsbD t = true) : V.fw x a p ≠ V.fw x a (p.xor (V.bit (32 * j + t))) := by
  intro he
  obtain ⟨h1, h2, h3⟩ := bit_at j t hj ht
  have := congrArg (fun z => z.get j) he
  simp only [fw_get, xor_get, bit_get _ _ h3 hj, if_pos h1.symm, h2] at this
  exact flip_ne ht h this
theorem same_exact (g : Bool → Bool) (hg : g true ≠ g false) {x a y b : V} {j t : Nat} (ht : t < 32) (h : ((Vb.one (!(a.or b).isZero && ((x.xor y).without (a.or b)).isZero)).get j).getLsbD t = true) :
    Differs (fun z v => Vb.one (g (decide (z = v)))) x a y b j t := by
  obtain ⟨rfl, rfl, hc⟩ := one_on ht h
  simp only [Bool.and_eq_true, Bool.not_eq_true'] at hc
  have he := eqv_fill hc.2
  obtain ⟨j', t', hj', ht', hb⟩ := nz_bit hc.1
  obtain ⟨h1, h2, h3⟩ := bit_at j' t' hj' ht'
  rw [or_get, BitVec.getLsbD_or, Bool.or_eq_true] at hb
  rcases hb with hb | hb
  · refine ⟨_, _, _, _, .base _ _ (raw_eq x a y b), .flipx _ _ (raw_eq x a y b) _ h3 (by rw [h1, h2]; exact hb), ?_⟩
    simp only [one_bit0]
    rw [decide_eq_true he, decide_eq_false (fun e => flipv_ne hj' ht' hb (he.trans e.symm))]
    exact hg
  · refine ⟨_, _, _, _, .base _ _ (raw_eq x a y b), .flipy _ _ (raw_eq x a y b) _ h3 (by rw [h1, h2]; exact hb), ?_⟩
    simp only [one_bit0]
    rw [decide_eq_true he, decide_eq_false (fun e => flipv_ne hj' ht' hb (he.symm.trans e))]
    exact hg
theorem top_fw (x a : BitVec 32) : fw x a 2147483648#32 ^^^ 2147483648#32 = Vb.least (x ^^^ 2147483648#32) a := by
  apply BitVec.eq_of_getLsbD_eq; intro i hi
  rw [BitVec.getLsbD_xor, fw_bit _ _ _ i hi]
  simp only [Vb.least, BitVec.getLsbD_and, BitVec.getLsbD_xor, BitVec.getLsbD_not, hi, decide_true, Bool.true_and]
  generalize (2147483648#32).getLsbD i = p
  generalize x.getLsbD i = q
  generalize a.getLsbD i = r
  revert p q r; decide
theorem ntop_fw (x a : BitVec 32) : fw x a (4294967295#32 ^^^ 2147483648#32) ^^^ 2147483648#32 = Vb.greatest (x ^^^ 2147483648#32) a := by
  apply BitVec.eq_of_getLsbD_eq; intro i hi
  rw [BitVec.getLsbD_xor, fw_bit _ _ _ i hi]
  simp only [Vb.greatest, BitVec.getLsbD_or, BitVec.getLsbD_xor, all_bit' i hi]
  generalize (2147483648#32).getLsbD i = p
  generalize x.getLsbD i = q
  generalize a.getLsbD i = r
  revert p q r; decide
theorem less_exact (op ty off : Int) {x a y b : V} {j t : Nat} (ht : t < 32) (h : ((Vb.Binary.less ⟨op, ty, off, x, a, y, b⟩).get j).getLsbD t = true) : Differs (fun z v => Vb.one (Rf.less12 op z.a v.a)) x a y b j t := by
  obtain ⟨rfl, rfl, hc⟩ := one_on ht h
  simp only [bne_iff_ne] at hc
  unfold Vb.flip at hc
  by_cases hop : op = 17 ∨ op = 19
  · simp only [if_pos hop] at hc
    refine ⟨_, _, _, _, .base _ _ (raw_tn x a y b), .base _ _ (raw_nt x a y b), ?_⟩
    simp only [one_bit0]
    unfold Rf.less12 Vb.flip
    rw [if_pos hop]
    have e1 : (V.fw x a V.top).a ^^^ 2147483648#32 = Vb.least (x.a ^^^ 2147483648#32) a.a := top_fw _ _
    have e2 : (V.fw y b (V.all.xor V.top)).a ^^^ 2147483648#32 = Vb.greatest (y.a ^^^ 2147483648#32) b.a := ntop_fw _ _
    have e3 : (V.fw x a (V.all.xor V.top)).a ^^^ 2147483648#32 = Vb.greatest (x.a ^^^ 2147483648#32) a.a := ntop_fw _ _
    have e4 : (V.fw y b V.top).a ^^^ 2147483648#32 = Vb.least (y.a ^^^ 2147483648#32) b.a := top_fw _ _
    rw [e1, e2, e3, e4]
    exact hc
  · simp only [if_neg hop] at hc
    refine ⟨_, _, _, _, .base _ _ (raw_za x a y b), .base _ _ (raw_az x a y b), ?_⟩
    simp only [one_bit0]
    unfold Rf.less12 Vb.flip
    rw [if_neg hop]
    have z : ∀ u : BitVec 32, u ^^^ 0 = u := fun u => by show u ^^^ 0#32 = u; simp
    simp only [z] at hc ⊢
    have e1 : (V.fw x a V.zero).a = Vb.least x.a a.a := fw_zero _ _
    have e2 : (V.fw y b V.all).a = Vb.greatest y.a b.a := fw_all _ _
    have e3 : (V.fw x a V.all).a = Vb.greatest x.a a.a := fw_all _ _
    have e4 : (V.fw y b V.zero).a = Vb.least y.a b.a := fw_zero _ _
    rw [e1, e2, e3, e4]
    exact hc
end Go.Proofs.YtboknfppecgjmaaGreat
namespace Go.Proofs.YtboknfppecgjmaaGreat
set_option linter.unusedVariables false
set_option linter.unusedSimpArgs false
theorem some_zero' {b : BitVec 32} (h : b &&& 31#32 = 0#32) (u : BitVec 32) : u ||| Vb.some (b &&& 31#32) = u := by rw [h, some_zero, BitVec.or_zero]
theorem shift_exact (g : Nat → BitVec 32 → BitVec 32) (sel : Nat → Nat → Option Nat) (hg : ∀ n t z, t < 32 → n < 32 → (g n z).getLsbD t = match sel n t with | some k => z.getLsbD k | none => false) (hs : ∀ n t k, t < 32 → n < 32 → sel n t = some k → k < 32)
    {x a y b : V} (hb : b.a &&& 31#32 = 0#32) {j t : Nat} (ht : t < 32) (h : ((V.word (g (y.a.toNat % 32) a.a ||| Vb.some (b.a &&& 31#32))).get j).getLsbD t = true) : Differs (fun z v => V.word (g (v.a.toNat % 32) z.a)) x a y b j t := by
  obtain ⟨rfl, h'⟩ := word_on h
  rw [some_zero' hb] at h'
  have hn : y.a.toNat % 32 < 32 := Nat.mod_lt _ (by omega)
  rw [hg _ t _ ht hn] at h'
  have hy : (V.fw y b V.zero).a.toNat % 32 = y.a.toNat % 32 := (shift_ag (fw_ag y.a b.a V.zero.a) hb).symm
  cases hk : sel (y.a.toNat % 32) t with
  | none => rw [hk] at h'; cases h'
  | some k =>
    rw [hk] at h'
    refine flip_x 0 k id (by omega) (hs _ _ _ ht hn hk) h' (fun q _ => ?_) (by decide)
    simp only [word_get, if_pos]
    rw [hy, hg _ t _ ht hn, hk]
    rfl
theorem shufByte_exact {x a y b : V} (hb : ∀ i, i < 16 → (b.get (i / 4)) >>> (8 * (i % 4)) &&& 15#32 = 0#32) {j t : Nat} (hj : j < 4) (ht : t < 32) (h : ((V.gen (Vb.shufWord a y b)).get j).getLsbD t = true) : Differs Rf.shuf7 x a y b j t := by
  rw [gen_get _ j hj, shufWord_bit _ _ _ j t ht] at h
  have hi : 4 * j + t / 8 < 16 := by omega
  have hz : (V.zero.get ((4 * j + t / 8) / 4)) >>> (8 * ((4 * j + t / 8) % 4)) &&& 15 = 0#32 := by rw [get_z]; simp
  have hb0 : (b.get ((4 * j + t / 8) / 4)) >>> (8 * ((4 * j + t / 8) % 4)) &&& 15 = 0#32 := hb _ hi
  have hy : ∀ p, ((V.fw y b p).get ((4 * j + t / 8) / 4)) >>> (8 * ((4 * j + t / 8) % 4)) &&& 15 = (y.get ((4 * j + t / 8) / 4)) >>> (8 * ((4 * j + t / 8) % 4)) &&& 15 := fun p => (nib_ag ((fwv_ag y b p).get _) _ hb0).symm
  unfold Vb.shufByte at h
  simp only [hb0, ne_eq] at h
  rw [if_neg (by decide)] at h
  have hk15 : ((y.get ((4 * j + t / 8) / 4)) >>> (8 * ((4 * j + t / 8) % 4)) &&& 15).toNat < 16 := by
    have : ((y.get ((4 * j + t / 8) / 4)) >>> (8 * ((4 * j + t / 8) % 4)) &&& 15#32).toNat ≤ 15 := by
      rw [BitVec.toNat_and, show (15#32).toNat = 15 from rfl]; exact Nat.and_le_right
    exact Nat.lt_of_le_of_lt this (by omega)
  generalize hk : ((y.get ((4 * j + t / 8) / 4)) >>> (8 * ((4 * j + t / 8) % 4)) &&& 15).toNat = k at *
  have hm : t % 8 < 8 := Nat.mod_lt _ (by omega)
  rw [BitVec.getLsbD_and, BitVec.getLsbD_ushiftRight, Bool.and_eq_true] at h
  have hlt : 8 * (k % 4) + t % 8 < 32 := by omega
  refine flip_x (k / 4) (8 * (k % 4) + t % 8) id (by omega) hlt h.1 (fun q _ => ?_) (by decide)
  unfold Rf.shuf7
  rw [gen_get _ j hj, shufWord_bit _ _ _ j t ht]
  unfold Vb.shufByte
  simp only [hz, hy, hk, ne_eq]
  rw [if_neg (by decide), BitVec.getLsbD_and, BitVec.getLsbD_ushiftRight]
  have e : (255 : BitVec 32).getLsbD (t % 8) = true := ones_mono_all 0#32 _ hm
  rw [e]
  simp
theorem put_exact (k : Nat) (hk : k < 4) {x a y b : V} {j t : Nat} (hj : j < 4) (ht : t < 32) (h : ((a.set k b.a).get j).getLsbD t = true) : Differs (fun z v => z.set k v.a) x a y b j t := by
  rw [set_get _ _ _ _ hk hj] at h
  by_cases hjk : j = k
  · rw [if_pos hjk] at h
    refine flip_y 0 t id (by omega) ht h (fun q => ?_) (by decide)
    rw [set_get _ _ _ _ hk hj, if_pos hjk]
    rfl
  · rw [if_neg hjk] at h
    refine flip_x j t id hj ht h (fun q _ => ?_) (by decide)
    rw [set_get _ _ _ _ hk hj, if_neg hjk]
    rfl
theorem nib_zero {b m : BitVec 32} (k : Nat) (hm : m = 252645135#32) (h : b &&& m = 0#32) (hk : k < 4) : b >>> (8 * k) &&& 15#32 = 0#32 := by
  subst hm
  have e : b >>> (8 * k) &&& 15#32 = (b &&& 252645135#32) >>> (8 * k) &&& 15#32 := by
    have h15 : ∀ i, i < 32 → (15#32).getLsbD i = true → (252645135#32).getLsbD (8 * k + i) = true := by
      intro i hi hb
      have hi4 : i < 4 := by
        apply Classical.byContradiction
        intro hn
        have : (15#32).getLsbD i = false := by
          have h2 : (15#32).toNat < 2 ^ i := Nat.lt_of_lt_of_le (show (15#32).toNat < 2 ^ 4 by decide) (Nat.pow_le_pow_right (by omega) (by omega))
          exact Nat.testBit_lt_two_pow h2
        rw [this] at hb; cases hb
      rcases (show k = 0 ∨ k = 1 ∨ k = 2 ∨ k = 3 by omega) with rfl | rfl | rfl | rfl <;>
        rcases (show i = 0 ∨ i = 1 ∨ i = 2 ∨ i = 3 by omega) with rfl | rfl | rfl | rfl <;> decide
    apply BitVec.eq_of_getLsbD_eq; intro i hi
    rw [BitVec.getLsbD_and, BitVec.getLsbD_and, BitVec.getLsbD_ushiftRight, BitVec.getLsbD_ushiftRight, BitVec.getLsbD_and]
    cases hb : (15#32).getLsbD i
    · simp
    · rw [h15 i hi hb]; simp
  rw [e, h]
  simp
def Rf.exactB (op : Int) (b : V) : Prop := ¬ (op = 3 ∨ op = 4 ∨ op = 5 ∨ op = 6 ∨ op = 7) ∧ (op = 11 ∨ op = 12 ∨ op = 13 → b.a &&& 31#32 = 0#32) ∧ (op = 29 → ∀ j, j < 4 → b.get j &&& 252645135#32 = 0#32)
theorem differs_congr {f g : V → V → V} {x a y b : V} {j t : Nat} (h : ∀ z v, f z v = g z v) (d : Differs g x a y b j t) : Differs f x a y b j t := by
  obtain ⟨p1, r1, p2, r2, h1, h2, h3⟩ := d
  refine ⟨p1, r1, p2, r2, h1, h2, ?_⟩
  rw [h, h]
  exact h3
theorem exact_bin {op ty off : Int} {x a y b : V} (hS : Vb.second op ty off ≠ 0) (ha : Vb.is ty a = true) (hb : op ≠ 30 → Vb.is ty b = true) (hE : Rf.exactB op b) (h30 : op = 30 → 0 ≤ off ∧ off ≤ 3) {j t : Nat} (hj : j < 4) (ht : t < 32)
    (h : ((Vb.binOp ⟨op, ty, off, x, a, y, b⟩).get j).getLsbD t = true) : Differs (Rf.bin12 op off) x a y b j t := by
  obtain ⟨h1, h2, h3, h4⟩ := sec_ty hS
  obtain ⟨e1, e2, e3⟩ := hE
  rcases (show op = 1 ∨ op = 2 ∨ op = 8 ∨ op = 9 ∨ op = 10 ∨ op = 11 ∨ op = 12 ∨ op = 13 ∨ op = 14 ∨ op = 15 ∨ op = 16 ∨ op = 17 ∨ op = 18 ∨ op = 19 ∨ op = 20 ∨ op = 21 ∨ op = 22 ∨ op = 23 ∨ op = 24 ∨ op = 25 ∨ op = 26 ∨ op = 27 ∨ op = 28 ∨ op = 29 ∨ op = 30 by omega) with
    rfl | rfl | rfl | rfl | rfl | rfl | rfl | rfl | rfl | rfl | rfl | rfl | rfl | rfl | rfl | rfl | rfl | rfl | rfl | rfl | rfl | rfl | rfl | rfl | rfl
  · have := h3 (by omega); subst this; exact word32_exact add_exact added_z ha (hb (by decide)) hj ht h
  · have := h3 (by omega); subst this; exact word32_exact sub_exact subtracted_z ha (hb (by decide)) hj ht h
  · exact and_exact hj ht h
  · exact or_exact hj ht h
  · exact xor_exact hj ht h
  · refine shift_exact (fun n z => z <<< n) (fun n t => if t < n then none else some (t - n)) (fun n t z ht hn => ?_) (fun n t k ht hn hk => ?_) (e2 (by simp)) ht h
    · simp only [BitVec.getLsbD_shiftLeft, ht, decide_true, Bool.true_and]
      by_cases hlt : t < n
      · simp [hlt]
      · simp [hlt]
    · split at hk
      · cases hk
      · cases hk; omega
  · refine shift_exact (fun n z => z >>> n) (fun n t => if n + t < 32 then some (n + t) else none) (fun n t z ht hn => ?_) (fun n t k ht hn hk => ?_) (e2 (by simp)) ht h
    · simp only [BitVec.getLsbD_ushiftRight]
      by_cases hlt : n + t < 32
      · rw [if_pos hlt]
      · rw [if_neg hlt, BitVec.getLsbD_of_ge z _ (by omega)]
    · split at hk
      · cases hk; omega
      · cases hk
  · refine shift_exact (fun n z => z.sshiftRight n) (fun n t => if n + t < 32 then some (n + t) else some 31) (fun n t z ht hn => ?_) (fun n t k ht hn hk => ?_) (e2 (by simp)) ht h
    · have h32 : ¬ 32 ≤ t := by omega
      simp only [BitVec.getLsbD_sshiftRight, h32, decide_false, Bool.not_false, Bool.true_and]
      by_cases hlt : n + t < 32
      · rw [if_pos hlt, if_pos hlt]
      · rw [if_neg hlt, if_neg hlt, BitVec.msb_eq_getLsbD_last]
    · split at hk <;> cases hk <;> omega
  · exact same_exact id (by decide) ht h
  · exact same_exact (fun z => !z) (by decide) ht h
  · exact differs_congr (fun z v => by show Vb.one (decide (z.a < v.a)) = _; rw [less12_16]) (less_exact 16 ty off ht h)
  · exact differs_congr (fun z v => by show Vb.one (decide (S z.a < S v.a)) = _; rw [less12_17]) (less_exact 17 ty off ht h)
  · exact differs_congr (fun z v => by show Vb.one (decide (z.a ≤ v.a)) = _; rw [less12_18]) (less_exact 18 ty off ht h)
  · exact differs_congr (fun z v => by show Vb.one (decide (S z.a ≤ S v.a)) = _; rw [less12_19]) (less_exact 19 ty off ht h)
  · exact sev_exact add_exact (.inl rfl) hj ht h
  · exact sev_exact add_exact (.inr (.inl rfl)) hj ht h
  · exact sev_exact add_exact (.inr (.inr rfl)) hj ht h
  · exact sev_exact sub_exact (.inl rfl) hj ht h
  · exact sev_exact sub_exact (.inr (.inl rfl)) hj ht h
  · exact sev_exact sub_exact (.inr (.inr rfl)) hj ht h
  · exact sev_exact eq_exact (.inl rfl) hj ht h
  · exact sev_exact eq_exact (.inr (.inl rfl)) hj ht h
  · exact sev_exact eq_exact (.inr (.inr rfl)) hj ht h
  · refine shufByte_exact (fun i hi => nib_zero (i % 4) rfl (e3 rfl (i / 4) (by omega)) (by omega)) hj ht h
  · obtain ⟨g1, g2⟩ := h30 rfl
    exact put_exact off.toNat (by omega) hj ht h
end Go.Proofs.YtboknfppecgjmaaGreat
namespace Go.Proofs.YtboknfppecgjmaaGreat
set_option linter.unusedVariables false
set_option linter.unusedSimpArgs false
open Go.RowKit Go.Shelf
abbrev ExaC (q : Ask) (b : Bool) : Prop := ∀ w, Calls Tryz.prog 26 #[akv q] w fun e w' => e = .returned (.bool b) ∧ Below w.heap.size w w'
set_option maxRecDepth 100000 in
theorem exact0_c (q : Ask) (hk : (q.kind == 0) = true) : ExaC q true := by
  intro w
  go_enter Tryz.func26, Tryz.ntmps26
  go_wp2_with fail
  go_ret
  exact ⟨rfl, by (repeat (first | exact Below.refl _ _ | refine Below.setCell ?_ (by first | omega | (simp <;> omega)) _ | refine Below.alloc ?_ (by first | omega | (simp <;> omega)) _ | refine Below.drew ?_ | refine Below.trans ?_ (Below.mono (by assumption) (by first | omega | (simp <;> omega)))))⟩
set_option maxRecDepth 100000 in
theorem exact1_c (q : Ask) (b : Bool) (hk0 : (q.kind == 0) = false) (hk : (q.kind == 1) = true) (hk2 : (q.kind == 2) = false) (HE : Hid (∀ w, Calls Tryz.prog 24 #[iv q.op, vv q.b] w fun e w' => e = .returned (.bool b) ∧ Below w.heap.size w w')) : ExaC q b := by
  intro w
  cases b
  all_goals
    go_enter Tryz.func26, Tryz.ntmps26
    go_wp2_with (go_at_call 24; refine (HE.out _ ).mono ?_; rintro e w1 ⟨rfl, hb⟩; obtain ⟨hc, hf⟩ := Flow.bcell hb; have hz := hb.size; (try simp only [World.size_alloc, World.size_setCell, World.size_drew] at hz); obtain z0 := Flow.zs1 (show w.heap.size + 1 ≤ w1.heap.size by omega))
    go_ret
    exact ⟨rfl, by (repeat (first | exact Below.refl _ _ | refine Below.setCell ?_ (by first | omega | (simp <;> omega)) _ | refine Below.alloc ?_ (by first | omega | (simp <;> omega)) _ | refine Below.drew ?_ | refine Below.trans ?_ (Below.mono (by assumption) (by first | omega | (simp <;> omega)))))⟩
set_option maxRecDepth 100000 in
theorem exact2_c (q : Ask) (b : Bool) (hk0 : (q.kind == 0) = false) (hk1 : (q.kind == 1) = false) (hk : (q.kind == 2) = b) : ExaC q b := by
  intro w
  cases b
  all_goals
    go_enter Tryz.func26, Tryz.ntmps26
    go_wp2_with fail
    go_ret
    exact ⟨rfl, by (repeat (first | exact Below.refl _ _ | refine Below.setCell ?_ (by first | omega | (simp <;> omega)) _ | refine Below.alloc ?_ (by first | omega | (simp <;> omega)) _ | refine Below.drew ?_ | refine Below.trans ?_ (Below.mono (by assumption) (by first | omega | (simp <;> omega)))))⟩
end Go.Proofs.YtboknfppecgjmaaGreat
namespace Go.Proofs.YtboknfppecgjmaaGreat
set_option linter.unusedVariables false
set_option linter.unusedSimpArgs false
open Go.RowKit Go.Shelf
def Ask.exa (q : Ask) : Bool := decide (q.kind = 0) || (decide (q.kind = 1) && Vb.exact q.op q.b) || decide (q.kind = 2)
theorem exa_c (q : Ask) : ExaC q q.exa := by
  unfold Ask.exa
  by_cases k0 : q.kind = 0
  · have h := exact0_c q (by simpa using k0)
    simpa [k0] using h
  · by_cases k1 : q.kind = 1
    · have h := exact1_c q (Vb.exact q.op q.b) (by simpa using k0) (by simpa using k1) (by simp [k1]) (Lib.hid fun w => vexact_c q.op q.b w)
      simpa [k0, k1] using h
    · have h := exact2_c q (decide (q.kind = 2)) (by simpa using k0) (by simpa using k1) (by by_cases k2 : q.kind = 2 <;> simp [k2])
      simpa [k0, k1] using h
theorem exa_exactB {op : Int} {b : V} (h : Vb.exact op b = true) : Rf.exactB op b := by
  unfold Vb.exact at h
  split at h
  · cases h
  · rename_i h0
    refine ⟨h0, fun h1 => ?_, fun h2 => ?_⟩
    · rw [if_pos h1] at h
      simpa using h
    · rw [if_neg (by omega), if_pos h2] at h
      obtain ⟨z1, z2, z3, z4⟩ := (isZero_iff _).1 h
      intro j hj
      match j, hj with
      | 0, _ => exact z1
      | 1, _ => exact z2
      | 2, _ => exact z3
      | 3, _ => exact z4
theorem exa_exact {q : Ask} (h : q.exa = true) : q.kind = 0 ∨ (q.kind = 1 ∧ Rf.exactB q.op q.b) ∨ q.kind = 2 := by
  unfold Ask.exa at h
  simp only [Bool.or_eq_true, Bool.and_eq_true, decide_eq_true_eq] at h
  rcases h with (h | ⟨h1, h2⟩) | h
  · exact .inl h
  · exact .inr (.inl ⟨h1, exa_exactB h2⟩)
  · exact .inr (.inr h)
end Go.Proofs.YtboknfppecgjmaaGreat
