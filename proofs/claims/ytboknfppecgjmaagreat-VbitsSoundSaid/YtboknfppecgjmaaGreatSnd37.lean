/- Part 37 of the proof's texts: PlainO, PlainP. -/
import Derived.Test.YtboknfppecgjmaaGreatSnd16
import Derived.Test.YtboknfppecgjmaaGreatSnd33
namespace Go.Proofs.YtboknfppecgjmaaGreat
set_option linter.unusedVariables false
set_option linter.unusedSimpArgs false
theorem mul_low {x x' y y' : BitVec 32} (i : Nat) (hi : i < 32) (hx : ∀ j, j ≤ i → x.getLsbD j = x'.getLsbD j) (hy : ∀ j, j ≤ i → y.getLsbD j = y'.getLsbD j) : (x * y).getLsbD i = (x' * y').getLsbD i := by
  have low : ∀ z z' : BitVec 32, (∀ j, j ≤ i → z.getLsbD j = z'.getLsbD j) → z.toNat % 2 ^ (i + 1) = z'.toNat % 2 ^ (i + 1) := by
    intro z z' h
    apply Nat.eq_of_testBit_eq
    intro j
    rw [Nat.testBit_mod_two_pow, Nat.testBit_mod_two_pow]
    by_cases hj : j < i + 1
    · have := h j (by omega)
      simp only [BitVec.getLsbD] at this
      rw [this]
    · simp [hj]
  have bit : ∀ z w : BitVec 32, (z * w).getLsbD i = ((z.toNat % 2 ^ (i + 1)) * (w.toNat % 2 ^ (i + 1)) % 2 ^ (i + 1)).testBit i := by
    intro z w
    rw [← Nat.mul_mod, Nat.testBit_mod_two_pow]
    simp only [BitVec.getLsbD, BitVec.toNat_mul]
    rw [Nat.testBit_mod_two_pow]
    simp [hi]
  rw [bit, bit, low x x' hx, low y y' hy]
theorem mul_sound {x x' a y y' b : BitVec 32} (hx : Ag x x' a) (hy : Ag y y' b) : Ag (x * y) (x' * y') (Vb.left (a ||| b)) := by
  apply Ag.of; intro i hi
  cases hs : (Vb.left (a ||| b)).getLsbD i
  · right
    have no : ∀ j, j ≤ i → a.getLsbD j = false ∧ b.getLsbD j = false := by
      intro j hj
      cases ha : a.getLsbD j
      · cases hb : b.getLsbD j
        · exact ⟨rfl, rfl⟩
        · have := (left_bit (a ||| b) i hi).2 ⟨j, hj, by simp [hb]⟩
          rw [hs] at this; cases this
      · have := (left_bit (a ||| b) i hi).2 ⟨j, hj, by simp [ha]⟩
        rw [hs] at this; cases this
    refine mul_low i hi (fun j hj => ?_) (fun j hj => ?_)
    · rcases hx.bit j (by omega) with h | h
      · rw [(no j hj).1] at h; cases h
      · exact h
    · rcases hy.bit j (by omega) with h | h
      · rw [(no j hj).2] at h; cases h
      · exact h
  · exact .inl rfl
theorem any_sound (f : BitVec 32 → BitVec 32 → BitVec 32) {x x' a y y' b : BitVec 32} (hx : Ag x x' a) (hy : Ag y y' b) : Ag (f x y) (f x' y') (Vb.some (a ||| b)) := by
  by_cases h : a ||| b = 0#32
  · obtain ⟨rfl, rfl⟩ := or_zero _ _ h
    obtain rfl := hx.eq
    obtain rfl := hy.eq
    rfl
  · rw [some_of h]; exact Ag.all _ _
theorem Ag.shl {x x' a : BitVec 32} (h : Ag x x' a) (n : Nat) : Ag (x <<< n) (x' <<< n) (a <<< n) := by
  apply Ag.of; intro i hi
  simp only [BitVec.getLsbD_shiftLeft, hi, decide_true, Bool.true_and]
  by_cases h1 : i < n
  · right; simp [h1]
  · rcases h.bit (i - n) (by omega) with h | h
    · left; simp [h1, h]
    · right; rw [h]
theorem Ag.shr {x x' a : BitVec 32} (h : Ag x x' a) (n : Nat) : Ag (x >>> n) (x' >>> n) (a >>> n) := by
  apply Ag.of; intro i hi
  simp only [BitVec.getLsbD_ushiftRight]
  by_cases h1 : n + i < 32
  · exact h.bit _ h1
  · right
    rw [BitVec.getLsbD_of_ge x _ (by omega), BitVec.getLsbD_of_ge x' _ (by omega)]
theorem Ag.sar {x x' a : BitVec 32} (h : Ag x x' a) (n : Nat) : Ag (x.sshiftRight n) (x'.sshiftRight n) (a.sshiftRight n) := by
  apply Ag.of; intro i hi
  have h32 : ¬ 32 ≤ i := by omega
  simp only [BitVec.getLsbD_sshiftRight, h32, decide_false, Bool.not_false, Bool.true_and]
  by_cases h1 : n + i < 32
  · simp only [h1, if_true]; exact h.bit _ h1
  · simp only [h1, if_false, BitVec.msb_eq_getLsbD_last]; exact h.bit _ (by omega)
theorem or_all (u z : BitVec 32) (h : z ≠ 0#32) : u ||| Vb.some z = 4294967295#32 := by
  rw [some_of h]
  exact BitVec.or_allOnes
theorem shift_sound (g : Nat → BitVec 32 → BitVec 32) (hg : ∀ n x x' a, Ag x x' a → Ag (g n x) (g n x') (g n a)) {x x' a y y' b : BitVec 32} (hx : Ag x x' a) (hy : Ag y y' b) :
    Ag (g (y.toNat % 32) x) (g (y'.toNat % 32) x') (g (y.toNat % 32) a ||| Vb.some (b &&& 31#32)) := by
  by_cases hb : b &&& 31#32 = 0#32
  · rw [← shift_ag hy hb, hb, some_zero, BitVec.or_zero]
    exact hg _ _ _ _ hx
  · rw [or_all _ _ hb]; exact Ag.all _ _
theorem vand_sound {x x' a y y' b : BitVec 32} (hx : Ag x x' a) (hy : Ag y y' b) : Ag (x &&& y) (x' &&& y') ((a &&& (y ||| b)) ||| (b &&& (x ||| a))) := by
  apply Ag.of; intro i hi
  have h1 := hx.bit i hi
  have h2 := hy.bit i hi
  simp only [BitVec.getLsbD_and, BitVec.getLsbD_or]
  revert h1 h2
  generalize x.getLsbD i = p
  generalize x'.getLsbD i = p'
  generalize a.getLsbD i = r
  generalize y.getLsbD i = q
  generalize y'.getLsbD i = q'
  generalize b.getLsbD i = s
  revert p p' r q q' s
  decide
theorem vor_sound {o x x' a y y' b : BitVec 32} (ha : a &&& ~~~o = 0#32) (hb : b &&& ~~~o = 0#32) (hx : Ag x x' a) (hy : Ag y y' b) : Ag (x ||| y) (x' ||| y') ((a &&& ((o &&& ~~~y) ||| b)) ||| (b &&& ((o &&& ~~~x) ||| a))) := by
  apply Ag.of; intro i hi
  have h1 := hx.bit i hi
  have h2 := hy.bit i hi
  have h3 := congrArg (fun z => z.getLsbD i) ha
  have h4 := congrArg (fun z => z.getLsbD i) hb
  simp only [BitVec.getLsbD_and, BitVec.getLsbD_or, BitVec.getLsbD_not, hi, decide_true, Bool.true_and, BitVec.getLsbD_zero] at h3 h4 ⊢
  revert h1 h2 h3 h4
  generalize x.getLsbD i = p
  generalize x'.getLsbD i = p'
  generalize a.getLsbD i = r
  generalize y.getLsbD i = q
  generalize y'.getLsbD i = q'
  generalize b.getLsbD i = s
  generalize o.getLsbD i = t
  revert p p' r q q' s t
  decide
theorem vxor_sound {x x' a y y' b : BitVec 32} (hx : Ag x x' a) (hy : Ag y y' b) : Ag (x ^^^ y) (x' ^^^ y') (a ||| b) := by
  apply Ag.of; intro i hi
  have h1 := hx.bit i hi
  have h2 := hy.bit i hi
  simp only [BitVec.getLsbD_xor, BitVec.getLsbD_or]
  revert h1 h2
  generalize x.getLsbD i = p
  generalize x'.getLsbD i = p'
  generalize a.getLsbD i = r
  generalize y.getLsbD i = q
  generalize y'.getLsbD i = q'
  generalize b.getLsbD i = s
  revert p p' r q q' s
  decide
theorem eqv_bits {x x' a y y' b : V} (hx : Agv x x' a) (hy : Agv y y' b) : (x.xor y).without (a.or b) = (x'.xor y').without (a.or b) :=
  ext4 (eq_bits hx.fa hy.fa) (eq_bits hx.fb hy.fb) (eq_bits hx.fc hy.fc) (eq_bits hx.fd hy.fd)
theorem eqv_differ {x y a : V} (h : ((x.xor y).without a).isZero = false) : decide (x = y) = false := by
  apply decide_eq_false
  rintro rfl
  have : (x.xor x).without a = V.zero := by simp [V.xor, V.without, V.map2, V.zero]
  rw [this] at h
  exact absurd h (by decide)
theorem orv_zero {a b : V} (h : (a.or b).isZero = true) : a = V.zero ∧ b = V.zero := by
  obtain ⟨h1, h2, h3, h4⟩ := (isZero_iff _).1 h
  exact ⟨ext4 (or_zero _ _ h1).1 (or_zero _ _ h2).1 (or_zero _ _ h3).1 (or_zero _ _ h4).1, ext4 (or_zero _ _ h1).2 (or_zero _ _ h2).2 (or_zero _ _ h3).2 (or_zero _ _ h4).2⟩
theorem same_sound {x x' a y y' b : V} (hx : Agv x x' a) (hy : Agv y y' b) : (!(a.or b).isZero && ((x.xor y).without (a.or b)).isZero) = true ∨ decide (x = y) = decide (x' = y') := by
  cases ha : (a.or b).isZero
  · cases hw : ((x.xor y).without (a.or b)).isZero
    · right
      rw [eqv_differ hw, eqv_differ (by rw [← eqv_bits hx hy]; exact hw)]
    · left; rfl
  · right
    obtain ⟨rfl, rfl⟩ := orv_zero ha
    rw [hx.eq, hy.eq]
theorem in_range {x x' a : BitVec 32} (h : Ag x x' a) : Vb.least x a ≤ x' ∧ x' ≤ Vb.greatest x a := by
  have e1 : Vb.least x a = Vb.least x' a := h
  have e2 : Vb.greatest x a = Vb.greatest x' a := h.or
  rw [e1, e2]
  exact ⟨Sub.le (fun k _ h => by simp only [Vb.least, BitVec.getLsbD_and, Bool.and_eq_true] at h; exact h.1), Sub.le (fun k _ h => by simp only [Vb.greatest, BitVec.getLsbD_or, Bool.or_eq_true]; exact .inl h)⟩
theorem less_sound (op : Int) {x x' a y y' b : BitVec 32} (hx : Ag x x' a) (hy : Ag y y' b) :
    (Vb.lessOp op (Vb.least x a) (Vb.greatest y b) != Vb.lessOp op (Vb.greatest x a) (Vb.least y b)) = true ∨ Vb.lessOp op x y = Vb.lessOp op x' y' := by
  have m : ∀ u v : BitVec 32, Ag x u a → Ag y v b → (Vb.lessOp op (Vb.greatest x a) (Vb.least y b) = true → Vb.lessOp op u v = true) ∧ (Vb.lessOp op u v = true → Vb.lessOp op (Vb.least x a) (Vb.greatest y b) = true) := by
    intro u v hu hv
    have r1 := in_range hu
    have r2 := in_range hv
    exact ⟨lessOp_mono op r1.2 r2.1, lessOp_mono op r1.1 r2.2⟩
  have m1 := m x y (Ag.refl _ _) (Ag.refl _ _)
  have m2 := m x' y' hx hy
  revert m1 m2
  generalize Vb.lessOp op (Vb.least x a) (Vb.greatest y b) = p
  generalize Vb.lessOp op (Vb.greatest x a) (Vb.least y b) = q
  generalize Vb.lessOp op x y = r
  generalize Vb.lessOp op x' y' = s
  revert p q r s
  decide
/-- The four comparisons as one. -/
def Rf.less12 (op : Int) (x y : BitVec 32) : Bool := Vb.lessOp op (x ^^^ Vb.flip op) (y ^^^ Vb.flip op)
theorem less12_16 (x y : BitVec 32) : decide (x < y) = Rf.less12 16 x y := by
  have f : Vb.flip 16 = 0#32 := rfl
  unfold Rf.less12 Vb.lessOp
  rw [f, BitVec.xor_zero, BitVec.xor_zero]; simp
theorem less12_18 (x y : BitVec 32) : decide (x ≤ y) = Rf.less12 18 x y := by
  have f : Vb.flip 18 = 0#32 := rfl
  unfold Rf.less12 Vb.lessOp
  rw [f, BitVec.xor_zero, BitVec.xor_zero, ← lt_or_eq]; simp
theorem less12_17 (x y : BitVec 32) : decide (S x < S y) = Rf.less12 17 x y := by
  have f : Vb.flip 17 = 2147483648#32 := rfl
  rw [slt_flip]
  unfold Rf.less12 Vb.lessOp
  rw [f]; simp
theorem less12_19 (x y : BitVec 32) : decide (S x ≤ S y) = Rf.less12 19 x y := by
  have f : Vb.flip 19 = 2147483648#32 := rfl
  rw [sle_flip]
  unfold Rf.less12 Vb.lessOp
  rw [f, ← lt_or_eq]; simp
theorem less_word (op ty off : Int) {x x' a y y' b : V} (hx : Agv x x' a) (hy : Agv y y' b) : Agv (Vb.one (Rf.less12 op x.a y.a)) (Vb.one (Rf.less12 op x'.a y'.a)) (Vb.Binary.less ⟨op, ty, off, x, a, y, b⟩) :=
  Agv.one (less_sound op (hx.fa.xor _) (hy.fa.xor _))
theorem ones_mono_all (x : BitVec 32) (t : Nat) (h : t < 8) : (255#32).getLsbD t = true := by
  have h8 : Wide 8 := .inl rfl
  have := mk_bit h8 t
  rw [show mk 8 = 255#32 by decide] at this
  rw [this]
  exact decide_eq_true h
theorem gen_get (f : Nat → BitVec 32) (j : Nat) (hj : j < 4) : (V.gen f).get j = f j := by
  rcases (show j = 0 ∨ j = 1 ∨ j = 2 ∨ j = 3 by omega) with rfl | rfl | rfl | rfl <;> rfl
theorem shufByte_sound {x x' a y y' b : V} (hx : Agv x x' a) (hy : Agv y y' b) (i t : Nat) (ht : t < 8) : (Vb.shufByte a y b i).getLsbD t = true ∨ (Vb.shufByte x y V.zero i).getLsbD t = (Vb.shufByte x' y' V.zero i).getLsbD t := by
  by_cases hb : (b.get (i / 4)) >>> (8 * (i % 4)) &&& 15 = 0#32
  · have e : (y.get (i / 4)) >>> (8 * (i % 4)) &&& 15 = (y'.get (i / 4)) >>> (8 * (i % 4)) &&& 15 := nib_ag (hy.get (i / 4)) (8 * (i % 4)) hb
    have hz : (V.zero.get (i / 4)) >>> (8 * (i % 4)) &&& 15 = 0#32 := by rw [get_z]; simp
    unfold Vb.shufByte
    simp only [hb, hz, e, ne_eq]
    generalize (((y'.get (i / 4)) >>> (8 * (i % 4)) &&& 15).toNat) = k
    rw [if_neg (by decide), if_neg (by decide), if_neg (by decide)]
    have h1 := (((hx.get (k / 4)).shr (8 * (k % 4))).and_ones 255#32).bit t (by omega)
    exact h1
  · left
    have hb' : (b.get (i / 4)) >>> (8 * (i % 4)) &&& 15 ≠ 0 := hb
    unfold Vb.shufByte
    simp only [if_pos hb']
    exact ones_mono_all 0#32 t ht
theorem shuf_sound {x x' a y y' b : V} (hx : Agv x x' a) (hy : Agv y y' b) : Agv (Rf.shuf7 x y) (Rf.shuf7 x' y') (V.gen (Vb.shufWord a y b)) := by
  apply Agv.of_bits
  intro j hj t ht
  unfold Rf.shuf7
  rw [gen_get _ j hj, gen_get _ j hj, gen_get _ j hj, shufWord_bit _ _ _ j t ht, shufWord_bit _ _ _ j t ht, shufWord_bit _ _ _ j t ht]
  exact shufByte_sound hx hy _ _ (Nat.mod_lt _ (by omega))
theorem set_sound {x x' a : V} {u u' b : BitVec 32} (k : Nat) (hx : Agv x x' a) (hu : Ag u u' b) : Agv (x.set k u) (x'.set k u') (a.set k b) := by
  unfold V.set
  refine ⟨?_, ?_, ?_, ?_⟩
  all_goals (simp only; split)
  all_goals first | exact hu | exact hx.fa | exact hx.fb | exact hx.fc | exact hx.fd
theorem word32_v {f : BitVec 32 → BitVec 32 → BitVec 32} {F : BitVec 32 → BitVec 32 → BitVec 32 → BitVec 32 → BitVec 32} (hf : LaneSound f F) {x x' a y y' b : V} (hx : Agv x x' a) (hy : Agv y y' b) :
    Agv (V.word (f x.a y.a)) (V.word (f x'.a y'.a)) (Vb.each 32 x a y b F) := by
  rw [each_32]
  exact ⟨hf _ _ _ _ _ _ hx.fa hy.fa, rfl, rfl, rfl⟩
theorem sound_bin (op ty off : Int) {x x' a y y' b : V} (ha : Vb.is ty a = true) (hb : op ≠ 30 → Vb.is ty b = true) (hx : Agv x x' a) (hy : Agv y y' b) :
    Agv (Rf.bin12 op off x y) (Rf.bin12 op off x' y') (Vb.binOp ⟨op, ty, off, x, a, y, b⟩) := by
  by_cases h1 : op = 1
  · subst h1; exact word32_v add_sound hx hy
  by_cases h2 : op = 2
  · subst h2; exact word32_v sub_sound hx hy
  by_cases h3 : op = 3
  · subst h3; exact Agv.word (mul_sound hx.fa hy.fa)
  by_cases h4 : op = 4 ∨ op = 5 ∨ op = 6 ∨ op = 7
  · have e1 : ∀ z v, Rf.bin12 op off z v = V.word (Rf.any7 op z.a v.a) := fun z v => by unfold Rf.bin12; simp only [h1, h2, h3, h4, if_true, if_false]
    have e2 : Vb.binOp ⟨op, ty, off, x, a, y, b⟩ = V.word (Vb.some (a.a ||| b.a)) := by unfold Vb.binOp; simp only [h1, h2, h3, h4, if_true, if_false]; rfl
    rw [e1, e1, e2]
    exact Agv.word (any_sound _ hx.fa hy.fa)
  by_cases h8 : op = 8
  · subst h8; exact ⟨vand_sound hx.fa hy.fa, vand_sound hx.fb hy.fb, vand_sound hx.fc hy.fc, vand_sound hx.fd hy.fd⟩
  by_cases h9 : op = 9
  · subst h9
    obtain ⟨_, p1, p2, p3, p4⟩ := is_parts ha
    obtain ⟨_, q1, q2, q3, q4⟩ := is_parts (hb (by decide))
    exact ⟨vor_sound p1 q1 hx.fa hy.fa, vor_sound p2 q2 hx.fb hy.fb, vor_sound p3 q3 hx.fc hy.fc, vor_sound p4 q4 hx.fd hy.fd⟩
  by_cases h10 : op = 10
  · subst h10; exact ⟨vxor_sound hx.fa hy.fa, vxor_sound hx.fb hy.fb, vxor_sound hx.fc hy.fc, vxor_sound hx.fd hy.fd⟩
  by_cases h11 : op = 11
  · subst h11; exact Agv.word (shift_sound (fun n z => z <<< n) (fun n _ _ _ h => h.shl n) hx.fa hy.fa)
  by_cases h12 : op = 12
  · subst h12; exact Agv.word (shift_sound (fun n z => z >>> n) (fun n _ _ _ h => h.shr n) hx.fa hy.fa)
  by_cases h13 : op = 13
  · subst h13; exact Agv.word (shift_sound (fun n z => z.sshiftRight n) (fun n _ _ _ h => h.sar n) hx.fa hy.fa)
  by_cases h14 : op = 14
  · subst h14; exact Agv.one (same_sound hx hy)
  by_cases h15 : op = 15
  · subst h15
    refine Agv.one ((same_sound hx hy).imp id fun h => ?_)
    rw [h]
  by_cases h16 : op = 16
  · subst h16
    have := less_word 16 ty off hx hy
    rw [← less12_16, ← less12_16] at this
    exact this
  by_cases h17 : op = 17
  · subst h17
    have := less_word 17 ty off hx hy
    rw [← less12_17, ← less12_17] at this
    exact this
  by_cases h18 : op = 18
  · subst h18
    have := less_word 18 ty off hx hy
    rw [← less12_18, ← less12_18] at this
    exact this
  by_cases h19 : op = 19
  · subst h19
    have := less_word 19 ty off hx hy
    rw [← less12_19, ← less12_19] at this
    exact this
  by_cases h20 : op = 20
  · subst h20; exact sev_sound add_sound (.inl rfl) hx hy
  by_cases h21 : op = 21
  · subst h21; exact sev_sound add_sound (.inr (.inl rfl)) hx hy
  by_cases h22 : op = 22
  · subst h22; exact sev_sound add_sound (.inr (.inr rfl)) hx hy
  by_cases h23 : op = 23
  · subst h23; exact sev_sound sub_sound (.inl rfl) hx hy
  by_cases h24 : op = 24
  · subst h24; exact sev_sound sub_sound (.inr (.inl rfl)) hx hy
  by_cases h25 : op = 25
  · subst h25; exact sev_sound sub_sound (.inr (.inr rfl)) hx hy
  by_cases h26 : op = 26
  · subst h26; exact sev_sound eq_sound (.inl rfl) hx hy
  by_cases h27 : op = 27
  · subst h27; exact sev_sound eq_sound (.inr (.inl rfl)) hx hy
  by_cases h28 : op = 28
  · subst h28; exact sev_sound eq_sound (.inr (.inr rfl)) hx hy
  by_cases h29 : op = 29
  · subst h29; exact shuf_sound hx hy
  · have e1 : ∀ z v, Rf.bin12 op off z v = z.set off.toNat v.a := fun z v => by
      unfold Rf.bin12
      simp only [h1, h2, h3, h4, h8, h9, h10, h11, h12, h13, h14, h15, h16, h17, h18, h19, h20, h21, h22, h23, h24, h25, h26, h27, h28, h29, if_false]
    have e2 : Vb.binOp ⟨op, ty, off, x, a, y, b⟩ = a.set off.toNat b.a := by
      unfold Vb.binOp
      simp only [h1, h2, h3, h4, h8, h9, h10, h11, h12, h13, h14, h15, h16, h17, h18, h19, h20, h21, h22, h23, h24, h25, h26, h27, h28, h29, if_false, false_or]
      rfl
    rw [e1, e1, e2]
    exact set_sound _ hx hy.fa
end Go.Proofs.YtboknfppecgjmaaGreat
namespace Go.Proofs.YtboknfppecgjmaaGreat
set_option linter.unusedVariables false
set_option linter.unusedSimpArgs false
theorem not_ones (x o : BitVec 32) : (x &&& o) &&& ~~~o = 0#32 := by
  apply BitVec.eq_of_getLsbD_eq; intro i hi
  simp only [BitVec.getLsbD_and, BitVec.getLsbD_not, BitVec.getLsbD_zero]
  cases x.getLsbD i <;> cases o.getLsbD i <;> simp
theorem and_is {ty : Int} (h : Vb.isType ty = true) (x : V) : Vb.is ty (x.and (Vb.ones ty)) = true := is_mk h (not_ones _ _) (not_ones _ _) (not_ones _ _) (not_ones _ _)
theorem ones_is {ty : Int} (h : Vb.isType ty = true) : Vb.is ty (Vb.ones ty) = true := by
  rcases isType_cases h with rfl | rfl | rfl | rfl | rfl <;> decide
theorem isUn_to {op p to off : Int} (h : Vb.isUn op p to off = true) : Vb.isType to = true := by
  unfold Vb.isUn at h
  simp only at h
  split at h
  · cases h
  · rename_i hc
    simp only [Bool.or_eq_true, not_or, Bool.not_eq_true, Bool.not_eq_false'] at hc
    exact hc.1.2
theorem isUn_to32 {op p to off : Int} (h : Vb.isUn op p to off = true) (ho : op = 3 ∨ op = 7 ∨ op = 12 ∨ op = 13) : to = 32 := by
  unfold Vb.isUn at h
  simp only at h
  grind (splits := 40)
theorem isUn_to128 {op p to off : Int} (h : Vb.isUn op p to off = true) (ho : op = 8 ∨ op = 9 ∨ op = 10 ∨ op = 11) : to = 128 := by
  unfold Vb.isUn at h
  simp only at h
  grind (splits := 40)
theorem isUn_to1 {p to off : Int} (h : Vb.isUn 5 p to off = true) : to = 1 := by
  unfold Vb.isUn at h
  simp only at h
  grind (splits := 40)
theorem isUn_same {p to off : Int} (h : Vb.isUn 1 p to off = true) : p = to := by
  unfold Vb.isUn at h
  simp only at h
  grind (splits := 40)
theorem isUn_op {op p to off : Int} (h : Vb.isUn op p to off = true) : 1 ≤ op ∧ op ≤ 13 := by
  unfold Vb.isUn at h
  simp only at h
  grind (splits := 40)
theorem unOp_is {op p to off : Int} {x a : V} (hU : Vb.isUn op p to off = true) (ha : Vb.is p a = true) : Vb.is to (Vb.unOp op ⟨x, a, p, to, off⟩) = true := by
  have ht := isUn_to hU
  obtain ⟨h1, h2⟩ := isUn_op hU
  rcases (show op = 1 ∨ op = 2 ∨ op = 3 ∨ op = 4 ∨ op = 5 ∨ op = 6 ∨ op = 7 ∨ op = 8 ∨ op = 9 ∨ op = 10 ∨ op = 11 ∨ op = 12 ∨ op = 13 by omega) with rfl | rfl | rfl | rfl | rfl | rfl | rfl | rfl | rfl | rfl | rfl | rfl | rfl
  · have := isUn_same hU; subst this; exact ha
  · exact and_is ht a
  · obtain ⟨hp, _⟩ := isUn_small hU (.inr rfl)
    have := isUn_to32 hU (.inl rfl); subst this
    rw [sext_eq ha p.toNat (by omega)]
    exact is_32 _
  · exact and_is ht a
  · have := isUn_to1 hU; subst this; exact is_1_one _
  · show Vb.is to (if a.a = 1 then Vb.ones to else V.zero) = true
    split
    · exact ones_is ht
    · exact is_zero ht
  · have := isUn_to32 hU (by simp); subst this; exact is_32 _
  · have := isUn_to128 hU (by simp); subst this; exact is_128 _
  · have := isUn_to128 hU (by simp); subst this; exact is_128 _
  · have := isUn_to128 hU (by simp); subst this; exact is_128 _
  · have := isUn_to128 hU (by simp); subst this; exact is_128 _
  · have := isUn_to32 hU (by simp); subst this; exact is_32 _
  · have := isUn_to32 hU (by simp); subst this; exact is_32 _
theorem sec_ty {op ty off : Int} (h : Vb.second op ty off ≠ 0) : 1 ≤ op ∧ op ≤ 30 ∧ (1 ≤ op ∧ op ≤ 7 ∨ 11 ≤ op ∧ op ≤ 13 ∨ 16 ≤ op ∧ op ≤ 19 → ty = 32) ∧ (20 ≤ op → ty = 128) := by
  unfold Vb.second at h
  simp only at h
  grind (splits := 40)
theorem or_not {x y o : BitVec 32} (hx : x &&& ~~~o = 0#32) (hy : y &&& ~~~o = 0#32) : (x ||| y) &&& ~~~o = 0#32 := by
  apply BitVec.eq_of_getLsbD_eq; intro i hi
  have h1 := congrArg (fun z => z.getLsbD i) hx
  have h2 := congrArg (fun z => z.getLsbD i) hy
  simp only [BitVec.getLsbD_and, BitVec.getLsbD_or, BitVec.getLsbD_not, hi, decide_true, Bool.true_and, BitVec.getLsbD_zero] at h1 h2 ⊢
  revert h1 h2
  generalize x.getLsbD i = p
  generalize y.getLsbD i = q
  generalize o.getLsbD i = r
  revert p q r
  decide
theorem xor_not {x y o : BitVec 32} (hx : x &&& ~~~o = 0#32) (hy : y &&& ~~~o = 0#32) : (x ^^^ y) &&& ~~~o = 0#32 := by
  apply BitVec.eq_of_getLsbD_eq; intro i hi
  have h1 := congrArg (fun z => z.getLsbD i) hx
  have h2 := congrArg (fun z => z.getLsbD i) hy
  simp only [BitVec.getLsbD_and, BitVec.getLsbD_xor, BitVec.getLsbD_not, hi, decide_true, Bool.true_and, BitVec.getLsbD_zero] at h1 h2 ⊢
  revert h1 h2
  generalize x.getLsbD i = p
  generalize y.getLsbD i = q
  generalize o.getLsbD i = r
  revert p q r
  decide
theorem and_not {x y o : BitVec 32} (hx : x &&& ~~~o = 0#32) : (x &&& y) &&& ~~~o = 0#32 := by
  apply BitVec.eq_of_getLsbD_eq; intro i hi
  have h1 := congrArg (fun z => z.getLsbD i) hx
  simp only [BitVec.getLsbD_and, BitVec.getLsbD_not, hi, decide_true, Bool.true_and, BitVec.getLsbD_zero] at h1 ⊢
  revert h1
  generalize x.getLsbD i = p
  generalize y.getLsbD i = q
  generalize o.getLsbD i = r
  revert p q r
  decide
theorem or_is {ty : Int} {x y : V} (hx : Vb.is ty x = true) (hy : Vb.is ty y = true) : Vb.is ty (x.or y) = true := by
  obtain ⟨h0, h1, h2, h3, h4⟩ := is_parts hx
  obtain ⟨_, g1, g2, g3, g4⟩ := is_parts hy
  exact is_mk h0 (or_not h1 g1) (or_not h2 g2) (or_not h3 g3) (or_not h4 g4)
theorem xor_is {ty : Int} {x y : V} (hx : Vb.is ty x = true) (hy : Vb.is ty y = true) : Vb.is ty (x.xor y) = true := by
  obtain ⟨h0, h1, h2, h3, h4⟩ := is_parts hx
  obtain ⟨_, g1, g2, g3, g4⟩ := is_parts hy
  exact is_mk h0 (xor_not h1 g1) (xor_not h2 g2) (xor_not h3 g3) (xor_not h4 g4)
theorem and_is' {ty : Int} {x : V} (hx : Vb.is ty x = true) (y : V) : Vb.is ty (x.and y) = true := by
  obtain ⟨h0, h1, h2, h3, h4⟩ := is_parts hx
  exact is_mk h0 (and_not h1) (and_not h2) (and_not h3) (and_not h4)
theorem is32_word {a : V} (h : Vb.is 32 a = true) : a = V.word a.a := word_of_small h (by decide)
theorem each32_is {f : BitVec 32 → BitVec 32 → BitVec 32 → BitVec 32 → BitVec 32} (hf : LaneZ f) {x a y b : V} (ha : Vb.is 32 a = true) (hb : Vb.is 32 b = true) : Vb.is 32 (Vb.each 32 x a y b f) = true := by
  have e1 := is32_word ha
  have e2 := is32_word hb
  have k : Vb.each 32 x a y b f = V.word (f x.a a.a y.a b.a) := by
    rw [each_32, e1, e2]
    exact ext4 rfl (hf _ _) (hf _ _) (hf _ _)
  rw [k]
  exact is_32 _
theorem binOp_is {op ty off : Int} {x a y b : V} (h : Vb.second op ty off ≠ 0) (ha : Vb.is ty a = true) (hb : op ≠ 30 → Vb.is ty b = true) :
    Vb.is (if 14 ≤ op ∧ op ≤ 19 then 1 else ty) (Vb.binOp ⟨op, ty, off, x, a, y, b⟩) = true := by
  obtain ⟨h1, h2, h3, h4⟩ := sec_ty h
  by_cases g : 14 ≤ op ∧ op ≤ 19
  · rw [if_pos g]
    rcases (show op = 14 ∨ op = 15 ∨ op = 16 ∨ op = 17 ∨ op = 18 ∨ op = 19 by omega) with rfl | rfl | rfl | rfl | rfl | rfl
    all_goals exact is_1_one _
  · rw [if_neg g]
    by_cases g2 : 20 ≤ op
    · have := h4 g2; subst this; exact is_128 _
    · by_cases g3 : 8 ≤ op ∧ op ≤ 10
      · have hb' := hb (by omega)
        rcases (show op = 8 ∨ op = 9 ∨ op = 10 by omega) with rfl | rfl | rfl
        · exact or_is (and_is' ha _) (and_is' hb' _)
        · exact or_is (and_is' ha _) (and_is' hb' _)
        · exact or_is ha hb'
      · have := h3 (by omega); subst this
        have hb' := hb (by omega)
        rcases (show op = 1 ∨ op = 2 ∨ op = 3 ∨ op = 4 ∨ op = 5 ∨ op = 6 ∨ op = 7 ∨ op = 11 ∨ op = 12 ∨ op = 13 by omega) with rfl | rfl | rfl | rfl | rfl | rfl | rfl | rfl | rfl | rfl
        · exact each32_is added_z ha hb'
        · exact each32_is subtracted_z ha hb'
        all_goals exact is_32 _
theorem keep_word {o s z w : BitVec 32} (h : Ag z w s) : (o &&& ~~~s) &&& (z ^^^ w) = 0#32 := by
  apply BitVec.eq_of_getLsbD_eq; intro i hi
  have h1 := h.bit i hi
  simp only [BitVec.getLsbD_and, BitVec.getLsbD_xor, BitVec.getLsbD_not, hi, decide_true, Bool.true_and, BitVec.getLsbD_zero]
  revert h1
  generalize o.getLsbD i = p
  generalize s.getLsbD i = q
  generalize z.getLsbD i = r
  generalize w.getLsbD i = t
  revert p q r t
  decide
/-- What the law asks of two values. -/
theorem keep_zero {ty : Int} {s z w : V} (hs : Vb.is ty s = true) (h : Agv z w s) : (Rf.not ty s).and (z.xor w) = V.zero := by
  rw [not_eq hs]
  exact ext4 (keep_word h.fa) (keep_word h.fb) (keep_word h.fc) (keep_word h.fd)
theorem fits_res {q : Ask} {n m : Nat} (h : q.Fits n m) : q.res n = if q.kind = 0 then q.to else if q.kind = 1 then (if 14 ≤ q.op ∧ q.op ≤ 19 then 1 else q.from_) else if q.kind = 2 then q.from_ else 32 := by
  unfold Ask.res
  cases h with
  | un hk h hx ha =>
    rw [if_pos hk, if_pos hk]
    have := (exUn_iff _ _ _ _).2 h
    unfold Rf.exUn at this ⊢
    split at this
    · rename_i hc; rw [if_pos hc]
    · exact absurd rfl this
  | bin hk h hsec hx ha hy hb =>
    have k0 : ¬ q.kind = 0 := by omega
    rw [if_neg k0, if_neg k0, if_pos hk, if_pos hk]
    have hq : q.sec = Rf.secTy q.op q.from_ := sec_eq hk
    rw [hq]
    have val : ∀ to, Rf.exBin q.op q.from_ (Rf.secTy q.op q.from_) to q.off ≠ 0 → Rf.exBin q.op q.from_ (Rf.secTy q.op q.from_) to q.off = to := by
      intro to hto
      unfold Rf.exBin at hto ⊢
      split at hto
      · rename_i hc; rw [if_pos hc]
      · exact absurd rfl hto
    by_cases h1 : Rf.exBin q.op q.from_ (Rf.secTy q.op q.from_) q.from_ q.off ≠ 0
    · rw [if_pos h1, val _ h1]
      have := ((exBin_iff _ _ _ _ (.inl rfl)).1 h1).2
      split at this
      · rw [if_pos (by omega)]; exact this
      · rw [if_neg (by omega)]
    · rw [if_neg h1]
      have h2 : Rf.exBin q.op q.from_ (Rf.secTy q.op q.from_) 1 q.off ≠ 0 := by
        refine (exBin_iff _ _ _ _ (.inr rfl)).2 ⟨h, ?_⟩
        split
        · rfl
        · rename_i hn
          exfalso
          apply h1
          refine (exBin_iff _ _ _ _ (.inl rfl)).2 ⟨h, ?_⟩
          rw [if_neg hn]
      rw [val _ h2]
      have := ((exBin_iff _ _ _ _ (.inr rfl)).1 h2).2
      split at this
      · rw [if_pos (by omega)]
      · rw [if_neg (by omega)]; exact this
  | mux hk ht hsec hx ha hy hb hc hd =>
    have k0 : ¬ q.kind = 0 := by omega
    have k1 : ¬ q.kind = 1 := by omega
    rw [if_neg k0, if_neg k0, if_neg k1, if_neg k1, if_pos hk, if_pos hk, tmpTy_eq, if_pos ht]
  | call hk h hm =>
    have k0 : ¬ q.kind = 0 := by omega
    have k1 : ¬ q.kind = 1 := by omega
    have k2 : ¬ q.kind = 2 := by omega
    rw [if_neg k0, if_neg k0, if_neg k1, if_neg k1, if_neg k2, if_neg k2, if_pos hk, if_pos]
    rcases h with ⟨h1, h2⟩ | ⟨h1, h2⟩ <;> rw [h1, h2] <;> decide
theorem mux_is {ty : Int} {c d x a y b : V} (h1 : Vb.is ty x = true) (h2 : Vb.is ty a = true) (h3 : Vb.is ty y = true) (h4 : Vb.is ty b = true) (h5 : Vb.is 1 c = true) (h6 : Vb.is 1 d = true) : Vb.is ty (Vb.mux ty c d x a y b).1 = true := by
  rw [mux_fine h1 h2 h3 h4 h5 h6]
  split
  · exact or_is (or_is (xor_is h1 h3) h2) h4
  · split
    · exact h2
    · exact h4
/-- A shadow is a value of the result's type. -/
theorem sh_is {q : Ask} {n m : Nat} {s : List (BitVec 32)} (h : q.Fits n m) : Vb.is (q.res n) (q.sh s).1 = true := by
  rw [fits_res h]
  unfold Ask.sh
  cases h with
  | un hk h hx ha => rw [if_pos hk, if_pos hk, un_fine h hx ha]; exact unOp_is h ha
  | bin hk h hsec hx ha hy hb =>
    have k0 : ¬ q.kind = 0 := by omega
    rw [if_neg k0, if_neg k0, if_pos hk, if_pos hk, bin_fine h hx ha (by rw [hsec]; exact hy) (by rw [hsec]; exact hb)]
    refine binOp_is h ha (fun h30 => ?_)
    have : q.sec = q.from_ := by rw [sec_eq hk]; unfold Rf.secTy; rw [if_neg h30]
    rw [← this]; exact hb
  | mux hk ht hsec hx ha hy hb hc hd =>
    have k0 : ¬ q.kind = 0 := by omega
    have k1 : ¬ q.kind = 1 := by omega
    rw [if_neg k0, if_neg k0, if_neg k1, if_neg k1, if_pos hk, if_pos hk]
    exact mux_is hx ha hy hb hc hd
  | call hk h hm =>
    have k0 : ¬ q.kind = 0 := by omega
    have k1 : ¬ q.kind = 1 := by omega
    have k2 : ¬ q.kind = 2 := by omega
    rw [if_neg k0, if_neg k0, if_neg k1, if_neg k1, if_neg k2, if_neg k2]
    exact is_32 _
/-- A choice between words, by the bit c. -/
def muxV (c x y : V) : V := if c.a = 1#32 then x else y
theorem mux_bits {x x' a y y' b : BitVec 32} (hx : Ag x x' a) (hy : Ag y y' b) : Ag x x' (((x ^^^ y) ||| a) ||| b) ∧ Ag x y' (((x ^^^ y) ||| a) ||| b) ∧ Ag y x' (((x ^^^ y) ||| a) ||| b) ∧ Ag y y' (((x ^^^ y) ||| a) ||| b) := by
  refine ⟨Ag.of ?_, Ag.of ?_, Ag.of ?_, Ag.of ?_⟩
  all_goals
    intro i hi
    have h1 := hx.bit i hi
    have h2 := hy.bit i hi
    simp only [BitVec.getLsbD_or, BitVec.getLsbD_xor]
    revert h1 h2
    generalize x.getLsbD i = p
    generalize x'.getLsbD i = p'
    generalize a.getLsbD i = r
    generalize y.getLsbD i = q
    generalize y'.getLsbD i = q'
    generalize b.getLsbD i = s
    revert p p' r q q' s
    decide
theorem sound_mux {ty : Int} {c c' d x x' a y y' b : V} (h1 : Vb.is ty x = true) (h2 : Vb.is ty a = true) (h3 : Vb.is ty y = true) (h4 : Vb.is ty b = true) (h5 : Vb.is 1 c = true) (h6 : Vb.is 1 d = true)
    (hc : Agv c c' d) (hx : Agv x x' a) (hy : Agv y y' b) : Agv (muxV c x y) (muxV c' x' y') (Vb.mux ty c d x a y b).1 := by
  rw [mux_fine h1 h2 h3 h4 h5 h6]
  unfold muxV
  rcases is_one h6 with rfl | rfl
  · rw [hc.eq, if_neg (show ¬ V.zero.a = 1#32 by decide)]
    by_cases hb : c'.a = 1#32
    · rw [if_pos hb, if_pos hb, if_pos hb]; exact hx
    · rw [if_neg hb, if_neg hb, if_neg hb]; exact hy
  · rw [if_pos (show (V.word 1#32).a = 1#32 from rfl)]
    have ba := mux_bits hx.fa hy.fa
    have bb := mux_bits hx.fb hy.fb
    have bc := mux_bits hx.fc hy.fc
    have bd := mux_bits hx.fd hy.fd
    split <;> split
    · exact ⟨ba.1, bb.1, bc.1, bd.1⟩
    · exact ⟨ba.2.1, bb.2.1, bc.2.1, bd.2.1⟩
    · exact ⟨ba.2.2.1, bb.2.2.1, bc.2.2.1, bd.2.2.1⟩
    · exact ⟨ba.2.2.2, bb.2.2.2, bc.2.2.2, bd.2.2.2⟩
end Go.Proofs.YtboknfppecgjmaaGreat
