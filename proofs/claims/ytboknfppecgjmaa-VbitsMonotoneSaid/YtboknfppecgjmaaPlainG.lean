/- Plain laws for VbitsMonotone: if more bits of the operands are undefined, no fewer bits of the result are. -/
import Derived.Test.YtboknfppecgjmaaPlainF
namespace Go.Proofs.Ytboknfppecgjmaa
set_option linter.unusedVariables false
set_option linter.unusedSimpArgs false

/-- Each bit of a is one of b. -/
def Sub (a b : BitVec 32) : Prop := ∀ i, i < 32 → a.getLsbD i = true → b.getLsbD i = true
theorem Sub.refl (a : BitVec 32) : Sub a a := fun _ _ h => h
theorem Sub.trans {a b c : BitVec 32} (h : Sub a b) (g : Sub b c) : Sub a c := fun i hi x => g i hi (h i hi x)
theorem Sub.zero (a : BitVec 32) : Sub 0#32 a := fun i _ h => by simp at h
theorem Sub.all (a : BitVec 32) : Sub a 4294967295#32 := fun i hi _ => by
  show (BitVec.allOnes 32).getLsbD i = true
  rw [BitVec.getLsbD_allOnes]
  simpa using hi
theorem Sub.or {a b c d : BitVec 32} (h : Sub a b) (g : Sub c d) : Sub (a ||| c) (b ||| d) := fun i hi x => by
  simp only [BitVec.getLsbD_or, Bool.or_eq_true] at x ⊢
  exact x.imp (h i hi) (g i hi)
theorem Sub.and {a b c d : BitVec 32} (h : Sub a b) (g : Sub c d) : Sub (a &&& c) (b &&& d) := fun i hi x => by
  simp only [BitVec.getLsbD_and, Bool.and_eq_true] at x ⊢
  exact ⟨h i hi x.1, g i hi x.2⟩
theorem Sub.not {a b : BitVec 32} (h : Sub a b) : Sub (~~~b) (~~~a) := fun i hi x => by
  simp only [BitVec.getLsbD_not, hi, decide_true, Bool.true_and, Bool.not_eq_true'] at x ⊢
  cases ha : a.getLsbD i
  · rfl
  · rw [h i hi ha] at x; cases x
theorem Sub.shl {a b : BitVec 32} (h : Sub a b) (n : Nat) : Sub (a <<< n) (b <<< n) := fun i hi x => by
  simp only [BitVec.getLsbD_shiftLeft, Bool.and_eq_true] at x ⊢
  exact ⟨x.1, h _ (by omega) x.2⟩
theorem Sub.shr {a b : BitVec 32} (h : Sub a b) (n : Nat) : Sub (a >>> n) (b >>> n) := fun i hi x => by
  simp only [BitVec.getLsbD_ushiftRight] at x ⊢
  by_cases hn : n + i < 32
  · exact h _ hn x
  · rw [BitVec.getLsbD_of_ge a _ (by omega)] at x; cases x
theorem Sub.sar {a b : BitVec 32} (h : Sub a b) (n : Nat) : Sub (a.sshiftRight n) (b.sshiftRight n) := fun i hi x => by
  rw [BitVec.getLsbD_sshiftRight] at x ⊢
  have h32 : ¬ 32 ≤ i := by omega
  simp only [h32, decide_false, Bool.not_false, Bool.true_and] at x ⊢
  by_cases hn : n + i < 32
  · rw [if_pos hn] at x ⊢
    exact h _ hn x
  · rw [if_neg hn] at x ⊢
    rw [BitVec.msb_eq_getLsbD_last] at x ⊢
    exact h _ (by omega) x
theorem Sub.ne {a b : BitVec 32} (h : Sub a b) (ha : a ≠ 0#32) : b ≠ 0#32 := by
  intro hb
  subst hb
  apply ha
  apply BitVec.eq_of_getLsbD_eq; intro i hi
  cases hx : a.getLsbD i
  · simp
  · have := h i hi hx; simp at this
theorem Sub.eq0 {a b : BitVec 32} (h : Sub a b) (hb : b = 0#32) : a = 0#32 := by
  apply Classical.byContradiction
  intro ha
  exact h.ne ha hb
theorem Sub.iff {a b : BitVec 32} : a &&& ~~~b = 0#32 ↔ Sub a b := by
  constructor
  · intro h i hi x
    have hb := congrArg (fun z => z.getLsbD i) h
    simp only [BitVec.getLsbD_and, BitVec.getLsbD_not, hi, decide_true, Bool.true_and, BitVec.getLsbD_zero, x] at hb
    simpa using hb
  · intro h
    apply BitVec.eq_of_getLsbD_eq; intro i hi
    simp only [BitVec.getLsbD_and, BitVec.getLsbD_not, hi, decide_true, Bool.true_and, BitVec.getLsbD_zero]
    cases hx : a.getLsbD i
    · rfl
    · rw [h i hi hx]; rfl
theorem some_of {z : BitVec 32} (h : z ≠ 0#32) : Vb.some z = 4294967295#32 := by
  have h' : ¬ z = 0 := h
  unfold Vb.some
  rw [if_neg h']
theorem Sub.some {a b : BitVec 32} (h : Sub a b) : Sub (Vb.some a) (Vb.some b) := by
  by_cases ha : a = 0#32
  · subst ha; rw [some_zero]; exact Sub.zero _
  · rw [some_of (h.ne ha)]; exact Sub.all _
theorem left_bit (z : BitVec 32) (i : Nat) (hi : i < 32) : (Vb.left z).getLsbD i = true ↔ ∃ j, j ≤ i ∧ z.getLsbD j = true := by
  unfold Vb.left
  rw [BitVec.getLsbD_or, BitVec.getLsbD_neg]
  simp only [hi, decide_true, Bool.true_and]
  constructor
  · intro h
    cases hz : z.getLsbD i
    · rw [hz] at h
      simp only [Bool.false_or, Bool.false_bne, decide_eq_true_eq] at h
      obtain ⟨j, h1, h2⟩ := h
      exact ⟨j, by omega, h2⟩
    · exact ⟨i, Nat.le_refl _, hz⟩
  · rintro ⟨j, h1, h2⟩
    rcases Nat.lt_or_eq_of_le h1 with h3 | rfl
    · have h4 : decide (∃ j, j < i ∧ z.getLsbD j = true) = true := by simp only [decide_eq_true_eq]; exact ⟨j, h3, h2⟩
      rw [h4]
      cases z.getLsbD i <;> rfl
    · rw [h2]; rfl
theorem Sub.left {a b : BitVec 32} (h : Sub a b) : Sub (Vb.left a) (Vb.left b) := fun i hi x => by
  obtain ⟨j, h1, h2⟩ := (left_bit a i hi).1 x
  exact (left_bit b i hi).2 ⟨j, h1, h j (by omega) h2⟩
theorem Sub.least {a b : BitVec 32} (h : Sub a b) (x : BitVec 32) : Sub (Vb.least x b) (Vb.least x a) := (Sub.refl x).and h.not
theorem Sub.greatest {a b : BitVec 32} (h : Sub a b) (x : BitVec 32) : Sub (Vb.greatest x a) (Vb.greatest x b) := (Sub.refl x).or h
theorem least_greatest (x a : BitVec 32) : Sub (Vb.least x a) (Vb.greatest x a) := fun i hi h => by
  simp only [Vb.least, Vb.greatest, BitVec.getLsbD_and, BitVec.getLsbD_or, Bool.and_eq_true, Bool.or_eq_true] at h ⊢
  exact .inl h.1
theorem Sub.le {a b : BitVec 32} (h : Sub a b) : a ≤ b := by
  have e : a ||| b = b := by
    apply BitVec.eq_of_getLsbD_eq; intro i hi
    rw [BitVec.getLsbD_or]
    cases hx : a.getLsbD i
    · rfl
    · rw [h i hi hx]; rfl
  rw [← e]
  exact le_or _ _
theorem carry_mono {x x' y y' : BitVec 32} (hx : Sub x x') (hy : Sub y y') : ∀ i, i ≤ 32 → BitVec.carry i x y false = true → BitVec.carry i x' y' false = true
  | 0, _, h => by simp [BitVec.carry_zero] at h
  | i + 1, hi, h => by
    rw [BitVec.carry_succ] at h ⊢
    have ih := carry_mono hx hy i (by omega)
    have h1 := hx i (by omega)
    have h2 := hy i (by omega)
    revert h ih h1 h2
    generalize x.getLsbD i = p
    generalize x'.getLsbD i = p'
    generalize y.getLsbD i = q
    generalize y'.getLsbD i = q'
    generalize BitVec.carry i x y false = c
    generalize BitVec.carry i x' y' false = c'
    revert p p' q q' c c'
    decide
def LaneMono (f : BitVec 32 → BitVec 32 → BitVec 32 → BitVec 32 → BitVec 32) : Prop := ∀ x a a' y b b', Sub a a' → Sub b b' → Sub (f x a y b) (f x a' y b')
theorem added_bit (x a y b : BitVec 32) (i : Nat) (hi : i < 32) : (Vb.added x a y b).getLsbD i = (a.getLsbD i || b.getLsbD i || (((Vb.least x a).getLsbD i ^^ ((Vb.least y b).getLsbD i ^^ BitVec.carry i (Vb.least x a) (Vb.least y b) false)) ^^ ((Vb.greatest x a).getLsbD i ^^ ((Vb.greatest y b).getLsbD i ^^ BitVec.carry i (Vb.greatest x a) (Vb.greatest y b) false)))) := by
  unfold Vb.added
  rw [BitVec.getLsbD_or, BitVec.getLsbD_or, BitVec.getLsbD_xor, BitVec.getLsbD_add hi, BitVec.getLsbD_add hi]
  rfl
theorem added_mono : LaneMono Vb.added := by
  intro x a a' y b b' ha hb i hi h
  rw [added_bit _ _ _ _ i hi] at h ⊢
  have h1 := ha i hi
  have h2 := hb i hi
  have c1 := carry_mono (ha.least x) (hb.least y) i (by omega)
  have c2 := carry_mono (least_greatest x a) (least_greatest y b) i (by omega)
  have c3 := carry_mono (ha.greatest x) (hb.greatest y) i (by omega)
  revert h h1 h2 c1 c2 c3
  simp only [Vb.least, Vb.greatest, BitVec.getLsbD_and, BitVec.getLsbD_or, BitVec.getLsbD_not, hi, decide_true, Bool.true_and]
  generalize BitVec.carry i (x &&& ~~~a) (y &&& ~~~b) false = k1
  generalize BitVec.carry i (x &&& ~~~a') (y &&& ~~~b') false = k2
  generalize BitVec.carry i (x ||| a) (y ||| b) false = k3
  generalize BitVec.carry i (x ||| a') (y ||| b') false = k4
  generalize x.getLsbD i = p
  generalize y.getLsbD i = q
  generalize a.getLsbD i = r
  generalize a'.getLsbD i = r'
  generalize b.getLsbD i = s
  generalize b'.getLsbD i = s'
  revert k1 k2 k3 k4 p q r r' s s'
  decide
theorem subtracted_mono : LaneMono Vb.subtracted := by
  intro x a a' y b b' ha hb
  rw [sub_add, sub_add]
  exact added_mono _ _ _ _ _ _ ha hb
theorem equal_mono : LaneMono Vb.equal := by
  intro x a a' y b b' ha hb
  have hab := ha.or hb
  unfold Vb.equal
  by_cases h : (x ^^^ y) &&& ~~~(a ||| b) = 0
  · have h' : (x ^^^ y) &&& ~~~(a' ||| b') = 0 := Sub.eq0 ((Sub.refl _).and hab.not) h
    rw [if_pos h, if_pos h']
    exact hab.some
  · rw [if_neg h]; exact Sub.zero _
theorem unLane_mono : LaneMono Vb.unLane := by
  intro x a a' y b b' ha hb
  unfold Vb.unLane
  by_cases h : x &&& ~~~a = 0
  · have h' : x &&& ~~~a' = 0 := Sub.eq0 ((Sub.refl _).and ha.not) h
    rw [if_pos h, if_pos h']
    exact ha.some
  · rw [if_neg h]; exact Sub.zero _
theorem lanesFrom_mono {f : BitVec 32 → BitVec 32 → BitVec 32 → BitVec 32 → BitVec 32} (hf : LaneMono f) (width : Nat) (x y : BitVec 32) {a a' b b' : BitVec 32} (ha : Sub a a') (hb : Sub b b') :
    ∀ (n at_ : Nat) (acc acc' : BitVec 32), Sub acc acc' → Sub (Vb.lanesFrom width f x a y b n at_ acc) (Vb.lanesFrom width f x a' y b' n at_ acc')
  | 0, _, _, _, h => h
  | n + 1, at_, acc, acc', h => by
    simp only [Vb.lanesFrom]
    exact lanesFrom_mono hf width x y ha hb n _ _ _ (h.or (((hf _ _ _ _ _ _ ((ha.and (Sub.refl _)).shr _) ((hb.and (Sub.refl _)).shr _)).shl _).and (Sub.refl _)))
/-- Each bit of the vector a is one of b. -/
structure Subv (a b : V) : Prop where
  fa : Sub a.a b.a
  fb : Sub a.b b.b
  fc : Sub a.c b.c
  fd : Sub a.d b.d
theorem Subv.refl (a : V) : Subv a a := ⟨Sub.refl _, Sub.refl _, Sub.refl _, Sub.refl _⟩
theorem Subv.zero (a : V) : Subv V.zero a := ⟨Sub.zero _, Sub.zero _, Sub.zero _, Sub.zero _⟩
theorem Subv.or {a b c d : V} (h : Subv a b) (g : Subv c d) : Subv (a.or c) (b.or d) := ⟨h.fa.or g.fa, h.fb.or g.fb, h.fc.or g.fc, h.fd.or g.fd⟩
theorem Subv.and {a b c d : V} (h : Subv a b) (g : Subv c d) : Subv (a.and c) (b.and d) := ⟨h.fa.and g.fa, h.fb.and g.fb, h.fc.and g.fc, h.fd.and g.fd⟩
theorem Subv.without {a b c d : V} (h : Subv a b) (g : Subv d c) : Subv (a.without c) (b.without d) := ⟨h.fa.and g.fa.not, h.fb.and g.fb.not, h.fc.and g.fc.not, h.fd.and g.fd.not⟩
theorem Subv.isZero {a b : V} (h : Subv a b) (hb : b.isZero = true) : a.isZero = true := by
  rw [isZero_iff] at hb ⊢
  exact ⟨h.fa.eq0 hb.1, h.fb.eq0 hb.2.1, h.fc.eq0 hb.2.2.1, h.fd.eq0 hb.2.2.2⟩
theorem Subv.nz {a b : V} (h : Subv a b) (ha : a.isZero = false) : b.isZero = false := by
  cases hb : b.isZero
  · rfl
  · rw [h.isZero hb] at ha; cases ha
theorem Subv.get {a b : V} (h : Subv a b) (i : Nat) : Sub (a.get i) (b.get i) := by
  unfold V.get
  repeat' split
  · exact h.fa
  · exact h.fb
  · exact h.fc
  · exact h.fd
theorem Subv.word {a b : BitVec 32} (h : Sub a b) : Subv (V.word a) (V.word b) := ⟨h, Sub.refl _, Sub.refl _, Sub.refl _⟩
theorem Subv.one {p q : Bool} (h : p = true → q = true) : Subv (Vb.one p) (Vb.one q) := by
  cases p
  · exact Subv.zero _
  · rw [h rfl]; exact Subv.refl _
theorem Subv.ite {c : Prop} [Decidable c] {a b a' b' : V} (h : c → Subv a a') (g : ¬ c → Subv b b') : Subv (if c then a else b) (if c then a' else b') := by
  by_cases hc : c
  · rw [if_pos hc, if_pos hc]; exact h hc
  · rw [if_neg hc, if_neg hc]; exact g hc
theorem each_mono {f : BitVec 32 → BitVec 32 → BitVec 32 → BitVec 32 → BitVec 32} (hf : LaneMono f) (width : Nat) (x y : V) {a a' b b' : V} (ha : Subv a a') (hb : Subv b b') : Subv (Vb.each width x a y b f) (Vb.each width x a' y b' f) :=
  ⟨lanesFrom_mono hf width _ _ ha.fa hb.fa _ _ _ _ (Sub.refl _), lanesFrom_mono hf width _ _ ha.fb hb.fb _ _ _ _ (Sub.refl _), lanesFrom_mono hf width _ _ ha.fc hb.fc _ _ _ _ (Sub.refl _), lanesFrom_mono hf width _ _ ha.fd hb.fd _ _ _ _ (Sub.refl _)⟩
theorem maskTo_mono {a a' : V} (h : Subv a a') : ∀ n, Sub (Vb.maskTo a n) (Vb.maskTo a' n)
  | 0 => Sub.refl _
  | n + 1 => by
    simp only [Vb.maskTo]
    exact (maskTo_mono h n).or ((((h.get _).shr _).and (Sub.refl _)).shl _)
theorem same_mono (x : V) {a a' : V} (h : Subv a a') : Subv (Vb.one (!a.isZero && (x.without a).isZero)) (Vb.one (!a'.isZero && (x.without a').isZero)) := by
  apply Subv.one
  intro hp
  simp only [Bool.and_eq_true, Bool.not_eq_true'] at hp ⊢
  exact ⟨h.nz hp.1, ((Subv.refl x).without h).isZero hp.2⟩
theorem unOp_mono (op from_ to off : Int) (x : V) {a a' : V} (h : Subv a a') (hf : op = 6 → Vb.is 1 a' = true) : Subv (Vb.unOp op ⟨x, a, from_, to, off⟩) (Vb.unOp op ⟨x, a', from_, to, off⟩) := by
  have l : ∀ w, Subv (Vb.Unary.lanes ⟨x, a, from_, to, off⟩ w) (Vb.Unary.lanes ⟨x, a', from_, to, off⟩ w) := fun w => each_mono unLane_mono w x V.zero h (Subv.refl _)
  have h2 : Subv (Vb.Unary.same ⟨x, a, from_, to, off⟩) (Vb.Unary.same ⟨x, a', from_, to, off⟩) := h.and (Subv.refl _)
  have h3 : Subv (Vb.Unary.sext ⟨x, a, from_, to, off⟩) (Vb.Unary.sext ⟨x, a', from_, to, off⟩) := by
    unfold Vb.Unary.sext
    simp only
    split
    · rename_i hc
      have h4 := ((h.fa.and (Sub.refl _)).ne hc)
      rw [if_pos]
      · exact h.or (Subv.refl _)
      · exact h4
    · split
      · exact ⟨h.fa.trans (fun i hi z => by simp [V.or, V.map2, z]), h.fb.trans (fun i hi z => by simp [V.or, V.map2, z]), h.fc.trans (fun i hi z => by simp [V.or, V.map2, z]), h.fd.trans (fun i hi z => by simp [V.or, V.map2, z])⟩
      · exact h
  have h4 : Subv (Vb.Unary.nz ⟨x, a, from_, to, off⟩) (Vb.Unary.nz ⟨x, a', from_, to, off⟩) := same_mono x h
  have h5 : op = 6 → Subv (Vb.Unary.fill ⟨x, a, from_, to, off⟩) (Vb.Unary.fill ⟨x, a', from_, to, off⟩) := by
    intro ho
    unfold Vb.Unary.fill
    simp only
    split
    · rename_i hc
      have h6 : a'.a ≠ 0#32 := h.fa.ne (by rw [hc]; decide)
      rcases is_one (hf ho) with rfl | rfl
      · exact absurd rfl h6
      · have hw : (V.word 1#32).a = 1 := rfl
        rw [if_pos hw]; exact Subv.refl _
    · exact Subv.zero _
  have h6 : Subv (Vb.Unary.left ⟨x, a, from_, to, off⟩) (Vb.Unary.left ⟨x, a', from_, to, off⟩) := Subv.word (h.fa.left.and ((Sub.refl _).and h.fa.not).left.not)
  have h7 : Subv (Vb.Unary.splat ⟨x, a, from_, to, off⟩) (Vb.Unary.splat ⟨x, a', from_, to, off⟩) := ⟨h.fa, h.fa, h.fa, h.fa⟩
  have h8 : Subv (Vb.Unary.word ⟨x, a, from_, to, off⟩) (Vb.Unary.word ⟨x, a', from_, to, off⟩) := Subv.word (h.get _)
  have h9 : Subv (Vb.Unary.mask ⟨x, a, from_, to, off⟩) (Vb.Unary.mask ⟨x, a', from_, to, off⟩) := Subv.word (maskTo_mono h _)
  unfold Vb.unOp
  repeat' first | exact h5 (by assumption) | (with_reducible exact l _) | (with_reducible exact h2) | (with_reducible exact h3) | (with_reducible exact h4) | (with_reducible exact h6) | (with_reducible exact h7) | (with_reducible exact h8) | (with_reducible exact h9) | (refine Subv.ite (fun _ => ?_) (fun _ => ?_)) | exact h
theorem lessOp_mono (op : Int) {x x' y y' : BitVec 32} (hx : x' ≤ x) (hy : y ≤ y') (h : Vb.lessOp op x y = true) : Vb.lessOp op x' y' = true := by
  unfold Vb.lessOp at *
  simp only [Bool.or_eq_true, Bool.and_eq_true, decide_eq_true_eq] at *
  rw [BitVec.le_def] at hx hy
  rcases h with h | ⟨h, h2⟩
  · rw [BitVec.lt_def] at h
    left
    rw [BitVec.lt_def]; omega
  · subst h
    by_cases he : x' = y'
    · exact .inr ⟨he, h2⟩
    · left
      rw [BitVec.lt_def]
      have : x'.toNat ≠ y'.toNat := fun e => he (BitVec.eq_of_toNat_eq e)
      omega
theorem nibble_mono {b b' : BitVec 32} (h : Sub b b') (k : Nat) (hb : b >>> k &&& 15 ≠ 0) : b' >>> k &&& 15 ≠ 0 := ((h.shr k).and (Sub.refl _)).ne hb
theorem shufByte_mono {a a' b b' : V} (y : V) (ha : Subv a a') (hb : Subv b b') (i : Nat) : Sub (Vb.shufByte a y b i) (Vb.shufByte a' y b' i) := by
  unfold Vb.shufByte
  simp only
  by_cases h : b.get (i / 4) >>> (8 * (i % 4)) &&& 15 ≠ 0
  · rw [if_pos h, if_pos (nibble_mono (hb.get _) _ h)]
    exact Sub.refl _
  · rw [if_neg h]
    split
    · intro j hj z
      simp only [BitVec.getLsbD_and, Bool.and_eq_true] at z
      exact z.2
    · exact ((ha.get _).shr _).and (Sub.refl _)
theorem binOp_mono (op ty off : Int) (x y : V) {a a' b b' : V} (ha : Subv a a') (hb : Subv b b') : Subv (Vb.binOp ⟨op, ty, off, x, a, y, b⟩) (Vb.binOp ⟨op, ty, off, x, a', y, b'⟩) := by
  have l : ∀ w f, LaneMono f → Subv (Vb.Binary.lane ⟨op, ty, off, x, a, y, b⟩ w f) (Vb.Binary.lane ⟨op, ty, off, x, a', y, b'⟩ w f) := fun w f hf => each_mono hf w x y ha hb
  have h1 : Subv (Vb.Binary.mul ⟨op, ty, off, x, a, y, b⟩) (Vb.Binary.mul ⟨op, ty, off, x, a', y, b'⟩) := Subv.word (ha.fa.or hb.fa).left
  have h2 : Subv (Vb.Binary.any ⟨op, ty, off, x, a, y, b⟩) (Vb.Binary.any ⟨op, ty, off, x, a', y, b'⟩) := Subv.word (ha.fa.or hb.fa).some
  have h3 : Subv (Vb.Binary.and ⟨op, ty, off, x, a, y, b⟩) (Vb.Binary.and ⟨op, ty, off, x, a', y, b'⟩) := (ha.and ((Subv.refl _).or hb)).or (hb.and ((Subv.refl _).or ha))
  have h4 : Subv (Vb.Binary.or ⟨op, ty, off, x, a, y, b⟩) (Vb.Binary.or ⟨op, ty, off, x, a', y, b'⟩) := (ha.and ((Subv.refl _).or hb)).or (hb.and ((Subv.refl _).or ha))
  have h5 : Subv (Vb.Binary.xor ⟨op, ty, off, x, a, y, b⟩) (Vb.Binary.xor ⟨op, ty, off, x, a', y, b'⟩) := ha.or hb
  have h6 : Subv (Vb.Binary.shift ⟨op, ty, off, x, a, y, b⟩) (Vb.Binary.shift ⟨op, ty, off, x, a', y, b'⟩) := by
    unfold Vb.Binary.shift
    simp only
    apply Subv.word
    apply Sub.or
    · repeat' split
      · exact ha.fa.shl _
      · exact ha.fa.shr _
      · exact ha.fa.sar _
    · exact (hb.fa.and (Sub.refl _)).some
  have h7 : Subv (Vb.Binary.same ⟨op, ty, off, x, a, y, b⟩) (Vb.Binary.same ⟨op, ty, off, x, a', y, b'⟩) := same_mono (x.xor y) (ha.or hb)
  have h8 : Subv (Vb.Binary.less ⟨op, ty, off, x, a, y, b⟩) (Vb.Binary.less ⟨op, ty, off, x, a', y, b'⟩) := by
    unfold Vb.Binary.less
    simp only
    apply Subv.one
    generalize x.a ^^^ Vb.flip op = p
    generalize y.a ^^^ Vb.flip op = q
    intro h
    have up : Vb.lessOp op (Vb.greatest p a.a) (Vb.least q b.a) = true → Vb.lessOp op (Vb.least p a.a) (Vb.greatest q b.a) = true := fun h => lessOp_mono op (least_greatest p a.a).le (least_greatest q b.a).le h
    have u1 : Vb.lessOp op (Vb.least p a.a) (Vb.greatest q b.a) = true → Vb.lessOp op (Vb.least p a'.a) (Vb.greatest q b'.a) = true := fun h => lessOp_mono op (ha.fa.least p).le (hb.fa.greatest q).le h
    have u2 : Vb.lessOp op (Vb.greatest p a'.a) (Vb.least q b'.a) = true → Vb.lessOp op (Vb.greatest p a.a) (Vb.least q b.a) = true := fun h => lessOp_mono op (ha.fa.greatest p).le (hb.fa.least q).le h
    revert h up u1 u2
    generalize Vb.lessOp op (Vb.greatest p a.a) (Vb.least q b.a) = k1
    generalize Vb.lessOp op (Vb.least p a.a) (Vb.greatest q b.a) = k2
    generalize Vb.lessOp op (Vb.least p a'.a) (Vb.greatest q b'.a) = k3
    generalize Vb.lessOp op (Vb.greatest p a'.a) (Vb.least q b'.a) = k4
    revert k1 k2 k3 k4
    decide
  have h9 : Subv (Vb.Binary.shuf ⟨op, ty, off, x, a, y, b⟩) (Vb.Binary.shuf ⟨op, ty, off, x, a', y, b'⟩) := by
    have e := shufByte_mono y ha hb
    have w : ∀ j, Sub (Vb.shufWord a y b j) (Vb.shufWord a' y b' j) := fun j => (((e _).or ((e _).shl _)).or ((e _).shl _)).or ((e _).shl _)
    exact ⟨w _, w _, w _, w _⟩
  have h10 : Subv (Vb.Binary.put ⟨op, ty, off, x, a, y, b⟩) (Vb.Binary.put ⟨op, ty, off, x, a', y, b'⟩) := by
    unfold Vb.Binary.put V.set
    simp only
    constructor
    all_goals (simp only; split <;> first | exact hb.fa | exact ha.fa | exact ha.fb | exact ha.fc | exact ha.fd)
  unfold Vb.binOp
  simp only
  repeat' first | (with_reducible exact l _ _ added_mono) | (with_reducible exact l _ _ subtracted_mono) | (with_reducible exact l _ _ equal_mono) | (with_reducible exact h1) | (with_reducible exact h2) | (with_reducible exact h3) | (with_reducible exact h4) | (with_reducible exact h5) | (with_reducible exact h6) | (with_reducible exact h7) | (with_reducible exact h8) | (with_reducible exact h9) | (with_reducible exact h10) | (refine Subv.ite (fun _ => ?_) (fun _ => ?_))
theorem ones_and_is {ty : Int} (h : Vb.isType ty = true) (u : V) : Vb.is ty ((Vb.ones ty).and u) = true := by
  have w : ∀ m u : BitVec 32, (m &&& u) &&& ~~~m = 0#32 := fun m u => Sub.iff.2 (fun i hi x => by
    simp only [BitVec.getLsbD_and, Bool.and_eq_true] at x; exact x.1)
  exact is_mk h (w _ _) (w _ _) (w _ _) (w _ _)
theorem sub_ones {ty : Int} {a : V} (h : Vb.is ty a = true) (p : V) : Subv a ((Vb.ones ty).and (a.or p)) := by
  obtain ⟨_, h1, h2, h3, h4⟩ := is_parts h
  have w : ∀ m a p : BitVec 32, a &&& ~~~m = 0#32 → Sub a (m &&& (a ||| p)) := fun m a p hm i hi x => by
    simp only [BitVec.getLsbD_and, BitVec.getLsbD_or, Bool.and_eq_true, Bool.or_eq_true]
    exact ⟨Sub.iff.1 hm i hi x, .inl x⟩
  exact ⟨w _ _ _ h1, w _ _ _ h2, w _ _ _ h3, w _ _ _ h4⟩
/-- The list with more bits: the words from number i on. -/
def moreL (r : V) : Nat → List (BitVec 32) → List (BitVec 32)
  | _, [] => []
  | i, k :: l => (k ||| r.get (i % 4)) :: moreL r (i + 1) l
theorem moreL_length (r : V) : ∀ (i : Nat) (l : List (BitVec 32)), (moreL r i l).length = l.length
  | _, [] => rfl
  | i, k :: l => by simp [moreL, moreL_length r (i + 1) l]
theorem moreL_zero (r : V) : ∀ (i : Nat) (l : List (BitVec 32)), (moreL r i l).all (· == 0) = true → l.all (· == 0) = true
  | _, [], _ => rfl
  | i, k :: l, h => by
    simp only [moreL, List.all_cons, Bool.and_eq_true, beq_iff_eq] at h ⊢
    exact ⟨Sub.eq0 (b := k ||| r.get (i % 4)) (fun j hj x => by simp [BitVec.getLsbD_or, x]) h.1, moreL_zero r (i + 1) l h.2⟩
theorem call_mono (op : Int) (r : V) (s : List (BitVec 32)) : Sub (Vb.call op s).1 (Vb.call op (moreL r 0 s)).1 := by
  have hl := moreL_length r 0 s
  have hz := moreL_zero r 0 s
  unfold Vb.call
  rw [hl]
  repeat' split
  all_goals first | exact Sub.zero _ | exact Sub.refl _ | (rename_i h1 h2; exact absurd (hz h2) h1)
theorem mux_mono {ty : Int} {c d d' x a a' y b b' : V} (h1 : Vb.is ty x = true) (h2 : Vb.is ty a = true) (h3 : Vb.is ty y = true) (h4 : Vb.is ty b = true) (h5 : Vb.is 1 c = true) (h6 : Vb.is 1 d = true)
    (g2 : Vb.is ty a' = true) (g4 : Vb.is ty b' = true) (g6 : Vb.is 1 d' = true) (ha : Subv a a') (hb : Subv b b') (hd : Subv d d') : (Vb.mux ty c d' x a' y b').2 = 0 ∧ Subv (Vb.mux ty c d x a y b).1 (Vb.mux ty c d' x a' y b').1 := by
  rw [mux_fine h1 h2 h3 h4 h5 h6, mux_fine h1 g2 h3 g4 h5 g6]
  have e0 : ¬ V.zero.a = 1#32 := by decide
  have e1 : (V.word 1#32).a = 1#32 := rfl
  rcases is_one h6 with rfl | rfl
  · rcases is_one g6 with rfl | rfl
    · rw [if_neg e0]
      split
      · exact ⟨rfl, ha⟩
      · exact ⟨rfl, hb⟩
    · rw [if_neg e0, if_pos e1]
      refine ⟨rfl, ?_⟩
      have la : Subv a (((x.xor y).or a').or b') := by
        have := ((Subv.zero (x.xor y)).or ha).or (Subv.zero b')
        have e : (V.zero.or a).or V.zero = a := by simp [V.or, V.map2, V.zero]
        rwa [e] at this
      have lb : Subv b (((x.xor y).or a').or b') := by
        have := (Subv.zero ((x.xor y).or a')).or hb
        have e : V.zero.or b = b := by simp [V.or, V.map2, V.zero]
        rwa [e] at this
      split
      · exact la
      · exact lb
  · rcases is_one g6 with rfl | rfl
    · have := hd.fa.eq0 rfl
      exact absurd this (by decide)
    · rw [if_pos e1]
      exact ⟨rfl, ((Subv.refl _).or ha).or hb⟩
/-- The question with more undefined bits; v is the new list. -/
def Ask.more (q : Ask) (v : Value) : Ask := { q with d := (Vb.ones 1).and (q.d.or q.t), a := (Vb.ones q.from_).and (q.a.or q.p), b := (Vb.ones q.sec).and (q.b.or q.q), s := v }
theorem sh_more {q : Ask} {n m : Nat} (v : Value) {s : List (BitVec 32)} (h : q.Fits n m) (hs : s.length = m) : ((q.more v).sh (moreL q.r 0 s)).2 = 0 ∧ Subv (q.sh s).1 ((q.more v).sh (moreL q.r 0 s)).1 := by
  unfold Ask.sh Ask.more
  cases h with
  | un hk h hx ha =>
    simp only [hk, if_true]
    have ga := ones_and_is (is_type ha) (q.a.or q.p)
    rw [un_fine h hx ha, un_fine h hx ga]
    refine ⟨rfl, unOp_mono _ _ _ _ _ (sub_ones ha _) ?_⟩
    intro ho
    have : q.from_ = 1 := by
      rw [ho] at h
      unfold Vb.isUn at h
      simp only [show ¬ ((6 : Int) = 1) by decide, show ¬ ((6 : Int) = 2 ∨ (6 : Int) = 3) by decide, show ¬ ((6 : Int) = 4) by decide, show ¬ ((6 : Int) = 5) by decide, if_false, if_true] at h
      split at h
      · cases h
      · simp only [Bool.and_eq_true, beq_iff_eq] at h
        exact h.1
    rw [this] at ga
    rw [this]
    exact ga
  | bin hk h hsec hx ha hy hb =>
    simp only [hk, if_true, show ¬ ((1 : Int) = 0) by decide, if_false]
    rw [bin_fine h hx ha (by rw [hsec]; exact hy) (by rw [hsec]; exact hb), bin_fine h hx (ones_and_is (is_type ha) _) (by rw [hsec]; exact hy) (by rw [hsec]; exact ones_and_is (is_type hb) _)]
    exact ⟨rfl, binOp_mono _ _ _ _ _ (sub_ones ha _) (sub_ones hb _)⟩
  | mux hk ht hsec hx ha hy hb hc hd =>
    simp only [hk, if_true, show ¬ ((2 : Int) = 0) by decide, show ¬ ((2 : Int) = 1) by decide, if_false]
    rw [hsec]
    exact mux_mono hx ha hy hb hc hd (ones_and_is ht _) (ones_and_is ht _) (ones_and_is rfl _) (sub_ones ha _) (sub_ones hb _) (sub_ones hd _)
  | call hk h hm =>
    simp only [hk, show ¬ ((3 : Int) = 0) by decide, show ¬ ((3 : Int) = 1) by decide, show ¬ ((3 : Int) = 2) by decide, if_false]
    exact ⟨call_fine h (by rw [moreL_length]; omega), Subv.word (call_mono _ _ _)⟩
/-- What the law asks at its end. -/
theorem subv_law {s t : V} (h : Subv s t) : s.and (t.xor V.all) = V.zero := by
  have e : ∀ z : BitVec 32, z ^^^ 4294967295#32 = ~~~z := fun z => BitVec.xor_allOnes
  refine ext4 ?_ ?_ ?_ ?_
  · show s.a &&& (t.a ^^^ 4294967295#32) = 0#32; rw [e]; exact Sub.iff.2 h.fa
  · show s.b &&& (t.b ^^^ 4294967295#32) = 0#32; rw [e]; exact Sub.iff.2 h.fb
  · show s.c &&& (t.c ^^^ 4294967295#32) = 0#32; rw [e]; exact Sub.iff.2 h.fc
  · show s.d &&& (t.d ^^^ 4294967295#32) = 0#32; rw [e]; exact Sub.iff.2 h.fd
end Go.Proofs.Ytboknfppecgjmaa
