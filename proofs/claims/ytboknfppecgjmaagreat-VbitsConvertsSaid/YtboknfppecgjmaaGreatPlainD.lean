/- Plain laws for VbitsOblivious: a shadow does not look at the undefined bits of the operands' values. -/
import Derived.Test.YtboknfppecgjmaaGreatPlainC
namespace Go.Proofs.YtboknfppecgjmaaGreat
set_option linter.unusedVariables false
set_option linter.unusedSimpArgs false

/-- Two words that differ in undefined bits alone. -/
def Ag (x x' a : BitVec 32) : Prop := x &&& ~~~a = x' &&& ~~~a
theorem Ag.or {x x' a : BitVec 32} (h : Ag x x' a) : x ||| a = x' ||| a := by
  apply BitVec.eq_of_getLsbD_eq; intro i hi
  have hb := congrArg (fun z => z.getLsbD i) h
  simp only [BitVec.getLsbD_and, BitVec.getLsbD_or, BitVec.getLsbD_not, hi, decide_true, Bool.true_and] at hb ⊢
  cases ha : a.getLsbD i <;> simp_all
theorem Ag.bit {x x' a : BitVec 32} (h : Ag x x' a) (i : Nat) (hi : i < 32) : a.getLsbD i = true ∨ x.getLsbD i = x'.getLsbD i := by
  have hb := congrArg (fun z => z.getLsbD i) h
  simp only [BitVec.getLsbD_and, BitVec.getLsbD_not, hi, decide_true, Bool.true_and] at hb
  cases ha : a.getLsbD i <;> simp_all
theorem Ag.of {x x' a : BitVec 32} (h : ∀ i, i < 32 → a.getLsbD i = true ∨ x.getLsbD i = x'.getLsbD i) : Ag x x' a := by
  apply BitVec.eq_of_getLsbD_eq; intro i hi
  simp only [BitVec.getLsbD_and, BitVec.getLsbD_not, hi, decide_true, Bool.true_and]
  rcases h i hi with h | h <;> simp [h]
theorem Ag.xor {x x' a : BitVec 32} (h : Ag x x' a) (z : BitVec 32) : Ag (x ^^^ z) (x' ^^^ z) a := by
  apply Ag.of; intro i hi
  rcases h.bit i hi with h | h
  · exact .inl h
  · exact .inr (by simp [h])
theorem Ag.lane {x x' a : BitVec 32} (h : Ag x x' a) (m : BitVec 32) (k : Nat) : Ag ((x &&& m) >>> k) ((x' &&& m) >>> k) ((a &&& m) >>> k) := by
  apply Ag.of; intro i hi
  simp only [BitVec.getLsbD_ushiftRight, BitVec.getLsbD_and]
  by_cases h2 : k + i < 32
  · rcases h.bit _ h2 with h | h
    · cases hm : m.getLsbD (k + i)
      · right; simp
      · left; simp [h]
    · right; simp [h]
  · right
    rw [BitVec.getLsbD_of_ge x _ (by omega), BitVec.getLsbD_of_ge x' _ (by omega)]
theorem Ag.refl (x a : BitVec 32) : Ag x x a := rfl

def LaneOk (f : BitVec 32 → BitVec 32 → BitVec 32 → BitVec 32 → BitVec 32) : Prop := ∀ x x' a y y' b, Ag x x' a → Ag y y' b → f x a y b = f x' a y' b
theorem added_ok : LaneOk Vb.added := by
  intro x x' a y y' b hx hy
  have h1 : x &&& ~~~a = x' &&& ~~~a := hx
  have h2 : y &&& ~~~b = y' &&& ~~~b := hy
  unfold Vb.added
  rw [h1, h2, hx.or, hy.or]
theorem subtracted_ok : LaneOk Vb.subtracted := by
  intro x x' a y y' b hx hy
  have h1 : x &&& ~~~a = x' &&& ~~~a := hx
  have h2 : y &&& ~~~b = y' &&& ~~~b := hy
  unfold Vb.subtracted
  rw [h1, h2, hx.or, hy.or]
theorem eq_bits {x x' a y y' b : BitVec 32} (hx : Ag x x' a) (hy : Ag y y' b) : (x ^^^ y) &&& ~~~(a ||| b) = (x' ^^^ y') &&& ~~~(a ||| b) := by
  apply BitVec.eq_of_getLsbD_eq; intro i hi
  have p := hx.bit i hi
  have q := hy.bit i hi
  simp only [BitVec.getLsbD_and, BitVec.getLsbD_or, BitVec.getLsbD_xor, BitVec.getLsbD_not, hi, decide_true, Bool.true_and]
  rcases p with p | p
  · simp [p]
  · rcases q with q | q
    · simp [q]
    · rw [p, q]
theorem equal_ok : LaneOk Vb.equal := by
  intro x x' a y y' b hx hy
  unfold Vb.equal
  rw [eq_bits hx hy]
theorem unLane_ok : LaneOk Vb.unLane := by
  intro x x' a y y' b hx _
  have h1 : x &&& ~~~a = x' &&& ~~~a := hx
  unfold Vb.unLane
  rw [h1]
theorem lanesFrom_ok {f : BitVec 32 → BitVec 32 → BitVec 32 → BitVec 32 → BitVec 32} (hf : LaneOk f) (width : Nat) {x x' a y y' b : BitVec 32} (hx : Ag x x' a) (hy : Ag y y' b) :
    ∀ (n at_ : Nat) (acc : BitVec 32), Vb.lanesFrom width f x a y b n at_ acc = Vb.lanesFrom width f x' a y' b n at_ acc
  | 0, _, _ => rfl
  | n + 1, at_, acc => by
    simp only [Vb.lanesFrom]
    rw [hf _ _ _ _ _ _ (hx.lane (((1#32 <<< width) - 1#32) <<< at_) at_) (hy.lane (((1#32 <<< width) - 1#32) <<< at_) at_)]
    exact lanesFrom_ok hf width hx hy n _ _

/-- Two vectors that differ in undefined bits alone. -/
structure Agv (x x' a : V) : Prop where
  fa : Ag x.a x'.a a.a
  fb : Ag x.b x'.b a.b
  fc : Ag x.c x'.c a.c
  fd : Ag x.d x'.d a.d
theorem Agv.refl (x a : V) : Agv x x a := ⟨rfl, rfl, rfl, rfl⟩
theorem Agv.without {x x' a : V} (h : Agv x x' a) : x.without a = x'.without a := ext4 h.fa h.fb h.fc h.fd
theorem Agv.or {x x' a : V} (h : Agv x x' a) : x.or a = x'.or a := ext4 h.fa.or h.fb.or h.fc.or h.fd.or
theorem each_ok {f : BitVec 32 → BitVec 32 → BitVec 32 → BitVec 32 → BitVec 32} (hf : LaneOk f) (width : Nat) {x x' a y y' b : V} (hx : Agv x x' a) (hy : Agv y y' b) : Vb.each width x a y b f = Vb.each width x' a y' b f := by
  simp only [Vb.each, Vb.eachWord, lanesFrom_ok hf width hx.fa hy.fa, lanesFrom_ok hf width hx.fb hy.fb, lanesFrom_ok hf width hx.fc hy.fc, lanesFrom_ok hf width hx.fd hy.fd]

theorem unOp_ok (op from_ to off : Int) {x x' a : V} (h : Agv x x' a) : Vb.unOp op ⟨x, a, from_, to, off⟩ = Vb.unOp op ⟨x', a, from_, to, off⟩ := by
  have hz := Agv.refl V.zero V.zero
  have h1 : Vb.Unary.nz ⟨x, a, from_, to, off⟩ = Vb.Unary.nz ⟨x', a, from_, to, off⟩ := by simp only [Vb.Unary.nz, h.without]
  have h2 : Vb.Unary.left ⟨x, a, from_, to, off⟩ = Vb.Unary.left ⟨x', a, from_, to, off⟩ := by
    have h3 : x.a &&& ~~~a.a = x'.a &&& ~~~a.a := h.fa
    simp only [Vb.Unary.left, h3]
  have h3 : ∀ w, Vb.Unary.lanes ⟨x, a, from_, to, off⟩ w = Vb.Unary.lanes ⟨x', a, from_, to, off⟩ w := fun w => each_ok unLane_ok w h hz
  unfold Vb.unOp
  rw [h1, h2, h3, h3, h3]
  rfl

theorem or_ag {m x x' a : BitVec 32} (h : Ag x x' a) : (m &&& ~~~x) ||| a = (m &&& ~~~x') ||| a := by
  apply BitVec.eq_of_getLsbD_eq; intro i hi
  simp only [BitVec.getLsbD_and, BitVec.getLsbD_or, BitVec.getLsbD_not, hi, decide_true, Bool.true_and]
  rcases h.bit i hi with p | p
  · simp [p]
  · rw [p]
theorem vnot_ag {m x x' a : V} (h : Agv x x' a) : (m.without x).or a = (m.without x').or a := ext4 (or_ag h.fa) (or_ag h.fb) (or_ag h.fc) (or_ag h.fd)
theorem shift_ag {y y' b : BitVec 32} (h : Ag y y' b) (hb : b &&& 31#32 = 0#32) : y.toNat % 32 = y'.toNat % 32 := by
  have e : y &&& 31#32 = y' &&& 31#32 := by
    apply BitVec.eq_of_getLsbD_eq; intro i hi
    have hbi := congrArg (fun z => z.getLsbD i) hb
    simp only [BitVec.getLsbD_and, BitVec.getLsbD_zero] at hbi ⊢
    rcases h.bit i hi with p | p
    · rw [p] at hbi
      simp only [Bool.true_and] at hbi
      rw [hbi]; simp
    · rw [p]
  have k : ∀ z : BitVec 32, z.toNat % 32 = (z &&& 31#32).toNat := fun z => by
    rw [BitVec.toNat_and]
    show z.toNat % 2 ^ 5 = z.toNat &&& (2 ^ 5 - 1)
    rw [Nat.and_two_pow_sub_one_eq_mod]
  rw [k, k, e]
theorem some_or (z u v : BitVec 32) (h : z ≠ 0#32) : u ||| Vb.some z = v ||| Vb.some z := by
  have e : Vb.some z = BitVec.allOnes 32 := by
    have h' : ¬ z = 0 := h
    unfold Vb.some
    rw [if_neg h']; rfl
  rw [e]
  apply BitVec.eq_of_getLsbD_eq; intro i hi
  rw [BitVec.getLsbD_or, BitVec.getLsbD_or, BitVec.getLsbD_allOnes]
  simp [hi]
theorem nib_ag {y y' b : BitVec 32} (h : Ag y y' b) (k : Nat) (hb : b >>> k &&& 15#32 = 0#32) : y >>> k &&& 15#32 = y' >>> k &&& 15#32 := by
  apply BitVec.eq_of_getLsbD_eq; intro i hi
  have hbi := congrArg (fun z => z.getLsbD i) hb
  simp only [BitVec.getLsbD_and, BitVec.getLsbD_ushiftRight, BitVec.getLsbD_zero] at hbi ⊢
  by_cases h2 : k + i < 32
  · rcases h.bit _ h2 with p | p
    · rw [p] at hbi
      simp only [Bool.true_and] at hbi
      rw [hbi]; simp
    · rw [p]
  · rw [BitVec.getLsbD_of_ge y _ (by omega), BitVec.getLsbD_of_ge y' _ (by omega)]
theorem Agv.get {x x' a : V} (h : Agv x x' a) (i : Nat) : Ag (x.get i) (x'.get i) (a.get i) := by
  unfold V.get
  repeat' split
  · exact h.fa
  · exact h.fb
  · exact h.fc
  · exact h.fd
theorem shufByte_ok {a y y' b : V} (h : Agv y y' b) (i : Nat) : Vb.shufByte a y b i = Vb.shufByte a y' b i := by
  unfold Vb.shufByte
  by_cases hb : (b.get (i / 4)) >>> (8 * (i % 4)) &&& 15 = 0#32
  · have := nib_ag (h.get (i / 4)) (8 * (i % 4)) hb
    simp only [hb]
    have e : (y.get (i / 4)) >>> (8 * (i % 4)) &&& 15 = (y'.get (i / 4)) >>> (8 * (i % 4)) &&& 15 := this
    rw [e]
  · have hb' : (b.get (i / 4)) >>> (8 * (i % 4)) &&& 15 ≠ 0 := hb
    simp only [if_pos hb']
theorem binOp_ok (op ty off : Int) {x x' a y y' b : V} (hx : Agv x x' a) (hy : Agv y y' b) : Vb.binOp ⟨op, ty, off, x, a, y, b⟩ = Vb.binOp ⟨op, ty, off, x', a, y', b⟩ := by
  have l : ∀ w f, LaneOk f → Vb.Binary.lane ⟨op, ty, off, x, a, y, b⟩ w f = Vb.Binary.lane ⟨op, ty, off, x', a, y', b⟩ w f := fun w f hf => each_ok hf w hx hy
  have h1 : Vb.Binary.and ⟨op, ty, off, x, a, y, b⟩ = Vb.Binary.and ⟨op, ty, off, x', a, y', b⟩ := by simp only [Vb.Binary.and, hx.or, hy.or]
  have h2 : Vb.Binary.or ⟨op, ty, off, x, a, y, b⟩ = Vb.Binary.or ⟨op, ty, off, x', a, y', b⟩ := by simp only [Vb.Binary.or, vnot_ag hx, vnot_ag hy]
  have h3 : Vb.Binary.shift ⟨op, ty, off, x, a, y, b⟩ = Vb.Binary.shift ⟨op, ty, off, x', a, y', b⟩ := by
    unfold Vb.Binary.shift
    by_cases hb : b.a &&& 31#32 = 0#32
    · simp only [shift_ag hy.fa hb]
    · simp only
      congr 1
      exact some_or _ _ _ hb
  have h4 : Vb.Binary.same ⟨op, ty, off, x, a, y, b⟩ = Vb.Binary.same ⟨op, ty, off, x', a, y', b⟩ := by
    have e : (x.xor y).without (a.or b) = (x'.xor y').without (a.or b) := ext4 (eq_bits hx.fa hy.fa) (eq_bits hx.fb hy.fb) (eq_bits hx.fc hy.fc) (eq_bits hx.fd hy.fd)
    simp only [Vb.Binary.same, e]
  have h5 : Vb.Binary.less ⟨op, ty, off, x, a, y, b⟩ = Vb.Binary.less ⟨op, ty, off, x', a, y', b⟩ := by
    have e1 : ∀ z, Vb.least (x.a ^^^ z) a.a = Vb.least (x'.a ^^^ z) a.a := fun z => hx.fa.xor z
    have e2 : ∀ z, Vb.least (y.a ^^^ z) b.a = Vb.least (y'.a ^^^ z) b.a := fun z => hy.fa.xor z
    have e3 : ∀ z, Vb.greatest (x.a ^^^ z) a.a = Vb.greatest (x'.a ^^^ z) a.a := fun z => (hx.fa.xor z).or
    have e4 : ∀ z, Vb.greatest (y.a ^^^ z) b.a = Vb.greatest (y'.a ^^^ z) b.a := fun z => (hy.fa.xor z).or
    simp only [Vb.Binary.less, e1, e2, e3, e4]
  have h6 : Vb.Binary.shuf ⟨op, ty, off, x, a, y, b⟩ = Vb.Binary.shuf ⟨op, ty, off, x', a, y', b⟩ := by
    simp only [Vb.Binary.shuf, V.gen, Vb.shufWord, shufByte_ok hy]
  unfold Vb.binOp
  simp only [h1, h2, h3, h4, h5, h6, l _ _ added_ok, l _ _ subtracted_ok, l _ _ equal_ok]
  rfl
/-- A filling differs in undefined bits alone, and is a value of its type. -/
theorem fill_ag {ty : Int} {x a b : V} (h : Vb.is ty x = true) : Agv x (Vb.fill ty x a b) a := by
  obtain ⟨_, h1, h2, h3, h4⟩ := is_parts h
  have w : ∀ m x a b : BitVec 32, x &&& ~~~m = 0#32 → Ag x (((x &&& ~~~a) ||| (b &&& a)) &&& m) a := by
    intro m x a b hm
    apply Ag.of; intro i hi
    have hb := congrArg (fun z => z.getLsbD i) hm
    simp only [BitVec.getLsbD_and, BitVec.getLsbD_or, BitVec.getLsbD_not, hi, decide_true, Bool.true_and, BitVec.getLsbD_zero] at hb ⊢
    cases ha : a.getLsbD i <;> cases hmm : m.getLsbD i <;> simp_all
  exact ⟨w _ _ _ _ h1, w _ _ _ _ h2, w _ _ _ _ h3, w _ _ _ _ h4⟩
theorem fill_is {ty : Int} {x a b : V} (h : Vb.isType ty = true) : Vb.is ty (Vb.fill ty x a b) = true := by
  have w : ∀ m u : BitVec 32, (u &&& m) &&& ~~~m = 0#32 := by
    intro m u
    apply BitVec.eq_of_getLsbD_eq; intro i hi
    simp only [BitVec.getLsbD_and, BitVec.getLsbD_not, hi, decide_true, Bool.true_and, BitVec.getLsbD_zero]
    cases m.getLsbD i <;> simp
  exact is_mk h (w _ _) (w _ _) (w _ _) (w _ _)
end Go.Proofs.YtboknfppecgjmaaGreat
