/- VbitsBinary: for every input the law returns true; its arguments read as they did. -/
import Derived.Test.YtboknfppecgjmaaGreatPlainC
import Derived.Test.YtboknfppecgjmaaGreatRefUn
import Derived.Test.YtboknfppecgjmaaGreatRefShuf
import Derived.Test.YtboknfppecgjmaaGreatBin
import Derived.Test.YtboknfppecgjmaaGreatRefBinB
import Derived.Test.YtboknfppecgjmaaGreatRefBinP
import Derived.Test.YtboknfppecgjmaaGreatExSpec
import Derived.Test.YtboknfppecgjmaaGreatCommutes
import Derived.Test.YtboknfppecgjmaaGreatRows
import Derived.Test.YtboknfppecgjmaaGreatOpen
import Derived.Test.YtboknfppecgjmaaGreatShut
import Derived.Test.YtboknfppecgjmaaGreatSaneHid
import Derived.WalkKit
import Derived.ProofKit
import Derived.OpenShut
namespace Go.Proofs.YtboknfppecgjmaaGreat
set_option linter.unusedVariables false
set_option linter.unusedSimpArgs false

/-- Two words that differ in undefined bits alone. -/
def Ag (x x' a : BitVec 32) : Prop := x &&& ~~~a = x' &&& ~~~a
theorem Ag.or {x x' a : BitVec 32} (h : Ag x x' a) : x ||| a = x' ||| a := by
  apply BitVec.eq_of_getLsbD_eq; intro i hi
  have hb := congrArg (fun z => z.getLsbD i) h
  simp only [BitVec.getLsbD_and, BitVec.getLsbD_or, BitVec.getLsbD_not, hi, decide_true, Bool.true_and] at hb ⊢
  cases ha : a.getLsbD i <;> simp_all
theorem Ag.bit {x x' a : BitVec 32} (h : Ag x x' a) (i : Nat) (hi : i < 32) : a.getLsbD i = true ∨ x.getLsbD i = x'.getLsbD i := by
  have hb := congrArg (fun z => z.getLsbD i) h
  simp only [BitVec.getLsbD_and, BitVec.getLsbD_not, hi, decide_true, Bool.true_and] at hb
  cases ha : a.getLsbD i <;> simp_all
theorem Ag.of {x x' a : BitVec 32} (h : ∀ i, i < 32 → a.getLsbD i = true ∨ x.getLsbD i = x'.getLsbD i) : Ag x x' a := by
  apply BitVec.eq_of_getLsbD_eq; intro i hi
  simp only [BitVec.getLsbD_and, BitVec.getLsbD_not, hi, decide_true, Bool.true_and]
  rcases h i hi with h | h <;> simp [h]
theorem Ag.xor {x x' a : BitVec 32} (h : Ag x x' a) (z : BitVec 32) : Ag (x ^^^ z) (x' ^^^ z) a := by
  apply Ag.of; intro i hi
  rcases h.bit i hi with h | h
  · exact .inl h
  · exact .inr (by simp [h])
theorem Ag.lane {x x' a : BitVec 32} (h : Ag x x' a) (m : BitVec 32) (k : Nat) : Ag ((x &&& m) >>> k) ((x' &&& m) >>> k) ((a &&& m) >>> k) := by
  apply Ag.of; intro i hi
  simp only [BitVec.getLsbD_ushiftRight, BitVec.getLsbD_and]
  by_cases h2 : k + i < 32
  · rcases h.bit _ h2 with h | h
    · cases hm : m.getLsbD (k + i)
      · right; simp
      · left; simp [h]
    · right; simp [h]
  · right
    rw [BitVec.getLsbD_of_ge x _ (by omega), BitVec.getLsbD_of_ge x' _ (by omega)]
theorem Ag.refl (x a : BitVec 32) : Ag x x a := rfl

def LaneOk (f : BitVec 32 → BitVec 32 → BitVec 32 → BitVec 32 → BitVec 32) : Prop := ∀ x x' a y y' b, Ag x x' a → Ag y y' b → f x a y b = f x' a y' b
theorem added_ok : LaneOk Vb.added := by
  intro x x' a y y' b hx hy
  have h1 : x &&& ~~~a = x' &&& ~~~a := hx
  have h2 : y &&& ~~~b = y' &&& ~~~b := hy
  unfold Vb.added
  rw [h1, h2, hx.or, hy.or]
theorem subtracted_ok : LaneOk Vb.subtracted := by
  intro x x' a y y' b hx hy
  have h1 : x &&& ~~~a = x' &&& ~~~a := hx
  have h2 : y &&& ~~~b = y' &&& ~~~b := hy
  unfold Vb.subtracted
  rw [h1, h2, hx.or, hy.or]
theorem eq_bits {x x' a y y' b : BitVec 32} (hx : Ag x x' a) (hy : Ag y y' b) : (x ^^^ y) &&& ~~~(a ||| b) = (x' ^^^ y') &&& ~~~(a ||| b) := by
  apply BitVec.eq_of_getLsbD_eq; intro i hi
  have p := hx.bit i hi
  have q := hy.bit i hi
  simp only [BitVec.getLsbD_and, BitVec.getLsbD_or, BitVec.getLsbD_xor, BitVec.getLsbD_not, hi, decide_true, Bool.true_and]
  rcases p with p | p
  · simp [p]
  · rcases q with q | q
    · simp [q]
    · rw [p, q]
theorem equal_ok : LaneOk Vb.equal := by
  intro x x' a y y' b hx hy
  unfold Vb.equal
  rw [eq_bits hx hy]
theorem unLane_ok : LaneOk Vb.unLane := by
  intro x x' a y y' b hx _
  have h1 : x &&& ~~~a = x' &&& ~~~a := hx
  unfold Vb.unLane
  rw [h1]
theorem lanesFrom_ok {f : BitVec 32 → BitVec 32 → BitVec 32 → BitVec 32 → BitVec 32} (hf : LaneOk f) (width : Nat) {x x' a y y' b : BitVec 32} (hx : Ag x x' a) (hy : Ag y y' b) :
    ∀ (n at_ : Nat) (acc : BitVec 32), Vb.lanesFrom width f x a y b n at_ acc = Vb.lanesFrom width f x' a y' b n at_ acc
  | 0, _, _ => rfl
  | n + 1, at_, acc => by
    simp only [Vb.lanesFrom]
    rw [hf _ _ _ _ _ _ (hx.lane (((1#32 <<< width) - 1#32) <<< at_) at_) (hy.lane (((1#32 <<< width) - 1#32) <<< at_) at_)]
    exact lanesFrom_ok hf width hx hy n _ _

/-- Two vectors that differ in undefined bits alone. -/
structure Agv (x x' a : V) : Prop where
  fa : Ag x.a x'.a a.a
  fb : Ag x.b x'.b a.b
  fc : Ag x.c x'.c a.c
  fd : Ag x.d x'.d a.d
theorem Agv.refl (x a : V) : Agv x x a := ⟨rfl, rfl, rfl, rfl⟩
theorem Agv.without {x x' a : V} (h : Agv x x' a) : x.without a = x'.without a := ext4 h.fa h.fb h.fc h.fd
theorem Agv.or {x x' a : V} (h : Agv x x' a) : x.or a = x'.or a := ext4 h.fa.or h.fb.or h.fc.or h.fd.or
theorem each_ok {f : BitVec 32 → BitVec 32 → BitVec 32 → BitVec 32 → BitVec 32} (hf : LaneOk f) (width : Nat) {x x' a y y' b : V} (hx : Agv x x' a) (hy : Agv y y' b) : Vb.each width x a y b f = Vb.each width x' a y' b f := by
  simp only [Vb.each, Vb.eachWord, lanesFrom_ok hf width hx.fa hy.fa, lanesFrom_ok hf width hx.fb hy.fb, lanesFrom_ok hf width hx.fc hy.fc, lanesFrom_ok hf width hx.fd hy.fd]

theorem unOp_ok (op from_ to off : Int) {x x' a : V} (h : Agv x x' a) : Vb.unOp op ⟨x, a, from_, to, off⟩ = Vb.unOp op ⟨x', a, from_, to, off⟩ := by
  have hz := Agv.refl V.zero V.zero
  have h1 : Vb.Unary.nz ⟨x, a, from_, to, off⟩ = Vb.Unary.nz ⟨x', a, from_, to, off⟩ := by simp only [Vb.Unary.nz, h.without]
  have h2 : Vb.Unary.left ⟨x, a, from_, to, off⟩ = Vb.Unary.left ⟨x', a, from_, to, off⟩ := by
    have h3 : x.a &&& ~~~a.a = x'.a &&& ~~~a.a := h.fa
    simp only [Vb.Unary.left, h3]
  have h3 : ∀ w, Vb.Unary.lanes ⟨x, a, from_, to, off⟩ w = Vb.Unary.lanes ⟨x', a, from_, to, off⟩ w := fun w => each_ok unLane_ok w h hz
  unfold Vb.unOp
  rw [h1, h2, h3, h3, h3]
  rfl

theorem or_ag {m x x' a : BitVec 32} (h : Ag x x' a) : (m &&& ~~~x) ||| a = (m &&& ~~~x') ||| a := by
  apply BitVec.eq_of_getLsbD_eq; intro i hi
  simp only [BitVec.getLsbD_and, BitVec.getLsbD_or, BitVec.getLsbD_not, hi, decide_true, Bool.true_and]
  rcases h.bit i hi with p | p
  · simp [p]
  · rw [p]
theorem vnot_ag {m x x' a : V} (h : Agv x x' a) : (m.without x).or a = (m.without x').or a := ext4 (or_ag h.fa) (or_ag h.fb) (or_ag h.fc) (or_ag h.fd)
theorem shift_ag {y y' b : BitVec 32} (h : Ag y y' b) (hb : b &&& 31#32 = 0#32) : y.toNat % 32 = y'.toNat % 32 := by
  have e : y &&& 31#32 = y' &&& 31#32 := by
    apply BitVec.eq_of_getLsbD_eq; intro i hi
    have hbi := congrArg (fun z => z.getLsbD i) hb
    simp only [BitVec.getLsbD_and, BitVec.getLsbD_zero] at hbi ⊢
    rcases h.bit i hi with p | p
    · rw [p] at hbi
      simp only [Bool.true_and] at hbi
      rw [hbi]; simp
    · rw [p]
  have k : ∀ z : BitVec 32, z.toNat % 32 = (z &&& 31#32).toNat := fun z => by
    rw [BitVec.toNat_and]
    show z.toNat % 2 ^ 5 = z.toNat &&& (2 ^ 5 - 1)
    rw [Nat.and_two_pow_sub_one_eq_mod]
  rw [k, k, e]
theorem some_or (z u v : BitVec 32) (h : z ≠ 0#32) : u ||| Vb.some z = v ||| Vb.some z := by
  have e : Vb.some z = BitVec.allOnes 32 := by
    have h' : ¬ z = 0 := h
    unfold Vb.some
    rw [if_neg h']; rfl
  rw [e]
  apply BitVec.eq_of_getLsbD_eq; intro i hi
  rw [BitVec.getLsbD_or, BitVec.getLsbD_or, BitVec.getLsbD_allOnes]
  simp [hi]
theorem nib_ag {y y' b : BitVec 32} (h : Ag y y' b) (k : Nat) (hb : b >>> k &&& 15#32 = 0#32) : y >>> k &&& 15#32 = y' >>> k &&& 15#32 := by
  apply BitVec.eq_of_getLsbD_eq; intro i hi
  have hbi := congrArg (fun z => z.getLsbD i) hb
  simp only [BitVec.getLsbD_and, BitVec.getLsbD_ushiftRight, BitVec.getLsbD_zero] at hbi ⊢
  by_cases h2 : k + i < 32
  · rcases h.bit _ h2 with p | p
    · rw [p] at hbi
      simp only [Bool.true_and] at hbi
      rw [hbi]; simp
    · rw [p]
  · rw [BitVec.getLsbD_of_ge y _ (by omega), BitVec.getLsbD_of_ge y' _ (by omega)]
theorem Agv.get {x x' a : V} (h : Agv x x' a) (i : Nat) : Ag (x.get i) (x'.get i) (a.get i) := by
  unfold V.get
  repeat' split
  · exact h.fa
  · exact h.fb
  · exact h.fc
  · exact h.fd
theorem shufByte_ok {a y y' b : V} (h : Agv y y' b) (i : Nat) : Vb.shufByte a y b i = Vb.shufByte a y' b i := by
  unfold Vb.shufByte
  by_cases hb : (b.get (i / 4)) >>> (8 * (i % 4)) &&& 15 = 0#32
  · have := nib_ag (h.get (i / 4)) (8 * (i % 4)) hb
    simp only [hb]
    have e : (y.get (i / 4)) >>> (8 * (i % 4)) &&& 15 = (y'.get (i / 4)) >>> (8 * (i % 4)) &&& 15 := this
    rw [e]
  · have hb' : (b.get (i / 4)) >>> (8 * (i % 4)) &&& 15 ≠ 0 := hb
    simp only [if_pos hb']
theorem binOp_ok (op ty off : Int) {x x' a y y' b : V} (hx : Agv x x' a) (hy : Agv y y' b) : Vb.binOp ⟨op, ty, off, x, a, y, b⟩ = Vb.binOp ⟨op, ty, off, x', a, y', b⟩ := by
  have l : ∀ w f, LaneOk f → Vb.Binary.lane ⟨op, ty, off, x, a, y, b⟩ w f = Vb.Binary.lane ⟨op, ty, off, x', a, y', b⟩ w f := fun w f hf => each_ok hf w hx hy
  have h1 : Vb.Binary.and ⟨op, ty, off, x, a, y, b⟩ = Vb.Binary.and ⟨op, ty, off, x', a, y', b⟩ := by simp only [Vb.Binary.and, hx.or, hy.or]
  have h2 : Vb.Binary.or ⟨op, ty, off, x, a, y, b⟩ = Vb.Binary.or ⟨op, ty, off, x', a, y', b⟩ := by simp only [Vb.Binary.or, vnot_ag hx, vnot_ag hy]
  have h3 : Vb.Binary.shift ⟨op, ty, off, x, a, y, b⟩ = Vb.Binary.shift ⟨op, ty, off, x', a, y', b⟩ := by
    unfold Vb.Binary.shift
    by_cases hb : b.a &&& 31#32 = 0#32
    · simp only [shift_ag hy.fa hb]
    · simp only
      congr 1
      exact some_or _ _ _ hb
  have h4 : Vb.Binary.same ⟨op, ty, off, x, a, y, b⟩ = Vb.Binary.same ⟨op, ty, off, x', a, y', b⟩ := by
    have e : (x.xor y).without (a.or b) = (x'.xor y').without (a.or b) := ext4 (eq_bits hx.fa hy.fa) (eq_bits hx.fb hy.fb) (eq_bits hx.fc hy.fc) (eq_bits hx.fd hy.fd)
    simp only [Vb.Binary.same, e]
  have h5 : Vb.Binary.less ⟨op, ty, off, x, a, y, b⟩ = Vb.Binary.less ⟨op, ty, off, x', a, y', b⟩ := by
    have e1 : ∀ z, Vb.least (x.a ^^^ z) a.a = Vb.least (x'.a ^^^ z) a.a := fun z => hx.fa.xor z
    have e2 : ∀ z, Vb.least (y.a ^^^ z) b.a = Vb.least (y'.a ^^^ z) b.a := fun z => hy.fa.xor z
    have e3 : ∀ z, Vb.greatest (x.a ^^^ z) a.a = Vb.greatest (x'.a ^^^ z) a.a := fun z => (hx.fa.xor z).or
    have e4 : ∀ z, Vb.greatest (y.a ^^^ z) b.a = Vb.greatest (y'.a ^^^ z) b.a := fun z => (hy.fa.xor z).or
    simp only [Vb.Binary.less, e1, e2, e3, e4]
  have h6 : Vb.Binary.shuf ⟨op, ty, off, x, a, y, b⟩ = Vb.Binary.shuf ⟨op, ty, off, x', a, y', b⟩ := by
    simp only [Vb.Binary.shuf, V.gen, Vb.shufWord, shufByte_ok hy]
  unfold Vb.binOp
  simp only [h1, h2, h3, h4, h5, h6, l _ _ added_ok, l _ _ subtracted_ok, l _ _ equal_ok]
  rfl
/-- A filling differs in undefined bits alone, and is a value of its type. -/
theorem fill_ag {ty : Int} {x a b : V} (h : Vb.is ty x = true) : Agv x (Vb.fill ty x a b) a := by
  obtain ⟨_, h1, h2, h3, h4⟩ := is_parts h
  have w : ∀ m x a b : BitVec 32, x &&& ~~~m = 0#32 → Ag x (((x &&& ~~~a) ||| (b &&& a)) &&& m) a := by
    intro m x a b hm
    apply Ag.of; intro i hi
    have hb := congrArg (fun z => z.getLsbD i) hm
    simp only [BitVec.getLsbD_and, BitVec.getLsbD_or, BitVec.getLsbD_not, hi, decide_true, Bool.true_and, BitVec.getLsbD_zero] at hb ⊢
    cases ha : a.getLsbD i <;> cases hmm : m.getLsbD i <;> simp_all
  exact ⟨w _ _ _ _ h1, w _ _ _ _ h2, w _ _ _ _ h3, w _ _ _ _ h4⟩
theorem fill_is {ty : Int} {x a b : V} (h : Vb.isType ty = true) : Vb.is ty (Vb.fill ty x a b) = true := by
  have w : ∀ m u : BitVec 32, (u &&& m) &&& ~~~m = 0#32 := by
    intro m u
    apply BitVec.eq_of_getLsbD_eq; intro i hi
    simp only [BitVec.getLsbD_and, BitVec.getLsbD_not, hi, decide_true, Bool.true_and, BitVec.getLsbD_zero]
    cases m.getLsbD i <;> simp
  exact is_mk h (w _ _) (w _ _) (w _ _) (w _ _)
end Go.Proofs.YtboknfppecgjmaaGreat
namespace Go.Proofs.YtboknfppecgjmaaGreat
set_option linter.unusedVariables false
set_option linter.unusedSimpArgs false
def LaneZ (f : BitVec 32 → BitVec 32 → BitVec 32 → BitVec 32 → BitVec 32) : Prop := ∀ x y, f x 0#32 y 0#32 = 0#32
theorem some_zero : Vb.some 0#32 = 0#32 := by decide
theorem added_z : LaneZ Vb.added := by
  intro x y
  unfold Vb.added
  simp [bv_all]
theorem subtracted_z : LaneZ Vb.subtracted := by
  intro x y
  unfold Vb.subtracted
  simp [bv_all]
theorem equal_z : LaneZ Vb.equal := by
  intro x y
  unfold Vb.equal
  split
  · rw [BitVec.or_self]; exact some_zero
  · rfl
theorem unLane_z : LaneZ Vb.unLane := by
  intro x y
  unfold Vb.unLane
  split
  · exact some_zero
  · rfl
theorem lanesFrom_z {f : BitVec 32 → BitVec 32 → BitVec 32 → BitVec 32 → BitVec 32} (hf : LaneZ f) (width : Nat) (x y : BitVec 32) : ∀ (n at_ : Nat) (acc : BitVec 32), Vb.lanesFrom width f x 0#32 y 0#32 n at_ acc = acc
  | 0, _, _ => rfl
  | n + 1, at_, acc => by
    simp only [Vb.lanesFrom]
    have e : ∀ m : BitVec 32, (0#32 &&& m) >>> at_ = 0#32 := fun m => by simp
    rw [e, hf]
    have e2 : ∀ m : BitVec 32, acc ||| ((0#32 <<< at_) &&& m) = acc := fun m => by simp
    rw [e2]
    exact lanesFrom_z hf width x y n _ _
theorem each_z {f : BitVec 32 → BitVec 32 → BitVec 32 → BitVec 32 → BitVec 32} (hf : LaneZ f) (width : Nat) (x y : V) : Vb.each width x V.zero y V.zero f = V.zero := by
  simp only [Vb.each, Vb.eachWord, V.zero, lanesFrom_z hf]
  rfl
theorem get_z (i : Nat) : V.zero.get i = 0#32 := by
  unfold V.get V.zero
  repeat' split
  all_goals rfl
theorem mask_z : ∀ n, Vb.maskTo V.zero n = 0#32
  | 0 => rfl
  | n + 1 => by
    simp only [Vb.maskTo, get_z, mask_z n]
    simp
theorem unOp_z (op from_ to off : Int) (x : V) : Vb.unOp op ⟨x, V.zero, from_, to, off⟩ = V.zero := by
  have l : ∀ w, Vb.Unary.lanes ⟨x, V.zero, from_, to, off⟩ w = V.zero := fun w => each_z unLane_z w x V.zero
  have h1 : Vb.Unary.not ⟨x, V.zero, from_, to, off⟩ = V.zero := rfl
  have h2 : Vb.Unary.same ⟨x, V.zero, from_, to, off⟩ = V.zero := by simp [Vb.Unary.same, V.and, V.map2, V.zero]
  have h3 : Vb.Unary.sext ⟨x, V.zero, from_, to, off⟩ = V.zero := by simp [Vb.Unary.sext, V.zero]
  have h4 : Vb.Unary.nz ⟨x, V.zero, from_, to, off⟩ = V.zero := by simp [Vb.Unary.nz, V.isZero, Vb.one]
  have h5 : Vb.Unary.fill ⟨x, V.zero, from_, to, off⟩ = V.zero := by simp [Vb.Unary.fill, V.zero]
  have h6 : Vb.Unary.left ⟨x, V.zero, from_, to, off⟩ = V.zero := by simp [Vb.Unary.left, V.zero, V.word, Vb.left]
  have h7 : Vb.Unary.splat ⟨x, V.zero, from_, to, off⟩ = V.zero := rfl
  have h8 : Vb.Unary.word ⟨x, V.zero, from_, to, off⟩ = V.zero := by simp only [Vb.Unary.word, get_z]; rfl
  have h9 : Vb.Unary.mask ⟨x, V.zero, from_, to, off⟩ = V.zero := by simp only [Vb.Unary.mask, mask_z]; rfl
  unfold Vb.unOp
  simp only [h1, h2, h3, h4, h5, h6, h7, h8, h9, l, ite_self]
theorem set_z (i : Nat) : V.zero.set i 0#32 = V.zero := by
  simp [V.set, V.zero]
theorem binOp_z (op ty off : Int) (x y : V) : Vb.binOp ⟨op, ty, off, x, V.zero, y, V.zero⟩ = V.zero := by
  have l : ∀ w f, LaneZ f → Vb.Binary.lane ⟨op, ty, off, x, V.zero, y, V.zero⟩ w f = V.zero := fun w f hf => each_z hf w x y
  have h1 : Vb.Binary.mul ⟨op, ty, off, x, V.zero, y, V.zero⟩ = V.zero := by simp [Vb.Binary.mul, V.zero, V.word, Vb.left]
  have h2 : Vb.Binary.any ⟨op, ty, off, x, V.zero, y, V.zero⟩ = V.zero := by simp [Vb.Binary.any, V.zero, V.word, Vb.some]
  have h3 : Vb.Binary.and ⟨op, ty, off, x, V.zero, y, V.zero⟩ = V.zero := by simp [Vb.Binary.and, V.and, V.or, V.map2, V.zero]
  have h4 : Vb.Binary.or ⟨op, ty, off, x, V.zero, y, V.zero⟩ = V.zero := by simp [Vb.Binary.or, V.and, V.or, V.without, V.map2, V.zero]
  have h5 : Vb.Binary.xor ⟨op, ty, off, x, V.zero, y, V.zero⟩ = V.zero := by simp [Vb.Binary.xor, V.or, V.map2, V.zero]
  have h6 : Vb.Binary.shift ⟨op, ty, off, x, V.zero, y, V.zero⟩ = V.zero := by
    simp [Vb.Binary.shift, V.zero, V.word, Vb.some]
  have h7 : Vb.Binary.same ⟨op, ty, off, x, V.zero, y, V.zero⟩ = V.zero := by simp [Vb.Binary.same, V.or, V.map2, V.zero, V.isZero, Vb.one]
  have h8 : Vb.Binary.less ⟨op, ty, off, x, V.zero, y, V.zero⟩ = V.zero := by
    simp [Vb.Binary.less, V.zero, Vb.least, Vb.greatest, Vb.one, bv_all]
  have h9 : Vb.Binary.shuf ⟨op, ty, off, x, V.zero, y, V.zero⟩ = V.zero := by
    have e : ∀ i, Vb.shufByte V.zero y V.zero i = 0#32 := fun i => by simp [Vb.shufByte, get_z]
    simp only [Vb.Binary.shuf, V.gen, Vb.shufWord, e]
    rfl
  have h10 : Vb.Binary.put ⟨op, ty, off, x, V.zero, y, V.zero⟩ = V.zero := set_z _
  unfold Vb.binOp
  simp only [h1, h2, h3, h4, h5, h6, h7, h8, h9, h10, l _ _ added_z, l _ _ subtracted_z, l _ _ equal_z, ite_self]
theorem is_zero {ty : Int} (h : Vb.isType ty = true) : Vb.is ty V.zero = true := is_mk h (by simp [V.zero]) (by simp [V.zero]) (by simp [V.zero]) (by simp [V.zero])
theorem call_z (op : Int) (n : Nat) : (Vb.call op (List.replicate n 0#32)).1 = 0#32 := by
  have e : (List.replicate n 0#32).all (· == 0) = true := by simp
  unfold Vb.call
  rw [e]
  repeat' split
  all_goals first | rfl | (rename_i h; exact absurd rfl h)
theorem is_type {ty : Int} {x : V} (h : Vb.is ty x = true) : Vb.isType ty = true := (is_parts h).1
theorem un_fine {op from_ to off : Int} {x a : V} (h : Vb.isUn op from_ to off = true) (hx : Vb.is from_ x = true) (ha : Vb.is from_ a = true) : Vb.un op from_ to off x a = (Vb.unOp op ⟨x, a, from_, to, off⟩, 0) := by
  unfold Vb.un
  rw [h, hx, ha]
  rfl
theorem mux_fine {ty : Int} {c d x a y b : V} (h1 : Vb.is ty x = true) (h2 : Vb.is ty a = true) (h3 : Vb.is ty y = true) (h4 : Vb.is ty b = true) (h5 : Vb.is 1 c = true) (h6 : Vb.is 1 d = true) :
    Vb.mux ty c d x a y b = if d.a = 1#32 then (((x.xor y).or a).or b, 0) else if c.a = 1#32 then (a, 0) else (b, 0) := by
  unfold Vb.mux
  rw [h1, h2, h3, h4, h5, h6]
  simp
theorem is_one {x : V} (h : Vb.is 1 x = true) : x = V.zero ∨ x = V.word 1#32 := by
  obtain ⟨_, h1, h2, h3, h4⟩ := is_parts h
  obtain ⟨p, q, r, s⟩ := x
  simp only [ones_1] at h1 h2 h3 h4
  have e : ∀ z : BitVec 32, z &&& ~~~0#32 = 0#32 → z = 0#32 := fun z hz => (bv_all z).symm.trans hz
  obtain rfl := e q h2
  obtain rfl := e r h3
  obtain rfl := e s h4
  have hp : p.toNat < 2 := (bv_low1 p).1 (by simpa using h1)
  have : p = 0#32 ∨ p = 1#32 := by
    rcases (show p.toNat = 0 ∨ p.toNat = 1 by omega) with h | h
    · exact .inl (BitVec.eq_of_toNat_eq h)
    · exact .inr (BitVec.eq_of_toNat_eq h)
  rcases this with rfl | rfl
  · exact .inl rfl
  · exact .inr rfl
end Go.Proofs.YtboknfppecgjmaaGreat
namespace Go.Proofs.YtboknfppecgjmaaGreat
set_option linter.unusedVariables false
set_option linter.unusedSimpArgs false
/-- The width of lanes. -/
def Wide (s : Nat) : Prop := s = 8 ∨ s = 16 ∨ s = 32
abbrev mk (s : Nat) : BitVec 32 := 4294967295#32 >>> (32 - s)
theorem mk_bit {s : Nat} (hs : Wide s) (t : Nat) : (mk s).getLsbD t = decide (t < s) := by
  show ((BitVec.allOnes 32) >>> (32 - s)).getLsbD t = _
  rw [BitVec.getLsbD_ushiftRight, BitVec.getLsbD_allOnes]
  rcases hs with rfl | rfl | rfl <;> (apply decide_eq_decide.2; omega)
theorem mk_eq {s : Nat} (hs : Wide s) : (1#32 <<< s) - 1#32 = mk s := by
  rcases hs with rfl | rfl | rfl <;> decide
/-- The lane number k of a word. -/
def L (x : BitVec 32) (s k : Nat) : BitVec 32 := (x >>> (s * k)) &&& mk s
theorem lane_L (x : V) (s i : Nat) : Rf.lane x s i = L (x.get (i / (32 / s))) s (i % (32 / s)) := rfl
theorem lane_vb (x : BitVec 32) (s k : Nat) (hs : Wide s) (hk : s * k + s ≤ 32) : (x &&& (((1#32 <<< s) - 1#32) <<< (s * k))) >>> (s * k) = L x s k := by
  rw [mk_eq hs]
  unfold L
  apply BitVec.eq_of_getLsbD_eq; intro i hi
  simp only [BitVec.getLsbD_ushiftRight, BitVec.getLsbD_and, BitVec.getLsbD_shiftLeft, mk_bit hs]
  by_cases h : i < s
  · have h1 : s * k + i < 32 := by omega
    have h2 : ¬ s * k + i < s * k := by omega
    have h3 : s * k + i - s * k = i := by omega
    simp [h1, h2, h3, h]
  · have h3 : s * k + i - s * k = i := by omega
    simp [h3, h]
theorem set_get (x : V) (k j : Nat) (w : BitVec 32) (hk : k < 4) (hj : j < 4) : (x.set k w).get j = if j = k then w else x.get j := by
  rcases (show k = 0 ∨ k = 1 ∨ k = 2 ∨ k = 3 by omega) with rfl | rfl | rfl | rfl <;>
    rcases (show j = 0 ∨ j = 1 ∨ j = 2 ∨ j = 3 by omega) with rfl | rfl | rfl | rfl <;> rfl
theorem ext_bits {x y : V} (h : ∀ j, j < 4 → ∀ b, b < 32 → (x.get j).getLsbD b = (y.get j).getLsbD b) : x = y :=
  ext4 (BitVec.eq_of_getLsbD_eq fun i hi => h 0 (by omega) i hi) (BitVec.eq_of_getLsbD_eq fun i hi => h 1 (by omega) i hi)
    (BitVec.eq_of_getLsbD_eq fun i hi => h 2 (by omega) i hi) (BitVec.eq_of_getLsbD_eq fun i hi => h 3 (by omega) i hi)
theorem setLane_bit (o : V) (s i : Nat) (v : BitVec 32) (hs : Wide s) (hi : i < 128 / s) (j b : Nat) (hj : j < 4) (hb : b < 32) :
    ((Rf.setLane o s i v).get j).getLsbD b = if j * (32 / s) + b / s = i then v.getLsbD (b % s) else (o.get j).getLsbD b := by
  unfold Rf.setLane
  have hk : i / (32 / s) < 4 := by rcases hs with rfl | rfl | rfl <;> omega
  rw [set_get _ _ _ _ hk hj]
  by_cases h1 : j = i / (32 / s)
  · rw [if_pos h1, ← h1]
    simp only [BitVec.getLsbD_or, BitVec.getLsbD_and, BitVec.getLsbD_not, BitVec.getLsbD_shiftLeft, mk_bit hs, hb, decide_true, Bool.true_and]
    by_cases h2 : b / s = i % (32 / s)
    · have h3 : j * (32 / s) + b / s = i := by rcases hs with rfl | rfl | rfl <;> omega
      have h4 : ¬ b < s * (i % (32 / s)) := by rcases hs with rfl | rfl | rfl <;> omega
      have h5 : b - s * (i % (32 / s)) = b % s := by rcases hs with rfl | rfl | rfl <;> omega
      have h6 : b % s < s := Nat.mod_lt _ (by rcases hs with rfl | rfl | rfl <;> omega)
      rw [if_pos h3, h5]
      simp [h4, h6]
    · have h3 : ¬ j * (32 / s) + b / s = i := by rcases hs with rfl | rfl | rfl <;> omega
      rw [if_neg h3]
      by_cases h4 : b < s * (i % (32 / s))
      · simp [h4]
      · have h5 : ¬ b - s * (i % (32 / s)) < s := by rcases hs with rfl | rfl | rfl <;> omega
        simp [h5]
  · have h3 : ¬ j * (32 / s) + b / s = i := by rcases hs with rfl | rfl | rfl <;> omega
    rw [if_neg h1, if_neg h3]
theorem lanesFrom_bit {s : Nat} (hs : Wide s) (f : BitVec 32 → BitVec 32 → BitVec 32 → BitVec 32 → BitVec 32) (x a y b : BitVec 32) (t : Nat) (ht : t < 32) :
    ∀ (n k : Nat) (acc : BitVec 32), s * k + s * n ≤ 32 → (Vb.lanesFrom s f x a y b n (s * k) acc).getLsbD t =
      (acc.getLsbD t || (decide (k ≤ t / s ∧ t / s < k + n) && (f (L x s (t / s)) (L a s (t / s)) (L y s (t / s)) (L b s (t / s))).getLsbD (t % s)))
  | 0, k, acc, _ => by
    have : ¬ (k ≤ t / s ∧ t / s < k + 0) := by omega
    rw [decide_eq_false this]
    simp [Vb.lanesFrom]
  | n + 1, k, acc, h => by
    have hpos : 0 < s := by rcases hs with rfl | rfl | rfl <;> omega
    have h1 : s * k + s ≤ 32 := by rw [Nat.mul_add] at h; omega
    have e : s * k + s = s * (k + 1) := by rw [Nat.mul_add]; omega
    simp only [Vb.lanesFrom]
    rw [lane_vb x s k hs h1, lane_vb a s k hs h1, lane_vb y s k hs h1, lane_vb b s k hs h1, e, lanesFrom_bit hs f x a y b t ht n (k + 1) _ (by rw [← e]; rw [Nat.mul_add] at h; omega)]
    rw [BitVec.getLsbD_or, mk_eq hs]
    simp only [BitVec.getLsbD_and, BitVec.getLsbD_shiftLeft, mk_bit hs, ht, decide_true, Bool.true_and]
    by_cases hk : t / s = k
    · have h2 : ¬ t < s * k := by rcases hs with rfl | rfl | rfl <;> omega
      have h3 : t - s * k = t % s := by rcases hs with rfl | rfl | rfl <;> omega
      have h4 : t % s < s := Nat.mod_lt _ hpos
      have h5 : ¬ (k + 1 ≤ t / s ∧ t / s < k + 1 + n) := by omega
      have h6 : (k ≤ t / s ∧ t / s < k + (n + 1)) := by omega
      rw [decide_eq_false h5, decide_eq_true h6, decide_eq_false h2, h3, decide_eq_true h4, hk]
      simp
    · have h2 : t < s * k ∨ ¬ t - s * k < s := by rcases hs with rfl | rfl | rfl <;> omega
      have h3 : decide (k + 1 ≤ t / s ∧ t / s < k + 1 + n) = decide (k ≤ t / s ∧ t / s < k + (n + 1)) := decide_eq_decide.2 (by omega)
      rw [h3]
      rcases h2 with h2 | h2 <;> simp [h2]
theorem eachWord_bit {s : Nat} (hs : Wide s) (f : BitVec 32 → BitVec 32 → BitVec 32 → BitVec 32 → BitVec 32) (x a y b : BitVec 32) (t : Nat) (ht : t < 32) :
    (Vb.eachWord s f x a y b).getLsbD t = (f (L x s (t / s)) (L a s (t / s)) (L y s (t / s)) (L b s (t / s))).getLsbD (t % s) := by
  unfold Vb.eachWord
  have := lanesFrom_bit hs f x a y b t ht (32 / s) 0 0#32 (by rcases hs with rfl | rfl | rfl <;> omega)
  rw [Nat.mul_zero] at this
  show (Vb.lanesFrom s f x a y b (32 / s) 0 0#32).getLsbD t = _
  have h : 0 ≤ t / s ∧ t / s < 0 + 32 / s := by rcases hs with rfl | rfl | rfl <;> omega
  rw [this, decide_eq_true h]
  simp
theorem each_bit {s : Nat} (hs : Wide s) (f : BitVec 32 → BitVec 32 → BitVec 32 → BitVec 32 → BitVec 32) (x a y b : V) (j t : Nat) (hj : j < 4) (ht : t < 32) :
    ((Vb.each s x a y b f).get j).getLsbD t = (f (L (x.get j) s (t / s)) (L (a.get j) s (t / s)) (L (y.get j) s (t / s)) (L (b.get j) s (t / s))).getLsbD (t % s) := by
  rcases (show j = 0 ∨ j = 1 ∨ j = 2 ∨ j = 3 by omega) with rfl | rfl | rfl | rfl
  · exact eachWord_bit hs f _ _ _ _ t ht
  · exact eachWord_bit hs f _ _ _ _ t ht
  · exact eachWord_bit hs f _ _ _ _ t ht
  · exact eachWord_bit hs f _ _ _ _ t ht
/-- The lane of a bit. -/
theorem lane_of_bit (x : V) {s : Nat} (hs : Wide s) (j t : Nat) (hj : j < 4) (ht : t < 32) : Rf.lane x s (j * (32 / s) + t / s) = L (x.get j) s (t / s) := by
  rw [lane_L]
  have h1 : (j * (32 / s) + t / s) / (32 / s) = j := by rcases hs with rfl | rfl | rfl <;> omega
  have h2 : (j * (32 / s) + t / s) % (32 / s) = t / s := by rcases hs with rfl | rfl | rfl <;> omega
  rw [h1, h2]
theorem all_bit (t s : Nat) (hs : Wide s) : (4294967295#32).getLsbD (t % s) = true := by
  show (BitVec.allOnes 32).getLsbD (t % s) = true
  rw [BitVec.getLsbD_allOnes]
  rcases hs with rfl | rfl | rfl <;> (apply decide_eq_true; omega)
theorem zero_get (j : Nat) (b : Nat) : (V.zero.get j).getLsbD b = false := by rw [get_z]; simp
theorem lanesTo_bit (x a : V) {s : Nat} (hs : Wide s) (j t : Nat) (hj : j < 4) (ht : t < 32) : ∀ N, N ≤ 128 / s → ((Rf.lanesTo x a s N).get j).getLsbD t =
    (decide (j * (32 / s) + t / s < N) && Rf.undecided (V.word (Rf.lane x s (j * (32 / s) + t / s))) (V.word (Rf.lane a s (j * (32 / s) + t / s))))
  | 0, _ => by simp [Rf.lanesTo, zero_get]
  | N + 1, h => by
    have ih := lanesTo_bit x a hs j t hj ht N (by omega)
    unfold Rf.lanesTo
    by_cases hN : j * (32 / s) + t / s = N
    · have h1 : ¬ j * (32 / s) + t / s < N := by omega
      have h2 : j * (32 / s) + t / s < N + 1 := by omega
      simp only [h2, decide_true, Bool.true_and]
      rw [hN]
      cases hd : Rf.undecided (V.word (Rf.lane x s N)) (V.word (Rf.lane a s N))
      · simp only [Bool.false_eq_true, if_false]
        rw [ih]; simp [h1]
      · simp only [if_true]
        rw [setLane_bit _ _ _ _ hs (by omega) _ _ hj ht, if_pos hN, all_bit t s hs]
    · have h3 : decide (j * (32 / s) + t / s < N + 1) = decide (j * (32 / s) + t / s < N) := decide_eq_decide.2 (by omega)
      rw [h3]
      cases hd : Rf.undecided (V.word (Rf.lane x s N)) (V.word (Rf.lane a s N))
      · simp only [Bool.false_eq_true, if_false]; exact ih
      · simp only [if_true]
        rw [setLane_bit _ _ _ _ hs (by omega) _ _ hj ht, if_neg hN]; exact ih
theorem word_zero (w : BitVec 32) : (V.word w).isZero = decide (w = 0#32) := by
  rw [Bool.eq_iff_iff, isZero_iff]
  simp [V.word]
theorem und_word (x a : BitVec 32) : Rf.undecided (V.word x) (V.word a) = (!decide (a = 0#32) && decide (x &&& ~~~a = 0#32)) := by
  unfold Rf.undecided
  rw [word_zero]
  congr 1
  have : (V.word x).without (V.word a) = V.word (x &&& ~~~a) := by simp [V.without, V.map2, V.word]
  rw [this, word_zero]
theorem unLane_bit (x a y b : BitVec 32) (t s : Nat) (hs : Wide s) : (Vb.unLane x a y b).getLsbD (t % s) = Rf.undecided (V.word x) (V.word a) := by
  rw [und_word]
  unfold Vb.unLane Vb.some
  by_cases h1 : x &&& ~~~a = 0#32
  · have h1' : x &&& ~~~a = 0 := h1
    rw [if_pos h1']
    by_cases h2 : a = 0#32
    · have h2' : a = 0 := h2
      rw [if_pos h2', decide_eq_true h2]; simp
    · have h2' : ¬ a = 0 := h2
      rw [if_neg h2', all_bit t s hs]; simp [h1, h2]
  · have h1' : ¬ x &&& ~~~a = 0 := h1
    rw [if_neg h1']; simp [h1]
theorem lanesOf_eq (x a : V) {s : Nat} (hs : Wide s) : Rf.lanesTo x a s (128 / s) = Vb.each s x a V.zero V.zero Vb.unLane := by
  apply ext_bits
  intro j hj t ht
  rw [lanesTo_bit x a hs j t hj ht _ (Nat.le_refl _), each_bit hs _ _ _ _ _ j t hj ht, unLane_bit _ _ _ _ _ _ hs, lane_of_bit x hs j t hj ht, lane_of_bit a hs j t hj ht]
  have : j * (32 / s) + t / s < 128 / s := by rcases hs with rfl | rfl | rfl <;> omega
  simp [this]
theorem rmask_eq (x : V) : ∀ n, n ≤ 16 → Rf.maskTo x n = Vb.maskTo x n
  | 0, _ => rfl
  | n + 1, h => by
    simp only [Rf.maskTo, Vb.maskTo]
    rw [rmask_eq x n (by omega), lane_L]
    show _ ||| (L (x.get (n / 4)) 8 (n % 4) >>> 7) <<< n = _
    congr 2
    unfold L
    apply BitVec.eq_of_getLsbD_eq; intro i hi
    have h8 : Wide 8 := .inl rfl
    simp only [BitVec.getLsbD_ushiftRight, BitVec.getLsbD_and, mk_bit h8]
    have h1 : (1#32).getLsbD i = decide (i = 0) := by
      rw [BitVec.getLsbD_one]; simp
    show _ = ((x.get (n / 4)).getLsbD (8 * (n % 4) + 7 + i) && (1#32).getLsbD i)
    rw [h1]
    by_cases hi0 : i = 0
    · subst hi0; simp
    · have : ¬ 7 + i < 8 := by omega
      simp [this, hi0]
end Go.Proofs.YtboknfppecgjmaaGreat
namespace Go.Proofs.YtboknfppecgjmaaGreat
set_option linter.unusedVariables false
set_option linter.unusedSimpArgs false
theorem lanedTo_bit (f : BitVec 32 → BitVec 32 → BitVec 32 → BitVec 32 → BitVec 32) (x a y b : V) {s : Nat} (hs : Wide s) (j t : Nat) (hj : j < 4) (ht : t < 32) : ∀ N, N ≤ 128 / s → ((Rf.lanedTo f x a y b s N).get j).getLsbD t =
    (decide (j * (32 / s) + t / s < N) && (f (Rf.lane x s (j * (32 / s) + t / s)) (Rf.lane a s (j * (32 / s) + t / s)) (Rf.lane y s (j * (32 / s) + t / s)) (Rf.lane b s (j * (32 / s) + t / s))).getLsbD (t % s))
  | 0, _ => by simp [Rf.lanedTo, zero_get]
  | N + 1, h => by
    have ih := lanedTo_bit f x a y b hs j t hj ht N (by omega)
    unfold Rf.lanedTo
    rw [setLane_bit _ _ _ _ hs (by omega) _ _ hj ht]
    by_cases hN : j * (32 / s) + t / s = N
    · have h2 : j * (32 / s) + t / s < N + 1 := by omega
      rw [if_pos hN, decide_eq_true h2, hN]
      simp
    · have h3 : decide (j * (32 / s) + t / s < N + 1) = decide (j * (32 / s) + t / s < N) := decide_eq_decide.2 (by omega)
      rw [if_neg hN, h3]
      exact ih
theorem laned_eq (f : BitVec 32 → BitVec 32 → BitVec 32 → BitVec 32 → BitVec 32) (x a y b : V) {s : Nat} (hs : Wide s) : Rf.lanedTo f x a y b s (128 / s) = Vb.each s x a y b f := by
  apply ext_bits
  intro j hj t ht
  rw [lanedTo_bit f x a y b hs j t hj ht _ (Nat.le_refl _), each_bit hs _ _ _ _ _ j t hj ht, lane_of_bit x hs j t hj ht, lane_of_bit a hs j t hj ht, lane_of_bit y hs j t hj ht, lane_of_bit b hs j t hj ht]
  have : j * (32 / s) + t / s < 128 / s := by rcases hs with rfl | rfl | rfl <;> omega
  simp [this]
theorem requal_eq : Rf.equal = Vb.equal := by
  funext p q u v
  unfold Rf.equal Vb.equal Vb.some
  rw [und_word]
  by_cases h1 : (p ^^^ u) &&& ~~~(q ||| v) = 0#32
  · have h1' : (p ^^^ u) &&& ~~~(q ||| v) = 0 := h1
    rw [if_pos h1']
    by_cases h2 : q ||| v = 0#32
    · have h2' : q ||| v = 0 := h2
      rw [if_pos h2', decide_eq_true h2]; simp
    · have h2' : ¬ q ||| v = 0 := h2
      rw [if_neg h2', decide_eq_false h2, decide_eq_true h1]; simp
  · have h1' : ¬ (p ^^^ u) &&& ~~~(q ||| v) = 0 := h1
    rw [if_neg h1', decide_eq_false h1]; simp
theorem and_255_15 (z : BitVec 32) : (z &&& 255#32) &&& 15#32 = z &&& 15#32 := by
  rw [BitVec.and_assoc]
  rfl
theorem lane8_eq (x : V) (i : Nat) : Rf.lane x 8 i = (x.get (i / 4) >>> (8 * (i % 4))) &&& 255#32 := rfl
theorem shufLane_eq (a y b : V) (i : Nat) : Rf.shufLane a y b i = Vb.shufByte a y b i := by
  unfold Rf.shufLane Vb.shufByte
  simp only [lane8_eq, and_255_15]
  have e : ∀ (z : BitVec 32), (z &&& 15#32) = (z &&& 15) := fun _ => rfl
  by_cases h : (b.get (i / 4) >>> (8 * (i % 4))) &&& 15#32 = 0#32
  · rw [decide_eq_true h]
    have h' : ¬ ((b.get (i / 4) >>> (8 * (i % 4))) &&& 15 ≠ 0) := fun hh => hh h
    rw [if_neg h']
    rfl
  · rw [decide_eq_false h]
    have h' : (b.get (i / 4) >>> (8 * (i % 4))) &&& 15 ≠ 0 := h
    rw [if_pos h']
    rfl
theorem shufByte_high (a y b : V) (i t : Nat) (ht : 8 ≤ t) : (Vb.shufByte a y b i).getLsbD t = false := by
  have h8 : Wide 8 := .inl rfl
  have hm : (255#32).getLsbD t = false := by
    have := mk_bit h8 t
    rw [show mk 8 = 255#32 by decide] at this
    rw [this]
    apply decide_eq_false; omega
  unfold Vb.shufByte
  simp only
  split
  · exact hm
  · rw [BitVec.getLsbD_and]
    show (_ && (255#32).getLsbD t) = false
    rw [hm, Bool.and_false]
theorem shufWord_bit (a y b : V) (j t : Nat) (ht : t < 32) : (Vb.shufWord a y b j).getLsbD t = (Vb.shufByte a y b (4 * j + t / 8)).getLsbD (t % 8) := by
  unfold Vb.shufWord
  simp only [BitVec.getLsbD_or, BitVec.getLsbD_shiftLeft, ht, decide_true, Bool.true_and]
  have hh := shufByte_high a y b
  rcases (show t / 8 = 0 ∨ t / 8 = 1 ∨ t / 8 = 2 ∨ t / 8 = 3 by omega) with h | h | h | h
  · have h1 : t < 8 := by omega
    have h2 : t < 16 := by omega
    have h3 : t < 24 := by omega
    rw [h, show t % 8 = t by omega]
    simp [h1, h2, h3]
  · have h1 : ¬ t < 8 := by omega
    have h2 : t < 16 := by omega
    have h3 : t < 24 := by omega
    rw [h, show t % 8 = t - 8 by omega, hh _ t (by omega)]
    simp [h1, h2, h3]
  · have h1 : ¬ t < 8 := by omega
    have h2 : ¬ t < 16 := by omega
    have h3 : t < 24 := by omega
    rw [h, show t % 8 = t - 16 by omega, hh _ t (by omega), hh _ (t - 8) (by omega)]
    simp [h1, h2, h3]
  · have h1 : ¬ t < 8 := by omega
    have h2 : ¬ t < 16 := by omega
    have h3 : ¬ t < 24 := by omega
    rw [h, show t % 8 = t - 24 by omega, hh _ t (by omega), hh _ (t - 8) (by omega), hh _ (t - 16) (by omega)]
    simp [h1, h2, h3]
theorem shufTo_bit (a y b : V) (j t : Nat) (hj : j < 4) (ht : t < 32) : ∀ N, N ≤ 16 → ((Rf.shufTo a y b N).get j).getLsbD t = (decide (j * 4 + t / 8 < N) && (Rf.shufLane a y b (j * 4 + t / 8)).getLsbD (t % 8))
  | 0, _ => by simp [Rf.shufTo, zero_get]
  | N + 1, h => by
    have h8 : Wide 8 := .inl rfl
    have ih := shufTo_bit a y b j t hj ht N (by omega)
    unfold Rf.shufTo
    rw [setLane_bit _ _ _ _ h8 (by omega) _ _ hj ht]
    show (if j * 4 + t / 8 = N then _ else _) = _
    by_cases hN : j * 4 + t / 8 = N
    · have h2 : j * 4 + t / 8 < N + 1 := by omega
      rw [if_pos hN, decide_eq_true h2, hN]
      simp
    · have h3 : decide (j * 4 + t / 8 < N + 1) = decide (j * 4 + t / 8 < N) := decide_eq_decide.2 (by omega)
      rw [if_neg hN, h3]
      exact ih
theorem shuf_eq (a y b : V) : Rf.shufTo a y b 16 = V.gen (Vb.shufWord a y b) := by
  apply ext_bits
  intro j hj t ht
  rw [shufTo_bit a y b j t hj ht 16 (Nat.le_refl _), shufLane_eq]
  have h : j * 4 + t / 8 < 16 := by omega
  have e : (V.gen (Vb.shufWord a y b)).get j = Vb.shufWord a y b j := by
    rcases (show j = 0 ∨ j = 1 ∨ j = 2 ∨ j = 3 by omega) with rfl | rfl | rfl | rfl <;> rfl
  rw [e, shufWord_bit a y b j t ht, show 4 * j = j * 4 by omega, decide_eq_true h]
  simp
theorem one_bit (b : Bool) : Vb.one b = V.word (Rf.bitOf b) := by cases b <;> rfl
theorem low5 (z : BitVec 32) : z.toNat % 32 = (z &&& 31#32).toNat := by
  rw [BitVec.toNat_and]
  show z.toNat % 2 ^ 5 = z.toNat &&& (2 ^ 5 - 1)
  rw [Nat.and_two_pow_sub_one_eq_mod]
theorem top_bit (i : Nat) (hi : i < 32) : (2147483648#32).getLsbD i = decide (i = 31) := by
  have : (2147483648#32) = 1#32 <<< 31 := by decide
  rw [this]
  simp only [BitVec.getLsbD_shiftLeft, BitVec.getLsbD_one, hi, decide_true, Bool.true_and]
  by_cases h : i = 31
  · subst h; simp
  · have : i < 31 := by omega
    simp [h, this]
theorem low_flip (x a : BitVec 32) : Rf.low x a ^^^ 2147483648#32 = Vb.least (x ^^^ 2147483648#32) a := by
  unfold Rf.low Vb.least
  apply BitVec.eq_of_getLsbD_eq; intro i hi
  simp only [BitVec.getLsbD_xor, BitVec.getLsbD_or, BitVec.getLsbD_and, BitVec.getLsbD_not, hi, decide_true, Bool.true_and, top_bit i hi]
  cases decide (i = 31) <;> cases x.getLsbD i <;> cases a.getLsbD i <;> rfl
theorem high_flip (x a : BitVec 32) : Rf.high x a ^^^ 2147483648#32 = Vb.greatest (x ^^^ 2147483648#32) a := by
  unfold Rf.high Vb.greatest
  apply BitVec.eq_of_getLsbD_eq; intro i hi
  simp only [BitVec.getLsbD_xor, BitVec.getLsbD_or, BitVec.getLsbD_and, BitVec.getLsbD_not, hi, decide_true, Bool.true_and, top_bit i hi]
  cases decide (i = 31) <;> cases x.getLsbD i <;> cases a.getLsbD i <;> rfl
theorem flip_add (x : BitVec 32) : x ^^^ 2147483648#32 = x + 2147483648#32 := by
  apply BitVec.eq_of_getLsbD_eq; intro i hi
  rw [BitVec.getLsbD_xor, BitVec.getLsbD_add hi, top_bit i hi]
  have c0 : ∀ k, k ≤ 31 → BitVec.carry k x 2147483648#32 false = false := by
    intro k
    induction k with
    | zero => intro _; simp [BitVec.carry_zero]
    | succ k ih =>
      intro hk
      have hk31 : k ≠ 31 := by omega
      rw [BitVec.carry_succ, ih (by omega), top_bit k (by omega), decide_eq_false hk31]
      cases x.getLsbD k <;> rfl
  rw [c0 i (by omega)]
  simp
theorem S_flip (x : BitVec 32) : S x = ((x ^^^ 2147483648#32).toNat : Int) - 2147483648 := by
  rw [flip_add]
  unfold S
  rw [BitVec.toInt_eq_toNat_cond, BitVec.toNat_add]
  have hx := x.isLt
  show (if 2 * x.toNat < 2 ^ 32 then (x.toNat : Int) else (x.toNat : Int) - ((2 ^ 32 : Nat) : Int)) = ((((x.toNat + 2147483648) % 2 ^ 32 : Nat)) : Int) - 2147483648
  split <;> omega
theorem slt_flip (p q : BitVec 32) : decide (S p < S q) = decide ((p ^^^ 2147483648#32) < (q ^^^ 2147483648#32)) := by
  apply decide_eq_decide.2
  rw [S_flip, S_flip, BitVec.lt_def]
  omega
theorem sle_flip (p q : BitVec 32) : decide (S p ≤ S q) = decide ((p ^^^ 2147483648#32) ≤ (q ^^^ 2147483648#32)) := by
  apply decide_eq_decide.2
  rw [S_flip, S_flip, BitVec.le_def]
  omega
theorem lt_or_eq (p q : BitVec 32) : (decide (p < q) || decide (p = q)) = decide (p ≤ q) := by
  rw [Bool.eq_iff_iff]
  simp only [Bool.or_eq_true, decide_eq_true_eq]
  rw [BitVec.lt_def, BitVec.le_def]
  constructor
  · rintro (h | rfl)
    · omega
    · omega
  · intro h
    by_cases he : p = q
    · exact .inr he
    · left
      have : p.toNat ≠ q.toNat := fun e => he (BitVec.eq_of_toNat_eq e)
      omega
theorem less16 (x y : V) (a b : V) (ty off : Int) : Vb.binOp ⟨16, ty, off, x, a, y, b⟩ = V.word (Rf.bitOf (decide (Vb.least x.a a.a < Vb.greatest y.a b.a) != decide (Vb.greatest x.a a.a < Vb.least y.a b.a))) := by
  show Vb.Binary.less ⟨16, ty, off, x, a, y, b⟩ = _
  rw [← one_bit]
  have f : Vb.flip 16 = 0#32 := rfl
  have l : ∀ p q, Vb.lessOp 16 p q = decide (p < q) := fun p q => by unfold Vb.lessOp; simp
  simp only [Vb.Binary.less, f, BitVec.xor_zero, l]
theorem less18 (x y : V) (a b : V) (ty off : Int) : Vb.binOp ⟨18, ty, off, x, a, y, b⟩ = V.word (Rf.bitOf (decide (Vb.least x.a a.a ≤ Vb.greatest y.a b.a) != decide (Vb.greatest x.a a.a ≤ Vb.least y.a b.a))) := by
  show Vb.Binary.less ⟨18, ty, off, x, a, y, b⟩ = _
  rw [← one_bit]
  have f : Vb.flip 18 = 0#32 := rfl
  have l : ∀ p q, Vb.lessOp 18 p q = decide (p ≤ q) := fun p q => by rw [← lt_or_eq]; unfold Vb.lessOp; simp
  simp only [Vb.Binary.less, f, BitVec.xor_zero, l]
theorem less17 (x y : V) (a b : V) (ty off : Int) : Vb.binOp ⟨17, ty, off, x, a, y, b⟩ = V.word (Rf.bitOf (decide (S (Rf.low x.a a.a) < S (Rf.high y.a b.a)) != decide (S (Rf.high x.a a.a) < S (Rf.low y.a b.a)))) := by
  show Vb.Binary.less ⟨17, ty, off, x, a, y, b⟩ = _
  rw [← one_bit, slt_flip, slt_flip, low_flip, high_flip, low_flip, high_flip]
  have f : Vb.flip 17 = 2147483648#32 := rfl
  have l : ∀ p q, Vb.lessOp 17 p q = decide (p < q) := fun p q => by unfold Vb.lessOp; simp
  simp only [Vb.Binary.less, f, l]
theorem less19 (x y : V) (a b : V) (ty off : Int) : Vb.binOp ⟨19, ty, off, x, a, y, b⟩ = V.word (Rf.bitOf (decide (S (Rf.low x.a a.a) ≤ S (Rf.high y.a b.a)) != decide (S (Rf.high x.a a.a) ≤ S (Rf.low y.a b.a)))) := by
  show Vb.Binary.less ⟨19, ty, off, x, a, y, b⟩ = _
  rw [← one_bit, sle_flip, sle_flip, low_flip, high_flip, low_flip, high_flip]
  have f : Vb.flip 19 = 2147483648#32 := rfl
  have l : ∀ p q, Vb.lessOp 19 p q = decide (p ≤ q) := fun p q => by rw [← lt_or_eq]; unfold Vb.lessOp; simp
  simp only [Vb.Binary.less, f, l]
end Go.Proofs.YtboknfppecgjmaaGreat
namespace Go.Proofs.YtboknfppecgjmaaGreat
set_option linter.unusedVariables false
set_option linter.unusedSimpArgs false
open Go.RowKit Go.Shelf
def lowV : V := ⟨252645135#32, 252645135#32, 252645135#32, 252645135#32⟩
/-- Whether an operation is exact, b being the second operand's shadow. -/
def Vb.exact (op : Int) (b : V) : Bool :=
  if op = 3 ∨ op = 4 ∨ op = 5 ∨ op = 6 ∨ op = 7 then false
  else if op = 11 ∨ op = 12 ∨ op = 13 then decide (b.a &&& 31#32 = 0#32)
  else if op = 29 then (b.and lowV).isZero
  else decide (1 ≤ op) && decide (op ≤ 30)
set_option maxRecDepth 100000 in
set_option maxHeartbeats 1000000 in
theorem vexact3_c (b : V) (w : World) : Calls Tryz.prog 24 #[iv (3 : Int), vv b] w fun e w' => e = .returned (.bool (false)) ∧ Below w.heap.size w w' := by
  go_enter Tryz.func24, Tryz.ntmps24
  go_wp2_with fail
  go_ret
  exact ⟨rfl, by (repeat (first | exact Below.refl _ _ | refine Below.setCell ?_ (by first | omega | (simp <;> omega)) _ | refine Below.alloc ?_ (by first | omega | (simp <;> omega)) _ | refine Below.drew ?_ | refine Below.trans ?_ (Below.mono (by assumption) (by first | omega | (simp <;> omega)))))⟩
set_option maxRecDepth 100000 in
set_option maxHeartbeats 1000000 in
theorem vexact4_c (b : V) (w : World) : Calls Tryz.prog 24 #[iv (4 : Int), vv b] w fun e w' => e = .returned (.bool (false)) ∧ Below w.heap.size w w' := by
  go_enter Tryz.func24, Tryz.ntmps24
  go_wp2_with fail
  go_ret
  exact ⟨rfl, by (repeat (first | exact Below.refl _ _ | refine Below.setCell ?_ (by first | omega | (simp <;> omega)) _ | refine Below.alloc ?_ (by first | omega | (simp <;> omega)) _ | refine Below.drew ?_ | refine Below.trans ?_ (Below.mono (by assumption) (by first | omega | (simp <;> omega)))))⟩
set_option maxRecDepth 100000 in
set_option maxHeartbeats 1000000 in
theorem vexact5_c (b : V) (w : World) : Calls Tryz.prog 24 #[iv (5 : Int), vv b] w fun e w' => e = .returned (.bool (false)) ∧ Below w.heap.size w w' := by
  go_enter Tryz.func24, Tryz.ntmps24
  go_wp2_with fail
  go_ret
  exact ⟨rfl, by (repeat (first | exact Below.refl _ _ | refine Below.setCell ?_ (by first | omega | (simp <;> omega)) _ | refine Below.alloc ?_ (by first | omega | (simp <;> omega)) _ | refine Below.drew ?_ | refine Below.trans ?_ (Below.mono (by assumption) (by first | omega | (simp <;> omega)))))⟩
set_option maxRecDepth 100000 in
set_option maxHeartbeats 1000000 in
theorem vexact6_c (b : V) (w : World) : Calls Tryz.prog 24 #[iv (6 : Int), vv b] w fun e w' => e = .returned (.bool (false)) ∧ Below w.heap.size w w' := by
  go_enter Tryz.func24, Tryz.ntmps24
  go_wp2_with fail
  go_ret
  exact ⟨rfl, by (repeat (first | exact Below.refl _ _ | refine Below.setCell ?_ (by first | omega | (simp <;> omega)) _ | refine Below.alloc ?_ (by first | omega | (simp <;> omega)) _ | refine Below.drew ?_ | refine Below.trans ?_ (Below.mono (by assumption) (by first | omega | (simp <;> omega)))))⟩
set_option maxRecDepth 100000 in
set_option maxHeartbeats 1000000 in
theorem vexact7_c (b : V) (w : World) : Calls Tryz.prog 24 #[iv (7 : Int), vv b] w fun e w' => e = .returned (.bool (false)) ∧ Below w.heap.size w w' := by
  go_enter Tryz.func24, Tryz.ntmps24
  go_wp2_with fail
  go_ret
  exact ⟨rfl, by (repeat (first | exact Below.refl _ _ | refine Below.setCell ?_ (by first | omega | (simp <;> omega)) _ | refine Below.alloc ?_ (by first | omega | (simp <;> omega)) _ | refine Below.drew ?_ | refine Below.trans ?_ (Below.mono (by assumption) (by first | omega | (simp <;> omega)))))⟩
set_option maxRecDepth 100000 in
set_option maxHeartbeats 1000000 in
theorem vexact11_c (b : V) (w : World) : Calls Tryz.prog 24 #[iv (11 : Int), vv b] w fun e w' => e = .returned (.bool (decide (b.a &&& 31#32 = 0#32))) ∧ Below w.heap.size w w' := by
  go_enter Tryz.func24, Tryz.ntmps24
  go_wp2_with fail
  go_ret
  exact ⟨rfl, by (repeat (first | exact Below.refl _ _ | refine Below.setCell ?_ (by first | omega | (simp <;> omega)) _ | refine Below.alloc ?_ (by first | omega | (simp <;> omega)) _ | refine Below.drew ?_ | refine Below.trans ?_ (Below.mono (by assumption) (by first | omega | (simp <;> omega)))))⟩
set_option maxRecDepth 100000 in
set_option maxHeartbeats 1000000 in
theorem vexact12_c (b : V) (w : World) : Calls Tryz.prog 24 #[iv (12 : Int), vv b] w fun e w' => e = .returned (.bool (decide (b.a &&& 31#32 = 0#32))) ∧ Below w.heap.size w w' := by
  go_enter Tryz.func24, Tryz.ntmps24
  go_wp2_with fail
  go_ret
  exact ⟨rfl, by (repeat (first | exact Below.refl _ _ | refine Below.setCell ?_ (by first | omega | (simp <;> omega)) _ | refine Below.alloc ?_ (by first | omega | (simp <;> omega)) _ | refine Below.drew ?_ | refine Below.trans ?_ (Below.mono (by assumption) (by first | omega | (simp <;> omega)))))⟩
set_option maxRecDepth 100000 in
set_option maxHeartbeats 1000000 in
theorem vexact13_c (b : V) (w : World) : Calls Tryz.prog 24 #[iv (13 : Int), vv b] w fun e w' => e = .returned (.bool (decide (b.a &&& 31#32 = 0#32))) ∧ Below w.heap.size w w' := by
  go_enter Tryz.func24, Tryz.ntmps24
  go_wp2_with fail
  go_ret
  exact ⟨rfl, by (repeat (first | exact Below.refl _ _ | refine Below.setCell ?_ (by first | omega | (simp <;> omega)) _ | refine Below.alloc ?_ (by first | omega | (simp <;> omega)) _ | refine Below.drew ?_ | refine Below.trans ?_ (Below.mono (by assumption) (by first | omega | (simp <;> omega)))))⟩
set_option maxRecDepth 100000 in
set_option maxHeartbeats 1000000 in
theorem vexact29_c (b : V) (w : World) : Calls Tryz.prog 24 #[iv (29 : Int), vv b] w fun e w' => e = .returned (.bool ((b.and lowV).isZero)) ∧ Below w.heap.size w w' := by
  go_enter Tryz.func24, Tryz.ntmps24
  go_wp2_with fail
  (refine (and_c b lowV _ ).mono ?_; rintro e u1 ⟨rfl, hb⟩; obtain ⟨hc, hf⟩ := Flow.bcell hb; have hz := hb.size; (try simp only [World.size_alloc, World.size_setCell, World.size_drew] at hz); obtain z0 := Flow.zs1 (show w.heap.size + 1 ≤ u1.heap.size by omega))
  go_wp2_with fail
  (refine (zero_c (b.and lowV) _ ).mono ?_; rintro e u2 ⟨rfl, hb⟩; obtain ⟨hc, hf⟩ := Flow.bcell hb; have hz := hb.size; (try simp only [World.size_alloc, World.size_setCell, World.size_drew] at hz); obtain z0 := Flow.zs1 (show w.heap.size + 1 ≤ u2.heap.size by omega))
  go_wp2_with fail
  go_ret
  exact ⟨rfl, by (repeat (first | exact Below.refl _ _ | refine Below.setCell ?_ (by first | omega | (simp <;> omega)) _ | refine Below.alloc ?_ (by first | omega | (simp <;> omega)) _ | refine Below.drew ?_ | refine Below.trans ?_ (Below.mono (by assumption) (by first | omega | (simp <;> omega)))))⟩
set_option maxRecDepth 100000 in
set_option maxHeartbeats 4000000 in
theorem vexactn_c (op : Int) (b : V) (e3 : (op == 3) = false) (e4 : (op == 4) = false) (e5 : (op == 5) = false) (e6 : (op == 6) = false) (e7 : (op == 7) = false) (e11 : (op == 11) = false) (e12 : (op == 12) = false) (e13 : (op == 13) = false) (e29 : (op == 29) = false) (g5 : decide (5 ≤ op) = false ∨ (decide (5 ≤ op) = true ∧ decide (op ≤ 7) = false)) (w : World) : Calls Tryz.prog 24 #[iv op, vv b] w fun e w' => e = .returned (.bool (decide (1 ≤ op) && decide (op ≤ 30))) ∧ Below w.heap.size w w' := by
  rcases g5 with g5 | ⟨g5, g7⟩
  all_goals
    cases k1 : decide (1 ≤ op)
    all_goals
      cases k30 : decide (op ≤ 30)
      all_goals
        go_enter Tryz.func24, Tryz.ntmps24
        go_wp2_with fail
        all_goals go_ret
        all_goals exact ⟨rfl, by (repeat (first | exact Below.refl _ _ | refine Below.setCell ?_ (by first | omega | (simp <;> omega)) _ | refine Below.alloc ?_ (by first | omega | (simp <;> omega)) _ | refine Below.drew ?_ | refine Below.trans ?_ (Below.mono (by assumption) (by first | omega | (simp <;> omega)))))⟩
theorem vexact_c (op : Int) (b : V) (w : World) : Calls Tryz.prog 24 #[iv op, vv b] w fun e w' => e = .returned (.bool (Vb.exact op b)) ∧ Below w.heap.size w w' := by
  by_cases k3 : op = 3
  · subst k3; exact vexact3_c b w
  by_cases k4 : op = 4
  · subst k4; exact vexact4_c b w
  by_cases k5 : op = 5
  · subst k5; exact vexact5_c b w
  by_cases k6 : op = 6
  · subst k6; exact vexact6_c b w
  by_cases k7 : op = 7
  · subst k7; exact vexact7_c b w
  by_cases k11 : op = 11
  · subst k11; exact vexact11_c b w
  by_cases k12 : op = 12
  · subst k12; exact vexact12_c b w
  by_cases k13 : op = 13
  · subst k13; exact vexact13_c b w
  by_cases k29 : op = 29
  · subst k29; exact vexact29_c b w
  have he : Vb.exact op b = (decide (1 ≤ op) && decide (op ≤ 30)) := by unfold Vb.exact; rw [if_neg (by omega), if_neg (by omega), if_neg (by omega)]
  rw [he]
  refine vexactn_c op b (by simpa using k3) (by simpa using k4) (by simpa using k5) (by simpa using k6) (by simpa using k7) (by simpa using k11) (by simpa using k12) (by simpa using k13) (by simpa using k29) ?_ w
  by_cases h5 : 5 ≤ op
  · exact .inr ⟨decide_eq_true h5, decide_eq_false (by omega)⟩
  · exact .inl (decide_eq_false h5)
set_option maxRecDepth 100000 in
set_option maxHeartbeats 1000000 in
theorem rexact3_c (b : V) (w : World) : Calls Tryz.prog 25 #[iv (3 : Int), vv b] w fun e w' => e = .returned (.bool (false)) ∧ Below w.heap.size w w' := by
  go_enter Tryz.func25, Tryz.ntmps25
  go_wp2_with fail
  go_ret
  exact ⟨rfl, by (repeat (first | exact Below.refl _ _ | refine Below.setCell ?_ (by first | omega | (simp <;> omega)) _ | refine Below.alloc ?_ (by first | omega | (simp <;> omega)) _ | refine Below.drew ?_ | refine Below.trans ?_ (Below.mono (by assumption) (by first | omega | (simp <;> omega)))))⟩
set_option maxRecDepth 100000 in
set_option maxHeartbeats 1000000 in
theorem rexact4_c (b : V) (w : World) : Calls Tryz.prog 25 #[iv (4 : Int), vv b] w fun e w' => e = .returned (.bool (false)) ∧ Below w.heap.size w w' := by
  go_enter Tryz.func25, Tryz.ntmps25
  go_wp2_with fail
  go_ret
  exact ⟨rfl, by (repeat (first | exact Below.refl _ _ | refine Below.setCell ?_ (by first | omega | (simp <;> omega)) _ | refine Below.alloc ?_ (by first | omega | (simp <;> omega)) _ | refine Below.drew ?_ | refine Below.trans ?_ (Below.mono (by assumption) (by first | omega | (simp <;> omega)))))⟩
set_option maxRecDepth 100000 in
set_option maxHeartbeats 1000000 in
theorem rexact5_c (b : V) (w : World) : Calls Tryz.prog 25 #[iv (5 : Int), vv b] w fun e w' => e = .returned (.bool (false)) ∧ Below w.heap.size w w' := by
  go_enter Tryz.func25, Tryz.ntmps25
  go_wp2_with fail
  go_ret
  exact ⟨rfl, by (repeat (first | exact Below.refl _ _ | refine Below.setCell ?_ (by first | omega | (simp <;> omega)) _ | refine Below.alloc ?_ (by first | omega | (simp <;> omega)) _ | refine Below.drew ?_ | refine Below.trans ?_ (Below.mono (by assumption) (by first | omega | (simp <;> omega)))))⟩
set_option maxRecDepth 100000 in
set_option maxHeartbeats 1000000 in
theorem rexact6_c (b : V) (w : World) : Calls Tryz.prog 25 #[iv (6 : Int), vv b] w fun e w' => e = .returned (.bool (false)) ∧ Below w.heap.size w w' := by
  go_enter Tryz.func25, Tryz.ntmps25
  go_wp2_with fail
  go_ret
  exact ⟨rfl, by (repeat (first | exact Below.refl _ _ | refine Below.setCell ?_ (by first | omega | (simp <;> omega)) _ | refine Below.alloc ?_ (by first | omega | (simp <;> omega)) _ | refine Below.drew ?_ | refine Below.trans ?_ (Below.mono (by assumption) (by first | omega | (simp <;> omega)))))⟩
set_option maxRecDepth 100000 in
set_option maxHeartbeats 1000000 in
theorem rexact7_c (b : V) (w : World) : Calls Tryz.prog 25 #[iv (7 : Int), vv b] w fun e w' => e = .returned (.bool (false)) ∧ Below w.heap.size w w' := by
  go_enter Tryz.func25, Tryz.ntmps25
  go_wp2_with fail
  go_ret
  exact ⟨rfl, by (repeat (first | exact Below.refl _ _ | refine Below.setCell ?_ (by first | omega | (simp <;> omega)) _ | refine Below.alloc ?_ (by first | omega | (simp <;> omega)) _ | refine Below.drew ?_ | refine Below.trans ?_ (Below.mono (by assumption) (by first | omega | (simp <;> omega)))))⟩
set_option maxRecDepth 100000 in
set_option maxHeartbeats 1000000 in
theorem rexact11_c (b : V) (w : World) : Calls Tryz.prog 25 #[iv (11 : Int), vv b] w fun e w' => e = .returned (.bool (decide (b.a &&& 31#32 = 0#32))) ∧ Below w.heap.size w w' := by
  go_enter Tryz.func25, Tryz.ntmps25
  go_wp2_with fail
  go_ret
  exact ⟨rfl, by (repeat (first | exact Below.refl _ _ | refine Below.setCell ?_ (by first | omega | (simp <;> omega)) _ | refine Below.alloc ?_ (by first | omega | (simp <;> omega)) _ | refine Below.drew ?_ | refine Below.trans ?_ (Below.mono (by assumption) (by first | omega | (simp <;> omega)))))⟩
set_option maxRecDepth 100000 in
set_option maxHeartbeats 1000000 in
theorem rexact12_c (b : V) (w : World) : Calls Tryz.prog 25 #[iv (12 : Int), vv b] w fun e w' => e = .returned (.bool (decide (b.a &&& 31#32 = 0#32))) ∧ Below w.heap.size w w' := by
  go_enter Tryz.func25, Tryz.ntmps25
  go_wp2_with fail
  go_ret
  exact ⟨rfl, by (repeat (first | exact Below.refl _ _ | refine Below.setCell ?_ (by first | omega | (simp <;> omega)) _ | refine Below.alloc ?_ (by first | omega | (simp <;> omega)) _ | refine Below.drew ?_ | refine Below.trans ?_ (Below.mono (by assumption) (by first | omega | (simp <;> omega)))))⟩
set_option maxRecDepth 100000 in
set_option maxHeartbeats 1000000 in
theorem rexact13_c (b : V) (w : World) : Calls Tryz.prog 25 #[iv (13 : Int), vv b] w fun e w' => e = .returned (.bool (decide (b.a &&& 31#32 = 0#32))) ∧ Below w.heap.size w w' := by
  go_enter Tryz.func25, Tryz.ntmps25
  go_wp2_with fail
  go_ret
  exact ⟨rfl, by (repeat (first | exact Below.refl _ _ | refine Below.setCell ?_ (by first | omega | (simp <;> omega)) _ | refine Below.alloc ?_ (by first | omega | (simp <;> omega)) _ | refine Below.drew ?_ | refine Below.trans ?_ (Below.mono (by assumption) (by first | omega | (simp <;> omega)))))⟩
set_option maxRecDepth 100000 in
set_option maxHeartbeats 1000000 in
theorem rexact29_c (b : V) (w : World) : Calls Tryz.prog 25 #[iv (29 : Int), vv b] w fun e w' => e = .returned (.bool ((b.and lowV).isZero)) ∧ Below w.heap.size w w' := by
  go_enter Tryz.func25, Tryz.ntmps25
  go_wp2_with fail
  (refine (rand_c b lowV _ ).mono ?_; rintro e u1 ⟨rfl, hb⟩; obtain ⟨hc, hf⟩ := Flow.bcell hb; have hz := hb.size; (try simp only [World.size_alloc, World.size_setCell, World.size_drew] at hz); obtain z0 := Flow.zs1 (show w.heap.size + 1 ≤ u1.heap.size by omega))
  go_wp2_with fail
  go_ret
  exact ⟨rfl, by (repeat (first | exact Below.refl _ _ | refine Below.setCell ?_ (by first | omega | (simp <;> omega)) _ | refine Below.alloc ?_ (by first | omega | (simp <;> omega)) _ | refine Below.drew ?_ | refine Below.trans ?_ (Below.mono (by assumption) (by first | omega | (simp <;> omega)))))⟩
set_option maxRecDepth 100000 in
set_option maxHeartbeats 4000000 in
theorem rexactn_c (op : Int) (b : V) (e3 : (op == 3) = false) (e4 : (op == 4) = false) (e5 : (op == 5) = false) (e6 : (op == 6) = false) (e7 : (op == 7) = false) (e11 : (op == 11) = false) (e12 : (op == 12) = false) (e13 : (op == 13) = false) (e29 : (op == 29) = false) (g5 : decide (5 ≤ op) = false ∨ (decide (5 ≤ op) = true ∧ decide (op ≤ 7) = false)) (w : World) : Calls Tryz.prog 25 #[iv op, vv b] w fun e w' => e = .returned (.bool (decide (1 ≤ op) && decide (op ≤ 30))) ∧ Below w.heap.size w w' := by
  rcases g5 with g5 | ⟨g5, g7⟩
  all_goals
    cases k1 : decide (1 ≤ op)
    all_goals
      cases k30 : decide (op ≤ 30)
      all_goals
        go_enter Tryz.func25, Tryz.ntmps25
        go_wp2_with fail
        all_goals go_ret
        all_goals exact ⟨rfl, by (repeat (first | exact Below.refl _ _ | refine Below.setCell ?_ (by first | omega | (simp <;> omega)) _ | refine Below.alloc ?_ (by first | omega | (simp <;> omega)) _ | refine Below.drew ?_ | refine Below.trans ?_ (Below.mono (by assumption) (by first | omega | (simp <;> omega)))))⟩
theorem rexact_c (op : Int) (b : V) (w : World) : Calls Tryz.prog 25 #[iv op, vv b] w fun e w' => e = .returned (.bool (Vb.exact op b)) ∧ Below w.heap.size w w' := by
  by_cases k3 : op = 3
  · subst k3; exact rexact3_c b w
  by_cases k4 : op = 4
  · subst k4; exact rexact4_c b w
  by_cases k5 : op = 5
  · subst k5; exact rexact5_c b w
  by_cases k6 : op = 6
  · subst k6; exact rexact6_c b w
  by_cases k7 : op = 7
  · subst k7; exact rexact7_c b w
  by_cases k11 : op = 11
  · subst k11; exact rexact11_c b w
  by_cases k12 : op = 12
  · subst k12; exact rexact12_c b w
  by_cases k13 : op = 13
  · subst k13; exact rexact13_c b w
  by_cases k29 : op = 29
  · subst k29; exact rexact29_c b w
  have he : Vb.exact op b = (decide (1 ≤ op) && decide (op ≤ 30)) := by unfold Vb.exact; rw [if_neg (by omega), if_neg (by omega), if_neg (by omega)]
  rw [he]
  refine rexactn_c op b (by simpa using k3) (by simpa using k4) (by simpa using k5) (by simpa using k6) (by simpa using k7) (by simpa using k11) (by simpa using k12) (by simpa using k13) (by simpa using k29) ?_ w
  by_cases h5 : 5 ≤ op
  · exact .inr ⟨decide_eq_true h5, decide_eq_false (by omega)⟩
  · exact .inl (decide_eq_false h5)
end Go.Proofs.YtboknfppecgjmaaGreat
namespace Go.Proofs.YtboknfppecgjmaaGreat
set_option linter.unusedVariables false
set_option linter.unusedSimpArgs false
open Go.RowKit Go.Shelf
theorem word_of_32 {a : V} (h : Vb.is 32 a = true) : a = V.word a.a := by
  obtain ⟨_, _, h2, h3, h4⟩ := is_parts h
  have e : ∀ z : BitVec 32, z &&& ~~~0#32 = 0#32 → z = 0#32 := fun z hz => (bv_all z).symm.trans hz
  rw [ones_32] at h2 h3 h4
  exact ext4 rfl (e _ h2) (e _ h3) (e _ h4)
theorem each_word {f : BitVec 32 → BitVec 32 → BitVec 32 → BitVec 32 → BitVec 32} (hf : LaneZ f) {x a y b : V} (hx : Vb.is 32 x = true) (ha : Vb.is 32 a = true) (hy : Vb.is 32 y = true) (hb : Vb.is 32 b = true) : Vb.each 32 x a y b f = V.word (f x.a a.a y.a b.a) := by
  rw [word_of_32 hx, word_of_32 ha, word_of_32 hy, word_of_32 hb, each_32]
  exact ext4 rfl (hf 0#32 0#32) (hf 0#32 0#32) (hf 0#32 0#32)
theorem words_32 {op ty off : Int} (h : Vb.second op ty off ≠ 0) (ho : (1 ≤ op ∧ op ≤ 7) ∨ (11 ≤ op ∧ op ≤ 13) ∨ (16 ≤ op ∧ op ≤ 19)) : ty = 32 := by
  unfold Vb.second at h
  simp only at h
  have h30 : ¬ (op = 30 ∧ ty = 128 ∧ 0 ≤ off ∧ off ≤ 3) := by omega
  rw [if_neg h30] at h
  split at h
  · exact absurd rfl h
  · split at h
    · rename_i hc
      simp only [Bool.or_eq_true, Bool.and_eq_true, decide_eq_true_eq, beq_iff_eq] at hc
      omega
    · exact absurd rfl h
theorem second_128 {op ty off : Int} (h : Vb.second op ty off ≠ 0) (ho : op = 30) : ty = 128 ∧ 0 ≤ off ∧ off ≤ 3 := by
  unfold Vb.second at h
  simp only at h
  split at h
  · rename_i hc; exact ⟨hc.2.1, hc.2.2⟩
  · split at h
    · exact absurd rfl h
    · split at h
      · rename_i hc
        simp only [Bool.or_eq_true, Bool.and_eq_true, decide_eq_true_eq, beq_iff_eq] at hc
        omega
      · exact absurd rfl h
abbrev RB (op ty off : Int) (x a y b : V) (w : World) (p : V × Int) : Prop := Calls Tryz.prog 23 #[iv op, iv ty, iv off, vv x, vv a, vv y, vv b] w fun e w' => e = .returned (.tuple #[vv p.1, iv p.2]) ∧ Below w.heap.size w w'
theorem bin_no {op ty off : Int} {x a y b : V} (h : Vb.second op ty off = 0 ∨ Vb.is ty x = false ∨ Vb.is ty a = false ∨ Vb.is (Vb.second op ty off) y = false ∨ Vb.is (Vb.second op ty off) b = false) : Vb.bin op ty off x a y b = (V.zero, 1) := by
  unfold Vb.bin
  rw [if_pos h]
def cmpOp (op : Int) : Prop := op = 14 ∨ op = 15 ∨ (16 ≤ op ∧ op ≤ 19)
instance (op : Int) : Decidable (cmpOp op) := by unfold cmpOp; infer_instance
theorem ex_sec {op ty off : Int} (to : Int) (hto : to = if cmpOp op then 1 else ty) : Rf.exBin op ty (Rf.secTy op ty) to off ≠ 0 ↔ Vb.second op ty off ≠ 0 := by
  have h := exBin_iff op ty to off (by rw [hto]; split <;> simp)
  rw [h]
  constructor
  · exact fun h => h.1
  · intro h2
    refine ⟨h2, ?_⟩
    rw [hto]
    by_cases hc : op = 14 ∨ op = 15 ∨ (16 ≤ op ∧ op ≤ 19)
    · rw [if_pos hc]; exact if_pos hc
    · rw [if_neg hc]; exact if_neg hc
set_option maxHeartbeats 1000000 in
theorem rbinx_c (op ty off : Int) (x a y b : V) (w : World) : RB op ty off x a y b w (Vb.bin op ty off x a y b) := by
  have hsec : Rf.secTy op ty = if op = 30 then 32 else ty := rfl
  -- the ways with an error: by the operation's kind
  have err : ∀ (h1 : Rf.exBin op ty (Rf.secTy op ty) (if cmpOp op then 1 else ty) off = 0 ∨ (Rf.exBin op ty (Rf.secTy op ty) (if cmpOp op then 1 else ty) off ≠ 0 ∧ (Vb.is ty x = false ∨ (Vb.is ty x = true ∧ Vb.is ty a = false) ∨ (Vb.is ty x = true ∧ Vb.is ty a = true ∧ Vb.is (Rf.secTy op ty) y = false) ∨ (Vb.is ty x = true ∧ Vb.is ty a = true ∧ Vb.is (Rf.secTy op ty) y = true ∧ Vb.is (Rf.secTy op ty) b = false)))),
      RB op ty off x a y b w (V.zero, 1) := by
    intro h1
    by_cases k30 : op = 30
    · subst k30
      rw [hsec, if_pos rfl, if_neg (by decide)] at h1
      rcases h1 with h | ⟨h0, h | ⟨h1, h⟩ | ⟨h1, h2, h⟩ | ⟨h1, h2, h3, h⟩⟩
      · exact rbin_p_0 ty off x a y b (by simpa using h) w
      · exact rbin_p_1 ty off x a y b (by simpa using h0) h w
      · exact rbin_p_2 ty off x a y b (by simpa using h0) h1 h w
      · exact rbin_p_3 ty off x a y b (by simpa using h0) h1 h2 h w
      · exact rbin_p_4 ty off x a y b (by simpa using h0) h1 h2 h3 h w
    rw [hsec, if_neg k30] at h1
    have b30 : (op == 30) = false := by simpa using k30
    by_cases k14 : op = 14
    · subst k14
      rw [if_pos (by decide)] at h1
      rcases h1 with h | ⟨h0, h | ⟨h1, h⟩ | ⟨h1, h2, h⟩ | ⟨h1, h2, h3, h⟩⟩
      · exact rbin_c1_0 ty off x a y b (by simpa using h) w
      · exact rbin_c1_1 ty off x a y b (by simpa using h0) h w
      · exact rbin_c1_2 ty off x a y b (by simpa using h0) h1 h w
      · exact rbin_c1_3 ty off x a y b (by simpa using h0) h1 h2 h w
      · exact rbin_c1_4 ty off x a y b (by simpa using h0) h1 h2 h3 h w
    by_cases k15 : op = 15
    · subst k15
      rw [if_pos (by decide)] at h1
      rcases h1 with h | ⟨h0, h | ⟨h1, h⟩ | ⟨h1, h2, h⟩ | ⟨h1, h2, h3, h⟩⟩
      · exact rbin_c2_0 ty off x a y b (by simpa using h) w
      · exact rbin_c2_1 ty off x a y b (by simpa using h0) h w
      · exact rbin_c2_2 ty off x a y b (by simpa using h0) h1 h w
      · exact rbin_c2_3 ty off x a y b (by simpa using h0) h1 h2 h w
      · exact rbin_c2_4 ty off x a y b (by simpa using h0) h1 h2 h3 h w
    have b14 : (op == 14) = false := by simpa using k14
    have b15 : (op == 15) = false := by simpa using k15
    by_cases kc : 16 ≤ op ∧ op ≤ 19
    · rw [if_pos (.inr (.inr kc))] at h1
      rcases h1 with h | ⟨h0, h | ⟨h1, h⟩ | ⟨h1, h2, h⟩ | ⟨h1, h2, h3, h⟩⟩
      · exact rbin_c3_0 op ty off x a y b kc.1 kc.2 (by simpa using h) w
      · exact rbin_c3_1 op ty off x a y b kc.1 kc.2 (by simpa using h0) h w
      · exact rbin_c3_2 op ty off x a y b kc.1 kc.2 (by simpa using h0) h1 h w
      · exact rbin_c3_3 op ty off x a y b kc.1 kc.2 (by simpa using h0) h1 h2 h w
      · exact rbin_c3_4 op ty off x a y b kc.1 kc.2 (by simpa using h0) h1 h2 h3 h w
    rw [if_neg (by unfold cmpOp; omega)] at h1
    by_cases kl : 16 ≤ op
    · have g16 : decide ((16 : Int) ≤ op) = true := decide_eq_true kl
      have g19 : decide (op ≤ (19 : Int)) = false := decide_eq_false (by omega)
      rcases h1 with h | ⟨h0, h | ⟨h1, h⟩ | ⟨h1, h2, h⟩ | ⟨h1, h2, h3, h⟩⟩
      · exact rbin_n2_0 op ty off x a y b b14 b15 b30 g16 g19 (by simpa using h) w
      · exact rbin_n2_1 op ty off x a y b b14 b15 b30 g16 g19 (by simpa using h0) h w
      · exact rbin_n2_2 op ty off x a y b b14 b15 b30 g16 g19 (by simpa using h0) h1 h w
      · exact rbin_n2_3 op ty off x a y b b14 b15 b30 g16 g19 (by simpa using h0) h1 h2 h w
      · exact rbin_n2_4 op ty off x a y b b14 b15 b30 g16 g19 (by simpa using h0) h1 h2 h3 h w
    · have g16 : decide ((16 : Int) ≤ op) = false := decide_eq_false kl
      rcases h1 with h | ⟨h0, h | ⟨h1, h⟩ | ⟨h1, h2, h⟩ | ⟨h1, h2, h3, h⟩⟩
      · exact rbin_n1_0 op ty off x a y b b14 b15 b30 g16 (by simpa using h) w
      · exact rbin_n1_1 op ty off x a y b b14 b15 b30 g16 (by simpa using h0) h w
      · exact rbin_n1_2 op ty off x a y b b14 b15 b30 g16 (by simpa using h0) h1 h w
      · exact rbin_n1_3 op ty off x a y b b14 b15 b30 g16 (by simpa using h0) h1 h2 h w
      · exact rbin_n1_4 op ty off x a y b b14 b15 b30 g16 (by simpa using h0) h1 h2 h3 h w
  have hex := ex_sec (op := op) (ty := ty) (off := off) _ rfl
  by_cases h0 : Vb.second op ty off = 0
  · rw [bin_no (.inl h0)]
    exact err (.inl (by apply Classical.byContradiction; intro h; exact hex.1 h h0))
  have he := hex.2 h0
  have hs := second_sec h0
  cases hx : Vb.is ty x
  · rw [bin_no (.inr (.inl hx))]; exact err (.inr ⟨he, .inl hx⟩)
  cases ha : Vb.is ty a
  · rw [bin_no (.inr (.inr (.inl ha)))]; exact err (.inr ⟨he, .inr (.inl ⟨hx, ha⟩)⟩)
  cases hy : Vb.is (Rf.secTy op ty) y
  · rw [bin_no (.inr (.inr (.inr (.inl (by rw [hs]; exact hy)))))]; exact err (.inr ⟨he, .inr (.inr (.inl ⟨hx, ha, hy⟩))⟩)
  cases hb : Vb.is (Rf.secTy op ty) b
  · rw [bin_no (.inr (.inr (.inr (.inr (by rw [hs]; exact hb)))))]; exact err (.inr ⟨he, .inr (.inr (.inr ⟨hx, ha, hy, hb⟩))⟩)
  rw [bin_fine h0 hx ha (by rw [hs]; exact hy) (by rw [hs]; exact hb)]
  clear err hex
  obtain ⟨hl, hu⟩ := second_range h0
  have hp := second_128 h0
  have hw := words_32 h0
  rw [hsec] at hs he hy hb
  rcases (show op = 1 ∨ op = 2 ∨ op = 3 ∨ op = 4 ∨ op = 5 ∨ op = 6 ∨ op = 7 ∨ op = 8 ∨ op = 9 ∨ op = 10 ∨ op = 11 ∨ op = 12 ∨ op = 13 ∨ op = 14 ∨ op = 15 ∨ op = 16 ∨ op = 17 ∨ op = 18 ∨ op = 19 ∨ op = 20 ∨ op = 21 ∨ op = 22 ∨ op = 23 ∨ op = 24 ∨ op = 25 ∨ op = 26 ∨ op = 27 ∨ op = 28 ∨ op = 29 ∨ op = 30 by omega) with
    rfl | rfl | rfl | rfl | rfl | rfl | rfl | rfl | rfl | rfl | rfl | rfl | rfl | rfl | rfl | rfl | rfl | rfl | rfl | rfl | rfl | rfl | rfl | rfl | rfl | rfl | rfl | rfl | rfl | rfl
  all_goals (simp only [show ¬ ((1 : Int) = 30) by decide, show ¬ ((2 : Int) = 30) by decide, show ¬ ((3 : Int) = 30) by decide, show ¬ ((4 : Int) = 30) by decide, show ¬ ((5 : Int) = 30) by decide, show ¬ ((6 : Int) = 30) by decide, show ¬ ((7 : Int) = 30) by decide, show ¬ ((8 : Int) = 30) by decide, show ¬ ((9 : Int) = 30) by decide, show ¬ ((10 : Int) = 30) by decide,
    show ¬ ((11 : Int) = 30) by decide, show ¬ ((12 : Int) = 30) by decide, show ¬ ((13 : Int) = 30) by decide, show ¬ ((14 : Int) = 30) by decide, show ¬ ((15 : Int) = 30) by decide, show ¬ ((16 : Int) = 30) by decide, show ¬ ((17 : Int) = 30) by decide, show ¬ ((18 : Int) = 30) by decide, show ¬ ((19 : Int) = 30) by decide, show ¬ ((20 : Int) = 30) by decide,
    show ¬ ((21 : Int) = 30) by decide, show ¬ ((22 : Int) = 30) by decide, show ¬ ((23 : Int) = 30) by decide, show ¬ ((24 : Int) = 30) by decide, show ¬ ((25 : Int) = 30) by decide, show ¬ ((26 : Int) = 30) by decide, show ¬ ((27 : Int) = 30) by decide, show ¬ ((28 : Int) = 30) by decide, show ¬ ((29 : Int) = 30) by decide, if_false, if_true] at he hy hb)
  · obtain rfl := hw (by omega)
    rw [show Vb.binOp ⟨1, 32, off, x, a, y, b⟩ = V.word (Vb.added x.a a.a y.a b.a) from each_word added_z hx ha hy hb]
    exact rbin_1 32 off x a y b (by rw [if_neg (by decide)] at he; simpa using he) hx ha hy hb w
  · obtain rfl := hw (by omega)
    rw [show Vb.binOp ⟨2, 32, off, x, a, y, b⟩ = V.word (Vb.subtracted x.a a.a y.a b.a) from each_word subtracted_z hx ha hy hb]
    exact rbin_2 32 off x a y b (by rw [if_neg (by decide)] at he; simpa using he) hx ha hy hb w
  · obtain rfl := hw (by omega)
    exact rbin_3 32 off x a y b (by rw [if_neg (by decide)] at he; simpa using he) hx ha hy hb w
  · obtain rfl := hw (by omega)
    exact rbin_4 32 off x a y b (by rw [if_neg (by decide)] at he; simpa using he) hx ha hy hb w
  · obtain rfl := hw (by omega)
    exact rbin_5 32 off x a y b (by rw [if_neg (by decide)] at he; simpa using he) hx ha hy hb w
  · obtain rfl := hw (by omega)
    exact rbin_6 32 off x a y b (by rw [if_neg (by decide)] at he; simpa using he) hx ha hy hb w
  · obtain rfl := hw (by omega)
    exact rbin_7 32 off x a y b (by rw [if_neg (by decide)] at he; simpa using he) hx ha hy hb w
  · exact rbin_8 ty off x a y b (by rw [if_neg (by decide)] at he; simpa using he) hx ha hy hb w
  · rw [show Vb.binOp ⟨9, ty, off, x, a, y, b⟩ = (a.and ((Rf.not ty y).or b)).or (b.and ((Rf.not ty x).or a)) from by rw [not_eq hx, not_eq hy]; rfl]
    exact rbin_9 ty off x a y b (by rw [if_neg (by decide)] at he; simpa using he) hx ha hy hb w
  · exact rbin_10 ty off x a y b (by rw [if_neg (by decide)] at he; simpa using he) hx ha hy hb w
  · obtain rfl := hw (by omega)
    rw [show Vb.binOp ⟨11, 32, off, x, a, y, b⟩ = V.word ((a.a <<< (y.a &&& 31#32).toNat) ||| Vb.some (b.a &&& 31#32)) from by rw [← low5]; rfl]
    exact rbin_11 32 off x a y b (by rw [if_neg (by decide)] at he; simpa using he) hx ha hy hb w
  · obtain rfl := hw (by omega)
    rw [show Vb.binOp ⟨12, 32, off, x, a, y, b⟩ = V.word ((a.a >>> (y.a &&& 31#32).toNat) ||| Vb.some (b.a &&& 31#32)) from by rw [← low5]; rfl]
    exact rbin_12 32 off x a y b (by rw [if_neg (by decide)] at he; simpa using he) hx ha hy hb w
  · obtain rfl := hw (by omega)
    rw [show Vb.binOp ⟨13, 32, off, x, a, y, b⟩ = V.word ((a.a.sshiftRight (y.a &&& 31#32).toNat) ||| Vb.some (b.a &&& 31#32)) from by rw [← low5]; rfl]
    exact rbin_13 32 off x a y b (by rw [if_neg (by decide)] at he; simpa using he) hx ha hy hb w
  · rw [show Vb.binOp ⟨14, ty, off, x, a, y, b⟩ = V.word (Rf.bitOf (Rf.undecided (x.xor y) (a.or b))) from by rw [← one_bit]; rfl]
    exact rbin_14 ty off x a y b (by rw [if_pos (by decide)] at he; simpa using he) hx ha hy hb w
  · rw [show Vb.binOp ⟨15, ty, off, x, a, y, b⟩ = V.word (Rf.bitOf (Rf.undecided (x.xor y) (a.or b))) from by rw [← one_bit]; rfl]
    exact rbin_15 ty off x a y b (by rw [if_pos (by decide)] at he; simpa using he) hx ha hy hb w
  · obtain rfl := hw (by omega)
    rw [less16]
    exact rbin_16 32 off x a y b (by rw [if_pos (by decide)] at he; simpa using he) hx ha hy hb w
  · obtain rfl := hw (by omega)
    rw [less17]
    exact rbin_17 32 off x a y b (by rw [if_pos (by decide)] at he; simpa using he) hx ha hy hb w
  · obtain rfl := hw (by omega)
    rw [less18]
    exact rbin_18 32 off x a y b (by rw [if_pos (by decide)] at he; simpa using he) hx ha hy hb w
  · obtain rfl := hw (by omega)
    rw [less19]
    exact rbin_19 32 off x a y b (by rw [if_pos (by decide)] at he; simpa using he) hx ha hy hb w
  · rw [show Vb.binOp ⟨20, ty, off, x, a, y, b⟩ = Rf.lanedTo Vb.added x a y b 8 16 from (laned_eq Vb.added x a y b (s := 8) (.inl rfl)).symm]
    exact rbin_20 ty off x a y b (by rw [if_neg (by decide)] at he; simpa using he) hx ha hy hb w
  · rw [show Vb.binOp ⟨21, ty, off, x, a, y, b⟩ = Rf.lanedTo Vb.added x a y b 16 8 from (laned_eq Vb.added x a y b (s := 16) (.inr (.inl rfl))).symm]
    exact rbin_21 ty off x a y b (by rw [if_neg (by decide)] at he; simpa using he) hx ha hy hb w
  · rw [show Vb.binOp ⟨22, ty, off, x, a, y, b⟩ = Rf.lanedTo Vb.added x a y b 32 4 from (laned_eq Vb.added x a y b (s := 32) (.inr (.inr rfl))).symm]
    exact rbin_22 ty off x a y b (by rw [if_neg (by decide)] at he; simpa using he) hx ha hy hb w
  · rw [show Vb.binOp ⟨23, ty, off, x, a, y, b⟩ = Rf.lanedTo Vb.subtracted x a y b 8 16 from (laned_eq Vb.subtracted x a y b (s := 8) (.inl rfl)).symm]
    exact rbin_23 ty off x a y b (by rw [if_neg (by decide)] at he; simpa using he) hx ha hy hb w
  · rw [show Vb.binOp ⟨24, ty, off, x, a, y, b⟩ = Rf.lanedTo Vb.subtracted x a y b 16 8 from (laned_eq Vb.subtracted x a y b (s := 16) (.inr (.inl rfl))).symm]
    exact rbin_24 ty off x a y b (by rw [if_neg (by decide)] at he; simpa using he) hx ha hy hb w
  · rw [show Vb.binOp ⟨25, ty, off, x, a, y, b⟩ = Rf.lanedTo Vb.subtracted x a y b 32 4 from (laned_eq Vb.subtracted x a y b (s := 32) (.inr (.inr rfl))).symm]
    exact rbin_25 ty off x a y b (by rw [if_neg (by decide)] at he; simpa using he) hx ha hy hb w
  · rw [show Vb.binOp ⟨26, ty, off, x, a, y, b⟩ = Rf.lanedTo Rf.equal x a y b 8 16 from by rw [requal_eq]; exact (laned_eq Vb.equal x a y b (s := 8) (.inl rfl)).symm]
    exact rbin_26 ty off x a y b (by rw [if_neg (by decide)] at he; simpa using he) hx ha hy hb w
  · rw [show Vb.binOp ⟨27, ty, off, x, a, y, b⟩ = Rf.lanedTo Rf.equal x a y b 16 8 from by rw [requal_eq]; exact (laned_eq Vb.equal x a y b (s := 16) (.inr (.inl rfl))).symm]
    exact rbin_27 ty off x a y b (by rw [if_neg (by decide)] at he; simpa using he) hx ha hy hb w
  · rw [show Vb.binOp ⟨28, ty, off, x, a, y, b⟩ = Rf.lanedTo Rf.equal x a y b 32 4 from by rw [requal_eq]; exact (laned_eq Vb.equal x a y b (s := 32) (.inr (.inr rfl))).symm]
    exact rbin_28 ty off x a y b (by rw [if_neg (by decide)] at he; simpa using he) hx ha hy hb w
  · rw [show Vb.binOp ⟨29, ty, off, x, a, y, b⟩ = Rf.shufTo a y b 16 from (shuf_eq a y b).symm]
    exact rbin_29 ty off x a y b (by rw [if_neg (by decide)] at he; simpa using he) hx ha hy hb w
  · obtain ⟨rfl, o0, o3⟩ := hp rfl
    have he' : (Rf.exBin 30 128 32 128 off != 0) = true := by rw [if_neg (by decide)] at he; simpa using he
    rcases (show off = 0 ∨ off = 1 ∨ off = 2 ∨ off = 3 by omega) with rfl | rfl | rfl | rfl
    · exact rbin_30_0 128 x a y b he' hx ha hy hb w
    · exact rbin_30_1 128 x a y b he' hx ha hy hb w
    · exact rbin_30_2 128 x a y b he' hx ha hy hb w
    · exact rbin_30_3 128 x a y b he' hx ha hy hb w
end Go.Proofs.YtboknfppecgjmaaGreat
namespace Go.Proofs.YtboknfppecgjmaaGreat
set_option linter.unusedVariables false
set_option linter.unusedSimpArgs false
open Go.RowKit Go.Shelf
abbrev BinF (f : FuncId) (op ty off : Int) (x a y b s : V) (n : Int) : Prop := ∀ w, Calls Tryz.prog f #[iv op, iv ty, iv off, vv x, vv a, vv y, vv b] w fun e w' => e = .returned (.tuple #[vv s, iv n]) ∧ Below w.heap.size w w'
abbrev ExF (f : FuncId) (op : Int) (b : V) (r : Bool) : Prop := ∀ w, Calls Tryz.prog f #[iv op, vv b] w fun e w' => e = .returned (.bool r) ∧ Below w.heap.size w w'
set_option maxRecDepth 100000 in
set_option maxHeartbeats 8000000 in
theorem vbinary_w (HS : Hid SaneC) (op ty off : Int) (x a y b s : V) (n : Int) (r : Bool) (H1 : Hid (BinF 21 op ty off x a y b s n)) (H2 : Hid (BinF 23 op ty off x a y b s n))
    (H3 : Hid (ExF 24 op b r)) (H4 : Hid (ExF 25 op b r)) (w : World) :
    Calls Tryz.prog 5 #[iv op, iv ty, iv off, vv x, vv a, vv y, vv b] w fun e w' => e = .returned (.bool true) ∧ Below w.heap.size w w' := by
  go_enter Tryz.func5, Tryz.ntmps5
  go_wp2_with (go_at_call 7; refine (HS.out _ ).mono ?_; rintro e w1 ⟨rfl, hb⟩; obtain ⟨hc, hf⟩ := Flow.bcell hb; have hz := hb.size; (try simp only [World.size_alloc, World.size_setCell, World.size_drew] at hz); obtain ⟨z0, z1, z2, z3⟩ := Flow.zs4 (show w.heap.size + 4 ≤ w1.heap.size by omega))
  (refine (H1.out _ ).mono ?_; rintro e u1 ⟨rfl, hb⟩; obtain ⟨hc, hf⟩ := Flow.bcell hb; have hz := hb.size; (try simp only [World.size_alloc, World.size_setCell, World.size_drew] at hz); obtain ⟨z0, z1, z2, z3⟩ := Flow.zs4 (show w.heap.size + 4 ≤ u1.heap.size by omega))
  have k1 : w.heap.size + 3 < u1.heap.size := by omega
  go_wp2_with fail
  (refine (H2.out _ ).mono ?_; rintro e u2 ⟨rfl, hb⟩; obtain ⟨hc, hf⟩ := Flow.bcell hb; have hz := hb.size; (try simp only [World.size_alloc, World.size_setCell, World.size_drew] at hz); obtain ⟨z0, z1, z2, z3⟩ := Flow.zs4 (show w.heap.size + 4 ≤ u2.heap.size by omega))
  have k2 : u1.heap.size < u2.heap.size := by omega
  go_wp2_with fail
  refine Flow.wp_region_below 17 (by kernel_rfl) (by kernel_rfl) (fun R hRc hRt => ?_)
  simp only [List.take_succ_cons, List.take_zero, List.drop_succ_cons, List.drop_zero]
  iterate 17
    first
      | refine Flow.flow_skip rfl ?_
      | (apply Flow.flow_step; rfl; (intro w1 hb; have hc := hRc.out w1 hb; go_simp; (first | with_reducible exact ⟨rfl, hb⟩ | (go_at_call 24; refine (H3.out _ ).mono ?_; rintro e w2 ⟨rfl, hb2⟩; exact ⟨_, rfl, rfl, hRt.out _ _ hb hb2⟩) | (go_at_call 25; refine (H4.out _ ).mono ?_; rintro e w2 ⟨rfl, hb2⟩; exact ⟨_, rfl, rfl, hRt.out _ _ hb hb2⟩))))
      | (apply Flow.flow_guardT rfl rfl rfl; (intro hg w1 hb; have hc := hRc.out w1 hb; go_simp; (first | with_reducible exact ⟨rfl, hb⟩ | (go_at_call 24; refine (H3.out _ ).mono ?_; rintro e w2 ⟨rfl, hb2⟩; exact ⟨_, rfl, rfl, hRt.out _ _ hb hb2⟩) | (go_at_call 25; refine (H4.out _ ).mono ?_; rintro e w2 ⟨rfl, hb2⟩; exact ⟨_, rfl, rfl, hRt.out _ _ hb hb2⟩))))
      | (apply Flow.flow_guardF rfl rfl rfl; (intro hg w1 hb; have hc := hRc.out w1 hb; go_simp; (first | with_reducible exact ⟨rfl, hb⟩ | (go_at_call 24; refine (H3.out _ ).mono ?_; rintro e w2 ⟨rfl, hb2⟩; exact ⟨_, rfl, rfl, hRt.out _ _ hb hb2⟩) | (go_at_call 25; refine (H4.out _ ).mono ?_; rintro e w2 ⟨rfl, hb2⟩; exact ⟨_, rfl, rfl, hRt.out _ _ hb hb2⟩))))
      | (apply Flow.flow_guardT2 rfl rfl rfl; (intro hp hg w1 hb; have hc := hRc.out w1 hb; go_simp; (first | with_reducible exact ⟨rfl, hb⟩ | (go_at_call 24; refine (H3.out _ ).mono ?_; rintro e w2 ⟨rfl, hb2⟩; exact ⟨_, rfl, rfl, hRt.out _ _ hb hb2⟩) | (go_at_call 25; refine (H4.out _ ).mono ?_; rintro e w2 ⟨rfl, hb2⟩; exact ⟨_, rfl, rfl, hRt.out _ _ hb hb2⟩))))
      | (apply Flow.flow_guardF2 rfl rfl rfl; (intro hp hg w1 hb; have hc := hRc.out w1 hb; go_simp; (first | with_reducible exact ⟨rfl, hb⟩ | (go_at_call 24; refine (H3.out _ ).mono ?_; rintro e w2 ⟨rfl, hb2⟩; exact ⟨_, rfl, rfl, hRt.out _ _ hb hb2⟩) | (go_at_call 25; refine (H4.out _ ).mono ?_; rintro e w2 ⟨rfl, hb2⟩; exact ⟨_, rfl, rfl, hRt.out _ _ hb hb2⟩))))
    simp only [Act.put, List.setIfInBounds_toArray, List.set_cons_zero, List.set_cons_succ]
  apply Flow.flow_nil
  clear hRc hRt
  intro w1 hb
  obtain ⟨hc, hf⟩ := Flow.bcell hb
  have hz := hb.size
  (try simp only [World.size_alloc, World.size_setCell, World.size_drew] at hz)
  obtain ⟨z0, z1, z2, z3⟩ := Flow.zs4 (show w.heap.size + 4 ≤ w1.heap.size by omega)
  go_wp2_with fail
  go_ret
  exact ⟨rfl, by (repeat (first | exact Below.refl _ _ | refine Below.setCell ?_ (by first | omega | (simp <;> omega)) _ | refine Below.alloc ?_ (by first | omega | (simp <;> omega)) _ | refine Below.drew ?_ | refine Below.trans ?_ (Below.mono (by assumption) (by first | omega | (simp <;> omega)))))⟩
theorem vbinary_c (HS : Hid SaneC) (op ty off : Int) (x a y b : V) (w : World) :
    Calls Tryz.prog 5 #[iv op, iv ty, iv off, vv x, vv a, vv y, vv b] w fun e w' => e = .returned (.bool true) ∧ Below w.heap.size w w' := by
  have H1 : BinF 21 op ty off x a y b _ _ := fun w => bin_c op ty off x a y b w
  have H2 : BinF 23 op ty off x a y b _ _ := fun w => rbinx_c op ty off x a y b w
  have H3 : ExF 24 op b _ := fun w => vexact_c op b w
  have H4 : ExF 25 op b _ := fun w => rexact_c op b w
  exact vbinary_w HS op ty off x a y b _ _ _ H1 H2 H3 H4 w
end Go.Proofs.YtboknfppecgjmaaGreat
namespace Go.Proofs.YtboknfppecgjmaaGreat.vbitsBinary
set_option linter.unusedVariables false
set_option linter.unusedSimpArgs false
open Go.ChangeShapes Go.WideShapes Go.ChangeAt Go.RowKit
set_option maxRecDepth 100000 in
theorem lifted (os : Os) (started : os.Started) (H : Type) (enc : TypeId × Value → H) :
    ReturnsInHanded {} Tryz.checked os 5 .any (Rows.vbitsBinarySpec.pre6 enc Tryz.prog Tryz.f5 Rows.vbitsBinaryRow.domain false) (Rows.vbitsBinarySpec.post enc Tryz.prog Tryz.f5 false true false false) := by
  refine returnsInHanded_of_change (C := Tryz.checked) own started (by kernel_rfl) Tryz.func5
    (ChangeSpec.witness6 (enc := enc) (C := Tryz.checked) false ⟨#[], #[.int .i64 0, .int .i64 0, .int .i64 0, .agg #[.int .u32 0, .int .u32 0, .int .u32 0, .int .u32 0], .agg #[.int .u32 0, .int .u32 0, .int .u32 0, .int .u32 0], .agg #[.int .u32 0, .int .u32 0, .int .u32 0, .int .u32 0], .agg #[.int .u32 0, .int .u32 0, .int .u32 0, .int .u32 0]], []⟩ 8 (by kernel_rfl) (by kernel_rfl) (by kernel_rfl) (by kernel_rfl)) ?_
  intro W base args ds gs before hval0 hW hcnd _
  have hval : ∀ (j : Nat) t v, Tryz.f5.params[j]? = some t → args[j]? = some v → Value.okWide Tryz.prog W .any base t v := hval0
  have hW' := hW
  obtain ⟨p, q, hA0, hV, rfl, hfz, hnd⟩ := hW
  have hA : DataW.TrodAll enc Tryz.prog W 0 (fun _ => true) true Tryz.f5.params.toList args.toList ds p := hA0
  rw [Tryz.params5] at hA hval
  obtain ⟨v0, vs0, d0, ds0, p0, q0, hargs, rfl, rfl, h0, r0⟩ := trodAll_cons hA
  obtain ⟨v1, vs1, d1, ds1, p1, q1, rfl, rfl, rfl, h1, r1⟩ := trodAll_cons r0
  obtain ⟨v2, vs2, d2, ds2, p2, q2, rfl, rfl, rfl, h2, r2⟩ := trodAll_cons r1
  obtain ⟨v3, vs3, d3, ds3, p3, q3, rfl, rfl, rfl, h3, r3⟩ := trodAll_cons r2
  obtain ⟨v4, vs4, d4, ds4, p4, q4, rfl, rfl, rfl, h4, r4⟩ := trodAll_cons r3
  obtain ⟨v5, vs5, d5, ds5, p5, q5, rfl, rfl, rfl, h5, r5⟩ := trodAll_cons r4
  obtain ⟨v6, vs6, d6, ds6, p6, q6, rfl, rfl, rfl, h6, r6⟩ := trodAll_cons r5
  obtain ⟨rfl, rfl, rfl⟩ := trodAll_nil r6
  obtain rfl : args = #[v0, v1, v2, v3, v4, v5, v6] := by cases args; simp_all
  obtain ⟨rfl, rfl⟩ := trodVars_none hV
  obtain ⟨a0, rfl, rfl, rfl, w0⟩ := open_int Tryz.underlying3 (hval 0 3 v0 rfl rfl) h0
  obtain ⟨a1, rfl, rfl, rfl, w1⟩ := open_int Tryz.underlying3 (hval 1 3 v1 rfl rfl) h1
  obtain ⟨a2, rfl, rfl, rfl, w2⟩ := open_int Tryz.underlying3 (hval 2 3 v2 rfl rfl) h2
  obtain ⟨a3, rfl, rfl, rfl⟩ := open_vec Tryz.underlying24 Tryz.underlying22 cells_u32 cells_Vec (hval 3 24 v3 rfl rfl) h3
  obtain ⟨a4, rfl, rfl, rfl⟩ := open_vec Tryz.underlying24 Tryz.underlying22 cells_u32 cells_Vec (hval 4 24 v4 rfl rfl) h4
  obtain ⟨a5, rfl, rfl, rfl⟩ := open_vec Tryz.underlying24 Tryz.underlying22 cells_u32 cells_Vec (hval 5 24 v5 rfl rfl) h5
  obtain ⟨a6, rfl, rfl, rfl⟩ := open_vec Tryz.underlying24 Tryz.underlying22 cells_u32 cells_Vec (hval 6 24 v6 rfl rfl) h6
  clear hA0 hval0
  refine (vbinary_c saneHid a0 a1 a2 a3 a4 a5 a6 W ).mono fun e W' ⟨he, hg⟩ => ?_
  subst he
  exact ⟨_, rfl, post_law laidOut (by kernel_rfl) rfl rfl Tryz.underlying4 hW' hg rfl rfl rfl⟩
theorem over : Rows.vbitsBinaryRow.holds Tryz.pinned (OpenSpec.ofChange Rows.vbitsBinarySpec) :=
  OpenClaim.holds_of_wide 5 Tryz.f5 rfl rfl rfl rfl rfl rfl rfl ⟨rfl, rfl, rfl, rfl, rfl⟩ rfl rfl rfl rfl rfl (by kernel_rfl) Tryz.func5 (by kernel_rfl)
    (of_decide_eq_true (by kernel_rfl)) (by unfold Func.isWrapper; first | (rw [if_pos (by decide +kernel)]; kernel_rfl) | (rw [if_neg (by decide +kernel)]; exact ⟨rfl, rfl⟩))
    (fun os started H enc _ => lifted os started H enc)
end Go.Proofs.YtboknfppecgjmaaGreat.vbitsBinary
namespace Go.Proofs.YtboknfppecgjmaaGreat
set_option linter.unusedVariables false
set_option linter.unusedSimpArgs false
theorem vbitsBinary_holds : Rows.VbitsBinarySaid := vbitsBinary.over
#print axioms vbitsBinary_holds
end Go.Proofs.YtboknfppecgjmaaGreat
