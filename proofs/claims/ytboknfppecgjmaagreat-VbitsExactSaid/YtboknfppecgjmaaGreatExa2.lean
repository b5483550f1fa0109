/- Part 2 of the proof's texts: Spec, RefSpec, Plain, PlainB, PlainC, ExSpec, PlainD, PlainE. -/

set_option maxHeartbeats 16000000
namespace Go.Proofs.YtboknfppecgjmaaGreat
set_option linter.unusedVariables false
set_option linter.unusedSimpArgs false
structure V where
  a : BitVec 32
  b : BitVec 32
  c : BitVec 32
  d : BitVec 32
deriving DecidableEq
namespace V
def map2 (f : BitVec 32 → BitVec 32 → BitVec 32) (x y : V) : V := ⟨f x.a y.a, f x.b y.b, f x.c y.c, f x.d y.d⟩
def and (x y : V) : V := map2 (· &&& ·) x y
def or (x y : V) : V := map2 (· ||| ·) x y
def xor (x y : V) : V := map2 (· ^^^ ·) x y
def without (x y : V) : V := map2 (fun x y => x &&& ~~~y) x y
def zero : V := ⟨0#32, 0#32, 0#32, 0#32⟩
def all : V := ⟨0xffffffff#32, 0xffffffff#32, 0xffffffff#32, 0xffffffff#32⟩
def isZero (x : V) : Bool := decide (x = zero)
def word (w : BitVec 32) : V := ⟨w, 0#32, 0#32, 0#32⟩
def get (x : V) (i : Nat) : BitVec 32 := if i = 0 then x.a else if i = 1 then x.b else if i = 2 then x.c else x.d
def set (x : V) (i : Nat) (w : BitVec 32) : V := ⟨if i = 0 then w else x.a, if i = 1 then w else x.b, if i = 2 then w else x.c, if i = 3 then w else x.d⟩
def gen (f : Nat → BitVec 32) : V := ⟨f 0, f 1, f 2, f 3⟩
end V
/-! ## vbits -/
namespace Vb
def one (b : Bool) : V := if b then V.word 1#32 else V.zero
def ones (ty : Int) : V :=
  if ty = 1 then V.word 1#32 else if ty = 8 then V.word 255#32 else if ty = 16 then V.word 65535#32 else if ty = 32 then V.word 4294967295#32 else if ty = 128 then V.all else V.zero
def isType (ty : Int) : Bool := !(ones ty).isZero
def is (ty : Int) (x : V) : Bool := isType ty && (x.without (ones ty)).isZero
def left (z : BitVec 32) : BitVec 32 := z ||| -z
def some (z : BitVec 32) : BitVec 32 := if z = 0 then 0 else 4294967295#32
def added (x a y b : BitVec 32) : BitVec 32 := a ||| b ||| (((x &&& ~~~a) + (y &&& ~~~b)) ^^^ ((x ||| a) + (y ||| b)))
def subtracted (x a y b : BitVec 32) : BitVec 32 := a ||| b ||| (((x &&& ~~~a) - (y ||| b)) ^^^ ((x ||| a) - (y &&& ~~~b)))
def equal (x a y b : BitVec 32) : BitVec 32 := if (x ^^^ y) &&& ~~~(a ||| b) = 0 then some (a ||| b) else 0
def least (x a : BitVec 32) : BitVec 32 := x &&& ~~~a
def greatest (x a : BitVec 32) : BitVec 32 := x ||| a
def fill (ty : Int) (x a by_ : V) : V := ((x.without a).or (by_.and a)).and (ones ty)
def lanesFrom (width : Nat) (f : BitVec 32 → BitVec 32 → BitVec 32 → BitVec 32 → BitVec 32) (x a y b : BitVec 32) : Nat → Nat → BitVec 32 → BitVec 32
  | 0, _, acc => acc
  | n + 1, at_, acc =>
    let m : BitVec 32 := ((1#32 <<< width) - 1#32) <<< at_
    lanesFrom width f x a y b n (at_ + width) (acc ||| ((f ((x &&& m) >>> at_) ((a &&& m) >>> at_) ((y &&& m) >>> at_) ((b &&& m) >>> at_) <<< at_) &&& m))
def eachWord (width : Nat) (f : BitVec 32 → BitVec 32 → BitVec 32 → BitVec 32 → BitVec 32) (x a y b : BitVec 32) : BitVec 32 := lanesFrom width f x a y b (32 / width) 0 0
def each (width : Nat) (x a y b : V) (f : BitVec 32 → BitVec 32 → BitVec 32 → BitVec 32 → BitVec 32) : V :=
  ⟨eachWord width f x.a a.a y.a b.a, eachWord width f x.b a.b y.b b.b, eachWord width f x.c a.c y.c b.c, eachWord width f x.d a.d y.d b.d⟩
def unLane (x a _y _b : BitVec 32) : BitVec 32 := if x &&& ~~~a = 0 then some a else 0
structure Unary where
  x : V
  a : V
  from_ : Int
  to : Int
  off : Int
structure Binary where
  op : Int
  ty : Int
  off : Int
  x : V
  a : V
  y : V
  b : V
def Unary.not (u : Unary) : V := u.a
def Unary.same (u : Unary) : V := u.a.and (ones u.to)
def Unary.nz (u : Unary) : V := one (!u.a.isZero && (u.x.without u.a).isZero)
def Unary.left (u : Unary) : V := V.word (Vb.left u.a.a &&& ~~~Vb.left (u.x.a &&& ~~~u.a.a))
def Unary.splat (u : Unary) : V := ⟨u.a.a, u.a.a, u.a.a, u.a.a⟩
def Unary.word (u : Unary) : V := V.word (u.a.get u.off.toNat)
def Unary.sext (u : Unary) : V :=
  if u.a.a &&& ((ones u.from_).a &&& ~~~((ones u.from_).a >>> 1)) ≠ 0 then u.a.or ((ones 32).without (ones u.from_)) else u.a
def Unary.fill (u : Unary) : V := if u.a.a = 1 then ones u.to else V.zero
def maskTo (a : V) : Nat → BitVec 32
  | 0 => 0
  | n + 1 => maskTo a n ||| ((((a.get (n / 4)) >>> (8 * (n % 4) + 7)) &&& 1) <<< n)
def Unary.mask (u : Unary) : V := V.word (maskTo u.a 16)
def Unary.lanes (u : Unary) (width : Nat) : V := each width u.x u.a V.zero V.zero unLane
def isUn (op from_ to off : Int) : Bool :=
  let small := from_ == 1 || from_ == 8 || from_ == 16
  if !isType from_ || !isType to || (off != 0 && (op != 12 || decide (off < 0) || decide (3 < off))) then false
  else if op = 1 then from_ == to
  else if op = 2 ∨ op = 3 then small && to == 32
  else if op = 4 then from_ == 32 && (to == 8 || to == 16)
  else if op = 5 then to == 1
  else if op = 6 then from_ == 1 && to != 1
  else if op = 7 then from_ == 32 && to == 32
  else if op = 8 ∨ op = 9 ∨ op = 10 then from_ == 128 && to == 128
  else if op = 11 then from_ == 32 && to == 128
  else if op = 12 ∨ op = 13 then from_ == 128 && to == 32
  else false
def unOp (op : Int) (u : Unary) : V :=
  if op = 1 then u.not else if op = 2 then u.same else if op = 3 then u.sext else if op = 4 then u.same else if op = 5 then u.nz else if op = 6 then u.fill
  else if op = 7 then u.left else if op = 8 then u.lanes 8 else if op = 9 then u.lanes 16 else if op = 10 then u.lanes 32 else if op = 11 then u.splat else if op = 12 then u.word else u.mask
def un (op from_ to off : Int) (x a : V) : V × Int :=
  if !isUn op from_ to off || !is from_ x || !is from_ a then (V.zero, 1) else (unOp op ⟨x, a, from_, to, off⟩, 0)
def Binary.and (o : Binary) : V := (o.a.and (o.y.or o.b)).or (o.b.and (o.x.or o.a))
def Binary.or (o : Binary) : V := (o.a.and (((ones o.ty).without o.y).or o.b)).or (o.b.and (((ones o.ty).without o.x).or o.a))
def Binary.xor (o : Binary) : V := o.a.or o.b
def Binary.mul (o : Binary) : V := V.word (Vb.left (o.a.a ||| o.b.a))
def Binary.any (o : Binary) : V := V.word (Vb.some (o.a.a ||| o.b.a))
def Binary.shift (o : Binary) : V :=
  let n := o.y.a.toNat % 32
  V.word ((if o.op = 11 then o.a.a <<< n else if o.op = 12 then o.a.a >>> n else o.a.a.sshiftRight n) ||| Vb.some (o.b.a &&& 31))
def Binary.same (o : Binary) : V := one (!(o.a.or o.b).isZero && ((o.x.xor o.y).without (o.a.or o.b)).isZero)
def lessOp (op : Int) (x y : BitVec 32) : Bool := decide (x < y) || (decide (x = y) && (op == 18 || op == 19))
def flip (op : Int) : BitVec 32 := if op = 17 ∨ op = 19 then 2147483648#32 else 0
def Binary.less (o : Binary) : V :=
  let x := o.x.a ^^^ flip o.op
  let y := o.y.a ^^^ flip o.op
  one (lessOp o.op (least x o.a.a) (greatest y o.b.a) != lessOp o.op (greatest x o.a.a) (least y o.b.a))
def shufByte (a y b : V) (i : Nat) : BitVec 32 :=
  let k := ((y.get (i / 4)) >>> (8 * (i % 4)) &&& 15).toNat
  if (b.get (i / 4)) >>> (8 * (i % 4)) &&& 15 ≠ 0 then 255 else (a.get (k / 4)) >>> (8 * (k % 4)) &&& 255
def shufWord (a y b : V) (j : Nat) : BitVec 32 :=
  (shufByte a y b (4 * j)) ||| (shufByte a y b (4 * j + 1) <<< 8) ||| (shufByte a y b (4 * j + 2) <<< 16) ||| (shufByte a y b (4 * j + 3) <<< 24)
def Binary.shuf (o : Binary) : V := V.gen (shufWord o.a o.y o.b)
def Binary.put (o : Binary) : V := o.a.set o.off.toNat o.b.a
def Binary.lane (o : Binary) (width : Nat) (f : BitVec 32 → BitVec 32 → BitVec 32 → BitVec 32 → BitVec 32) : V := each width o.x o.a o.y o.b f
def second (op ty off : Int) : Int :=
  let words := (decide (1 ≤ op) && decide (op ≤ 7)) || (decide (11 ≤ op) && decide (op ≤ 13)) || (decide (16 ≤ op) && decide (op ≤ 19))
  let anyType := (decide (8 ≤ op) && decide (op ≤ 10)) || op == 14 || op == 15
  if op = 30 ∧ ty = 128 ∧ 0 ≤ off ∧ off ≤ 3 then 32
  else if off ≠ 0 then 0
  else if (words && ty == 32) || (anyType && isType ty) || (decide (20 ≤ op) && decide (op ≤ 29) && ty == 128) then ty
  else 0
def binOp (o : Binary) : V :=
  if o.op = 1 then o.lane 32 added else if o.op = 2 then o.lane 32 subtracted else if o.op = 3 then o.mul else if o.op = 4 ∨ o.op = 5 ∨ o.op = 6 ∨ o.op = 7 then o.any
  else if o.op = 8 then o.and else if o.op = 9 then o.or else if o.op = 10 then o.xor else if o.op = 11 ∨ o.op = 12 ∨ o.op = 13 then o.shift
  else if o.op = 14 ∨ o.op = 15 then o.same else if o.op = 16 ∨ o.op = 17 ∨ o.op = 18 ∨ o.op = 19 then o.less
  else if o.op = 20 then o.lane 8 added else if o.op = 21 then o.lane 16 added else if o.op = 22 then o.lane 32 added
  else if o.op = 23 then o.lane 8 subtracted else if o.op = 24 then o.lane 16 subtracted else if o.op = 25 then o.lane 32 subtracted
  else if o.op = 26 then o.lane 8 equal else if o.op = 27 then o.lane 16 equal else if o.op = 28 then o.lane 32 equal
  else if o.op = 29 then o.shuf else o.put
def bin (op ty off : Int) (x a y b : V) : V × Int :=
  if second op ty off = 0 ∨ is ty x = false ∨ is ty a = false ∨ is (second op ty off) y = false ∨ is (second op ty off) b = false then (V.zero, 1)
  else (binOp ⟨op, ty, off, x, a, y, b⟩, 0)
def mux (ty : Int) (c d x a y b : V) : V × Int :=
  if is ty x = false ∨ is ty a = false ∨ is ty y = false ∨ is ty b = false ∨ is 1 c = false ∨ is 1 d = false then (V.zero, 1)
  else if d.a = 1 then (((x.xor y).or a).or b, 0)
  else if c.a = 1 then (a, 0) else (b, 0)
def call (op : Int) (s : List (BitVec 32)) : BitVec 32 × Int :=
  if op = 1 ∧ s.length = 4 then (if s.all (· == 0) then 0 else 15, 0)
  else if op = 2 ∧ s.length = 5 then (if s.all (· == 0) then 0 else 1, 0)
  else (0, 1)
end Vb
end Go.Proofs.YtboknfppecgjmaaGreat
namespace Go.Proofs.YtboknfppecgjmaaGreat
set_option linter.unusedVariables false
set_option linter.unusedSimpArgs false
namespace Rf
def bytes (ty : Int) : Int := if ty = 1 ∨ ty = 8 then 1 else if ty = 16 then 2 else if ty = 32 then 4 else if ty = 128 then 16 else 0
def storable (ty : Int) : Bool := ty != 1 && decide (0 < bytes ty)
def fits (ty : Int) (v : V) : Bool :=
  if ty ≠ 128 ∧ (v.b ≠ 0#32 ∨ v.c ≠ 0#32 ∨ v.d ≠ 0#32) then false
  else if ty = 1 then decide (v.a < 2#32) else if ty = 8 then decide (v.a < 256#32) else if ty = 16 then decide (v.a < 65536#32) else decide (0 < bytes ty)
def mux (ty : Int) (c d x a y b : V) : V × Int :=
  if bytes ty = 0 ∨ fits 1 c = false ∨ fits 1 d = false ∨ fits ty x = false ∨ fits ty a = false ∨ fits ty y = false ∨ fits ty b = false then (V.zero, 1)
  else if d.a = 1#32 then ((x.xor y).or (a.or b), 0)
  else if c.a = 1#32 then (a, 0) else (b, 0)
def call (op : Int) (s : List (BitVec 32)) : BitVec 32 × Int :=
  if ¬ ((op = 1 ∧ s.length = 4) ∨ (op = 2 ∧ s.length = 5)) then (0#32, 1)
  else if s.any (· != 0#32) = false then (0#32, 0) else if op = 1 then (15#32, 0) else (1#32, 0)
def not (ty : Int) (x : V) : V := (Vb.ones ty).xor x
def fill (ty : Int) (x a b : V) : V := (Vb.ones ty).and ((x.and (a.xor V.all)).or (b.and a))
end Rf
end Go.Proofs.YtboknfppecgjmaaGreat
namespace Go.Proofs.YtboknfppecgjmaaGreat
set_option linter.unusedVariables false
set_option linter.unusedSimpArgs false
theorem bv_low (k : Nat) (x m : BitVec 32) (hm : m.toNat = 2 ^ k - 1) : (x &&& ~~~m = 0#32) ↔ x.toNat < 2 ^ k := by
  have hbit : ∀ i, m.getLsbD i = decide (i < k) := by
    intro i
    rw [BitVec.getLsbD, hm, Nat.testBit_two_pow_sub_one]
  constructor
  · intro h
    apply Nat.lt_pow_two_of_testBit
    intro i hi
    have h1 : (x &&& ~~~m).getLsbD i = false := by rw [h]; simp
    rw [BitVec.getLsbD_and, BitVec.getLsbD_not, hbit] at h1
    by_cases h32 : i < 32
    · have : x.getLsbD i = false := by
        simpa [h32, show ¬ i < k by omega] using h1
      exact this
    · exact Nat.testBit_lt_two_pow (Nat.lt_of_lt_of_le x.isLt (Nat.pow_le_pow_right (by omega) (by omega)))
  · intro h
    apply BitVec.eq_of_getLsbD_eq
    intro i hi
    rw [BitVec.getLsbD_and, BitVec.getLsbD_not, hbit]
    by_cases hk : i < k
    · simp [hk, hi]
    · have : x.getLsbD i = false := Nat.testBit_lt_two_pow (Nat.lt_of_lt_of_le h (Nat.pow_le_pow_right (by omega) (by omega)))
      simp [this]
theorem bv_all (x : BitVec 32) : x &&& 4294967295#32 = x := BitVec.and_allOnes
theorem bv_low1 (x : BitVec 32) : (x &&& 4294967294#32 = 0#32) ↔ x.toNat < 2 := bv_low 1 x 1#32 rfl
theorem bv_low8 (x : BitVec 32) : (x &&& 4294967040#32 = 0#32) ↔ x.toNat < 256 := bv_low 8 x 255#32 rfl
theorem bv_low16 (x : BitVec 32) : (x &&& 4294901760#32 = 0#32) ↔ x.toNat < 65536 := bv_low 16 x 65535#32 rfl
theorem isZero_iff (x : V) : x.isZero = true ↔ x.a = 0#32 ∧ x.b = 0#32 ∧ x.c = 0#32 ∧ x.d = 0#32 := by
  cases x; simp [V.isZero, V.zero]
theorem ones_1 : Vb.ones 1 = ⟨1#32, 0#32, 0#32, 0#32⟩ := rfl
theorem ones_8 : Vb.ones 8 = ⟨255#32, 0#32, 0#32, 0#32⟩ := rfl
theorem ones_16 : Vb.ones 16 = ⟨65535#32, 0#32, 0#32, 0#32⟩ := rfl
theorem ones_32 : Vb.ones 32 = ⟨4294967295#32, 0#32, 0#32, 0#32⟩ := rfl
theorem ones_128 : Vb.ones 128 = ⟨4294967295#32, 4294967295#32, 4294967295#32, 4294967295#32⟩ := rfl
theorem ones_other {ty : Int} (h1 : ty ≠ 1) (h2 : ty ≠ 8) (h3 : ty ≠ 16) (h4 : ty ≠ 32) (h5 : ty ≠ 128) : Vb.ones ty = V.zero := by
  simp [Vb.ones, h1, h2, h3, h4, h5]
theorem isType_iff (ty : Int) : Vb.isType ty = true ↔ ty = 1 ∨ ty = 8 ∨ ty = 16 ∨ ty = 32 ∨ ty = 128 := by
  by_cases e1 : ty = 1
  · subst e1; simp; rfl
  by_cases e2 : ty = 8
  · subst e2; simp; rfl
  by_cases e3 : ty = 16
  · subst e3; simp; rfl
  by_cases e4 : ty = 32
  · subst e4; simp; rfl
  by_cases e5 : ty = 128
  · subst e5; simp; rfl
  rw [Vb.isType, ones_other e1 e2 e3 e4 e5]
  simp [e1, e2, e3, e4, e5, V.isZero]
theorem is_eq_fits (ty : Int) (x : V) : Vb.is ty x = Rf.fits ty x := by
  rw [Bool.eq_iff_iff]
  by_cases e1 : ty = 1
  · subst e1
    simp [Vb.is, (isType_iff 1).2, isZero_iff, ones_1, V.without, V.map2, bv_low1, bv_all, Rf.fits, BitVec.lt_def, and_comm]
  by_cases e2 : ty = 8
  · subst e2
    simp [Vb.is, (isType_iff 8).2, isZero_iff, ones_8, V.without, V.map2, bv_low8, bv_all, Rf.fits, BitVec.lt_def, and_comm]
  by_cases e3 : ty = 16
  · subst e3
    simp [Vb.is, (isType_iff 16).2, isZero_iff, ones_16, V.without, V.map2, bv_low16, bv_all, Rf.fits, BitVec.lt_def, and_comm]
  by_cases e4 : ty = 32
  · subst e4
    simp [Vb.is, (isType_iff 32).2, isZero_iff, ones_32, V.without, V.map2, bv_all, Rf.fits, Rf.bytes, and_comm]
  by_cases e5 : ty = 128
  · subst e5
    simp [Vb.is, (isType_iff 128).2, isZero_iff, ones_128, V.without, V.map2, bv_all, Rf.fits, Rf.bytes, and_comm]
  have h : Vb.isType ty = false := by
    rw [← Bool.not_eq_true, isType_iff]; simp [e1, e2, e3, e4, e5]
  simp [Vb.is, h, Rf.fits, Rf.bytes, e1, e2, e3, e4, e5]
theorem bytes_iff (ty : Int) : Rf.bytes ty = 0 ↔ Vb.isType ty = false := by
  rw [← Bool.not_eq_true, isType_iff]
  unfold Rf.bytes
  by_cases e1 : ty = 1
  · simp [e1]
  by_cases e2 : ty = 8
  · simp [e2]
  by_cases e3 : ty = 16
  · simp [e3]
  by_cases e4 : ty = 32
  · simp [e4]
  by_cases e5 : ty = 128
  · simp [e5]
  simp [e1, e2, e3, e4, e5]
end Go.Proofs.YtboknfppecgjmaaGreat
namespace Go.Proofs.YtboknfppecgjmaaGreat
set_option linter.unusedVariables false
set_option linter.unusedSimpArgs false
/-! ### vectors -/
def commutes (op : Int) : Bool := decide (op = 8 ∨ op = 9 ∨ op = 10 ∨ op = 1 ∨ op = 3 ∨ op = 4 ∨ op = 14 ∨ op = 15 ∨ op = 20 ∨ op = 21 ∨ op = 22 ∨ op = 26 ∨ op = 27 ∨ op = 28)
theorem second_ty {op : Int} (h : op ≠ 30) (ty off : Int) : Vb.second op ty off = 0 ∨ Vb.second op ty off = ty := by
  unfold Vb.second
  simp only [h, false_and, if_false]
  split
  · exact .inl rfl
  · split
    · exact .inr rfl
    · exact .inl rfl
theorem eachWord_32 (f : BitVec 32 → BitVec 32 → BitVec 32 → BitVec 32 → BitVec 32) (x a y b : BitVec 32) : Vb.eachWord 32 f x a y b = f x a y b := by
  have hm : ((1#32 <<< 32) - 1#32) <<< 0 = 4294967295#32 := by decide
  have hk : ∀ z : BitVec 32, z &&& 4294967295#32 = z := bv_all
  have hs : ∀ z : BitVec 32, z >>> 0 = z := fun z => by simp
  have hl : ∀ z : BitVec 32, z <<< 0 = z := fun z => by simp
  have hz : ∀ z : BitVec 32, 0 ||| z = z := fun z => by simp
  show Vb.lanesFrom 32 f x a y b 1 0 0 = _
  simp only [Vb.lanesFrom, hm, hk, hs, hl, hz]
theorem each_32 (f : BitVec 32 → BitVec 32 → BitVec 32 → BitVec 32 → BitVec 32) (x a y b : V) :
    Vb.each 32 x a y b f = ⟨f x.a a.a y.a b.a, f x.b a.b y.b b.b, f x.c a.c y.c b.c, f x.d a.d y.d b.d⟩ := by
  simp only [Vb.each, eachWord_32]
theorem is_128 (x : V) : Vb.is 128 x = true := by
  simp [Vb.is, (isType_iff 128).2, isZero_iff, ones_128, V.without, V.map2, bv_all]
theorem is_32 (w : BitVec 32) : Vb.is 32 (V.word w) = true := by
  simp [Vb.is, (isType_iff 32).2, isZero_iff, ones_32, V.without, V.map2, bv_all, V.word]
end Go.Proofs.YtboknfppecgjmaaGreat
namespace Go.Proofs.YtboknfppecgjmaaGreat
set_option linter.unusedVariables false
set_option linter.unusedSimpArgs false
/-! ### bits of words -/
theorem ext4 {x y : V} (h1 : x.a = y.a) (h2 : x.b = y.b) (h3 : x.c = y.c) (h4 : x.d = y.d) : x = y := by
  cases x; cases y; simp only at h1 h2 h3 h4; subst h1 h2 h3 h4; rfl
theorem is_parts {ty : Int} {x : V} (h : Vb.is ty x = true) : Vb.isType ty = true ∧ x.a &&& ~~~(Vb.ones ty).a = 0#32 ∧ x.b &&& ~~~(Vb.ones ty).b = 0#32 ∧ x.c &&& ~~~(Vb.ones ty).c = 0#32 ∧ x.d &&& ~~~(Vb.ones ty).d = 0#32 := by
  unfold Vb.is at h
  rw [Bool.and_eq_true] at h
  exact ⟨h.1, (isZero_iff _).1 h.2⟩
theorem is_mk {ty : Int} {x : V} (h0 : Vb.isType ty = true) (h1 : x.a &&& ~~~(Vb.ones ty).a = 0#32) (h2 : x.b &&& ~~~(Vb.ones ty).b = 0#32) (h3 : x.c &&& ~~~(Vb.ones ty).c = 0#32) (h4 : x.d &&& ~~~(Vb.ones ty).d = 0#32) : Vb.is ty x = true := by
  unfold Vb.is
  rw [Bool.and_eq_true]
  exact ⟨h0, (isZero_iff _).2 ⟨h1, h2, h3, h4⟩⟩
theorem bin_fine {op ty off : Int} {x a y b : V} (h0 : Vb.second op ty off ≠ 0) (h1 : Vb.is ty x = true) (h2 : Vb.is ty a = true) (h3 : Vb.is (Vb.second op ty off) y = true) (h4 : Vb.is (Vb.second op ty off) b = true) :
    Vb.bin op ty off x a y b = (Vb.binOp ⟨op, ty, off, x, a, y, b⟩, 0) := by
  unfold Vb.bin
  simp [h0, h1, h2, h3, h4]
theorem bw_n3 (a b : BitVec 32) : ~~~a + b = ~~~(a - b) := by
  have h1 : ∀ z : BitVec 32, ~~~z = -z - 1#32 := fun z => by rw [BitVec.neg_eq_not_add]; exact (BitVec.add_sub_cancel _ _).symm
  rw [h1, h1]
  apply BitVec.eq_of_toNat_eq
  simp only [BitVec.toNat_add, BitVec.toNat_sub, BitVec.toNat_neg]
  have := a.isLt
  have := b.isLt
  omega
def fits (x a y : BitVec 32) : Bool := decide ((x ^^^ y) &&& ~~~a = 0#32)
end Go.Proofs.YtboknfppecgjmaaGreat
namespace Go.Proofs.YtboknfppecgjmaaGreat
set_option linter.unusedVariables false
set_option linter.unusedSimpArgs false
namespace Rf
def unary (op from_ to : Int) : Bool :=
  if op = 1 then from_ == to && from_ != 0
  else if op = 2 ∨ op = 3 then (from_ == 1 || from_ == 8 || from_ == 16) && to == 32
  else if op = 4 then from_ == 32 && (to == 8 || to == 16)
  else if op = 5 then from_ != 0 && to == 1
  else if op = 6 then from_ == 1 && storable to
  else if op = 7 then from_ == 32 && to == 32
  else if op = 8 ∨ op = 9 ∨ op = 10 then from_ == 128 && to == 128
  else if op = 11 then from_ == 32 && to == 128
  else if op = 12 ∨ op = 13 then from_ == 128 && to == 32
  else false
def areTwo (p q u v : Int) : Bool := p == u && q == v
def sameTwo (p q : Int) : Bool := p != 0 && q != 0 && q == p
def binary (op p q to : Int) : Bool :=
  if (1 ≤ op ∧ op ≤ 7) ∨ (11 ≤ op ∧ op ≤ 13) then areTwo p q 32 32 && to == 32
  else if 8 ≤ op ∧ op ≤ 10 then sameTwo p q && to == p
  else if op = 14 ∨ op = 15 then sameTwo p q && to == 1
  else if 16 ≤ op ∧ op ≤ 19 then areTwo p q 32 32 && to == 1
  else if 20 ≤ op ∧ op ≤ 29 then areTwo p q 128 128 && to == 128
  else if op = 30 then areTwo p q 128 32 && to == 128
  else false
def word (is : Bool) (off : Int) : Bool := off == 0 || (is && decide (0 < off) && decide (off ≤ 3))
def tmpTy (ty : Int) : Int := if bytes ty = 0 then 0 else ty
def exUn (op from_ to off : Int) : Int := if unary op (tmpTy from_) to && word (op == 12) off then to else 0
def exBin (op p q to off : Int) : Int := if binary op (tmpTy p) (tmpTy q) to && word (op == 30) off then to else 0
end Rf
theorem tmpTy_eq (ty : Int) : Rf.tmpTy ty = if Vb.isType ty = true then ty else 0 := by
  unfold Rf.tmpTy
  by_cases h : Vb.isType ty = true
  · rw [if_neg (fun e => by rw [bytes_iff] at e; rw [e] at h; cases h), if_pos h]
  · rw [if_pos ((bytes_iff ty).2 (by simpa using h)), if_neg h]
theorem bytes_pos (ty : Int) : 0 < Rf.bytes ty ↔ Vb.isType ty = true := by
  have h0 : 0 ≤ Rf.bytes ty := by unfold Rf.bytes; repeat (split; omega); omega
  have h1 := bytes_iff ty
  constructor
  · intro h; by_cases h2 : Vb.isType ty = true
    · exact h2
    · have := h1.2 (by simpa using h2); omega
  · intro h; rcases Int.lt_or_eq_of_le h0 with h2 | h2
    · exact h2
    · have := h1.1 h2.symm; rw [this] at h; cases h
theorem isType_cases {ty : Int} (h : Vb.isType ty = true) : ty = 1 ∨ ty = 8 ∨ ty = 16 ∨ ty = 32 ∨ ty = 128 := (isType_iff ty).1 h
theorem bool_eq {a b : Bool} (h : a = true ↔ b = true) : a = b := Bool.eq_iff_iff.2 h
theorem exUn_iff (op from_ to off : Int) : Rf.exUn op from_ to off ≠ 0 ↔ Vb.isUn op from_ to off = true := by
  have hst : Rf.storable to = (to != 1 && Vb.isType to) := by
    unfold Rf.storable
    congr 1
    exact bool_eq (by rw [decide_eq_true_eq]; exact bytes_pos to)
  have t1 := isType_iff from_
  have t2 := isType_iff to
  unfold Rf.exUn Vb.isUn
  rw [tmpTy_eq]
  generalize hf : Vb.isType from_ = f at *
  generalize ht : Vb.isType to = t at *
  cases f
  · have n1 : ¬ (from_ = 1 ∨ from_ = 8 ∨ from_ = 16 ∨ from_ = 32 ∨ from_ = 128) := fun h => by have := t1.2 h; cases this
    have hu : Rf.unary op 0 to = false := by
      unfold Rf.unary
      by_cases h1 : op = 1
      · subst h1; simp
      · simp [h1]
    simp [hu]
  · have n1 := t1.1 rfl
    cases t
    · have n2 : ¬ (to = 1 ∨ to = 8 ∨ to = 16 ∨ to = 32 ∨ to = 128) := fun h => by have := t2.2 h; cases this
      simp only [if_true, Bool.not_true, Bool.not_false, Bool.false_or, Bool.true_or, if_true]
      have hu : Rf.unary op from_ to = false := by
        unfold Rf.unary
        rw [hst]
        simp
        grind
      simp [hu]
    · have n2 := t2.1 rfl
      simp only [if_true, Bool.not_true, Bool.false_or]
      have hto : to ≠ 0 := by omega
      have e1 : ((if (Rf.unary op from_ to && Rf.word (op == 12) off) = true then to else 0) ≠ 0) ↔ (Rf.unary op from_ to && Rf.word (op == 12) off) = true := by
        by_cases h : (Rf.unary op from_ to && Rf.word (op == 12) off) = true
        · simp [h, hto]
        · simp [h]
      rw [e1]
      unfold Rf.unary Rf.word
      rw [hst]
      by_cases ho : off = 0
      · subst ho
        simp
        grind
      · by_cases h12 : op = 12
        · subst h12
          simp [ho]
          omega
        · simp [ho, h12]
def Rf.secTy (op ty : Int) : Int := if op = 30 then 32 else ty
theorem exBin_iff (op ty to off : Int) (hto : to = ty ∨ to = 1) : Rf.exBin op ty (Rf.secTy op ty) to off ≠ 0 ↔
    Vb.second op ty off ≠ 0 ∧ (if op = 14 ∨ op = 15 ∨ (16 ≤ op ∧ op ≤ 19) then to = 1 else to = ty) := by
  have t1 := isType_iff ty
  have t32 : Vb.isType 32 = true := (isType_iff 32).2 (by simp)
  unfold Rf.exBin Vb.second Rf.secTy
  rw [tmpTy_eq, tmpTy_eq]
  by_cases h30 : op = 30
  · subst h30
    simp only [if_true, t32]
    generalize hf : Vb.isType ty = f at *
    cases f
    · have n1 : ¬ (ty = 1 ∨ ty = 8 ∨ ty = 16 ∨ ty = 32 ∨ ty = 128) := fun h => by have := t1.2 h; cases this
      simp [Rf.binary, Rf.areTwo]
      grind
    · have n1 := t1.1 rfl
      simp [Rf.binary, Rf.areTwo, Rf.word]
      grind
  · simp only [h30, if_false]
    generalize hf : Vb.isType ty = f at *
    cases f
    · have n1 : ¬ (ty = 1 ∨ ty = 8 ∨ ty = 16 ∨ ty = 32 ∨ ty = 128) := fun h => by have := t1.2 h; cases this
      simp [Rf.binary, Rf.areTwo, Rf.sameTwo, h30]
      grind
    · have n1 := t1.1 rfl
      simp [Rf.binary, Rf.areTwo, Rf.sameTwo, Rf.word, h30]
      grind
theorem second_sec {op ty off : Int} (h : Vb.second op ty off ≠ 0) : Vb.second op ty off = Rf.secTy op ty := by
  unfold Rf.secTy
  by_cases h30 : op = 30
  · subst h30
    rw [if_pos rfl]
    unfold Vb.second at *
    simp only at *
    split
    · rfl
    · rename_i hc
      rw [if_neg hc] at h
      exfalso
      by_cases ho : off ≠ 0
      · rw [if_pos ho] at h; exact h rfl
      · rw [if_neg ho] at h; simp at h
  · rw [if_neg h30]
    rcases second_ty h30 ty off with h1 | h1
    · exact absurd h1 h
    · exact h1
end Go.Proofs.YtboknfppecgjmaaGreat
namespace Go.Proofs.YtboknfppecgjmaaGreat
set_option linter.unusedVariables false
set_option linter.unusedSimpArgs false
def Ag (x x' a : BitVec 32) : Prop := x &&& ~~~a = x' &&& ~~~a
theorem Ag.bit {x x' a : BitVec 32} (h : Ag x x' a) (i : Nat) (hi : i < 32) : a.getLsbD i = true ∨ x.getLsbD i = x'.getLsbD i := by
  have hb := congrArg (fun z => z.getLsbD i) h
  simp only [BitVec.getLsbD_and, BitVec.getLsbD_not, hi, decide_true, Bool.true_and] at hb
  cases ha : a.getLsbD i <;> simp_all
theorem Ag.of {x x' a : BitVec 32} (h : ∀ i, i < 32 → a.getLsbD i = true ∨ x.getLsbD i = x'.getLsbD i) : Ag x x' a := by
  apply BitVec.eq_of_getLsbD_eq; intro i hi
  simp only [BitVec.getLsbD_and, BitVec.getLsbD_not, hi, decide_true, Bool.true_and]
  rcases h i hi with h | h <;> simp [h]
theorem Ag.lane {x x' a : BitVec 32} (h : Ag x x' a) (m : BitVec 32) (k : Nat) : Ag ((x &&& m) >>> k) ((x' &&& m) >>> k) ((a &&& m) >>> k) := by
  apply Ag.of; intro i hi
  simp only [BitVec.getLsbD_ushiftRight, BitVec.getLsbD_and]
  by_cases h2 : k + i < 32
  · rcases h.bit _ h2 with h | h
    · cases hm : m.getLsbD (k + i)
      · right; simp
      · left; simp [h]
    · right; simp [h]
  · right
    rw [BitVec.getLsbD_of_ge x _ (by omega), BitVec.getLsbD_of_ge x' _ (by omega)]
def LaneOk (f : BitVec 32 → BitVec 32 → BitVec 32 → BitVec 32 → BitVec 32) : Prop := ∀ x x' a y y' b, Ag x x' a → Ag y y' b → f x a y b = f x' a y' b
structure Agv (x x' a : V) : Prop where
  fa : Ag x.a x'.a a.a
  fb : Ag x.b x'.b a.b
  fc : Ag x.c x'.c a.c
  fd : Ag x.d x'.d a.d
theorem shift_ag {y y' b : BitVec 32} (h : Ag y y' b) (hb : b &&& 31#32 = 0#32) : y.toNat % 32 = y'.toNat % 32 := by
  have e : y &&& 31#32 = y' &&& 31#32 := by
    apply BitVec.eq_of_getLsbD_eq; intro i hi
    have hbi := congrArg (fun z => z.getLsbD i) hb
    simp only [BitVec.getLsbD_and, BitVec.getLsbD_zero] at hbi ⊢
    rcases h.bit i hi with p | p
    · rw [p] at hbi
      simp only [Bool.true_and] at hbi
      rw [hbi]; simp
    · rw [p]
  have k : ∀ z : BitVec 32, z.toNat % 32 = (z &&& 31#32).toNat := fun z => by
    rw [BitVec.toNat_and]
    show z.toNat % 2 ^ 5 = z.toNat &&& (2 ^ 5 - 1)
    rw [Nat.and_two_pow_sub_one_eq_mod]
  rw [k, k, e]
theorem nib_ag {y y' b : BitVec 32} (h : Ag y y' b) (k : Nat) (hb : b >>> k &&& 15#32 = 0#32) : y >>> k &&& 15#32 = y' >>> k &&& 15#32 := by
  apply BitVec.eq_of_getLsbD_eq; intro i hi
  have hbi := congrArg (fun z => z.getLsbD i) hb
  simp only [BitVec.getLsbD_and, BitVec.getLsbD_ushiftRight, BitVec.getLsbD_zero] at hbi ⊢
  by_cases h2 : k + i < 32
  · rcases h.bit _ h2 with p | p
    · rw [p] at hbi
      simp only [Bool.true_and] at hbi
      rw [hbi]; simp
    · rw [p]
  · rw [BitVec.getLsbD_of_ge y _ (by omega), BitVec.getLsbD_of_ge y' _ (by omega)]
theorem Agv.get {x x' a : V} (h : Agv x x' a) (i : Nat) : Ag (x.get i) (x'.get i) (a.get i) := by
  unfold V.get
  repeat' split
  · exact h.fa
  · exact h.fb
  · exact h.fc
  · exact h.fd
theorem fill_is {ty : Int} {x a b : V} (h : Vb.isType ty = true) : Vb.is ty (Vb.fill ty x a b) = true := by
  have w : ∀ m u : BitVec 32, (u &&& m) &&& ~~~m = 0#32 := by
    intro m u
    apply BitVec.eq_of_getLsbD_eq; intro i hi
    simp only [BitVec.getLsbD_and, BitVec.getLsbD_not, hi, decide_true, Bool.true_and, BitVec.getLsbD_zero]
    cases m.getLsbD i <;> simp
  exact is_mk h (w _ _) (w _ _) (w _ _) (w _ _)
end Go.Proofs.YtboknfppecgjmaaGreat
namespace Go.Proofs.YtboknfppecgjmaaGreat
set_option linter.unusedVariables false
set_option linter.unusedSimpArgs false
def LaneZ (f : BitVec 32 → BitVec 32 → BitVec 32 → BitVec 32 → BitVec 32) : Prop := ∀ x y, f x 0#32 y 0#32 = 0#32
theorem some_zero : Vb.some 0#32 = 0#32 := by decide
theorem added_z : LaneZ Vb.added := by
  intro x y
  unfold Vb.added
  simp [bv_all]
theorem subtracted_z : LaneZ Vb.subtracted := by
  intro x y
  unfold Vb.subtracted
  simp [bv_all]
theorem get_z (i : Nat) : V.zero.get i = 0#32 := by
  unfold V.get V.zero
  repeat' split
  all_goals rfl
theorem is_type {ty : Int} {x : V} (h : Vb.is ty x = true) : Vb.isType ty = true := (is_parts h).1
theorem un_fine {op from_ to off : Int} {x a : V} (h : Vb.isUn op from_ to off = true) (hx : Vb.is from_ x = true) (ha : Vb.is from_ a = true) : Vb.un op from_ to off x a = (Vb.unOp op ⟨x, a, from_, to, off⟩, 0) := by
  unfold Vb.un
  rw [h, hx, ha]
  rfl
theorem mux_fine {ty : Int} {c d x a y b : V} (h1 : Vb.is ty x = true) (h2 : Vb.is ty a = true) (h3 : Vb.is ty y = true) (h4 : Vb.is ty b = true) (h5 : Vb.is 1 c = true) (h6 : Vb.is 1 d = true) :
    Vb.mux ty c d x a y b = if d.a = 1#32 then (((x.xor y).or a).or b, 0) else if c.a = 1#32 then (a, 0) else (b, 0) := by
  unfold Vb.mux
  rw [h1, h2, h3, h4, h5, h6]
  simp
theorem is_one {x : V} (h : Vb.is 1 x = true) : x = V.zero ∨ x = V.word 1#32 := by
  obtain ⟨_, h1, h2, h3, h4⟩ := is_parts h
  obtain ⟨p, q, r, s⟩ := x
  simp only [ones_1] at h1 h2 h3 h4
  have e : ∀ z : BitVec 32, z &&& ~~~0#32 = 0#32 → z = 0#32 := fun z hz => (bv_all z).symm.trans hz
  obtain rfl := e q h2
  obtain rfl := e r h3
  obtain rfl := e s h4
  have hp : p.toNat < 2 := (bv_low1 p).1 (by simpa using h1)
  have : p = 0#32 ∨ p = 1#32 := by
    rcases (show p.toNat = 0 ∨ p.toNat = 1 by omega) with h | h
    · exact .inl (BitVec.eq_of_toNat_eq h)
    · exact .inr (BitVec.eq_of_toNat_eq h)
  rcases this with rfl | rfl
  · exact .inl rfl
  · exact .inr rfl
end Go.Proofs.YtboknfppecgjmaaGreat
