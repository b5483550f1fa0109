/- What the functions of package vbits and of its reference compute, as plain functions on words of 32 bits. No program is in sight here. -/
namespace Go.Proofs.YtboknfppecgjmaaGreat
set_option linter.unusedVariables false
set_option linter.unusedSimpArgs false

structure V where
  a : BitVec 32
  b : BitVec 32
  c : BitVec 32
  d : BitVec 32
deriving DecidableEq

namespace V
def map2 (f : BitVec 32 → BitVec 32 → BitVec 32) (x y : V) : V := ⟨f x.a y.a, f x.b y.b, f x.c y.c, f x.d y.d⟩
def and (x y : V) : V := map2 (· &&& ·) x y
def or (x y : V) : V := map2 (· ||| ·) x y
def xor (x y : V) : V := map2 (· ^^^ ·) x y
def without (x y : V) : V := map2 (fun x y => x &&& ~~~y) x y
def zero : V := ⟨0#32, 0#32, 0#32, 0#32⟩
def all : V := ⟨0xffffffff#32, 0xffffffff#32, 0xffffffff#32, 0xffffffff#32⟩
def isZero (x : V) : Bool := decide (x = zero)
def word (w : BitVec 32) : V := ⟨w, 0#32, 0#32, 0#32⟩
def get (x : V) (i : Nat) : BitVec 32 := if i = 0 then x.a else if i = 1 then x.b else if i = 2 then x.c else x.d
def set (x : V) (i : Nat) (w : BitVec 32) : V := ⟨if i = 0 then w else x.a, if i = 1 then w else x.b, if i = 2 then w else x.c, if i = 3 then w else x.d⟩
def gen (f : Nat → BitVec 32) : V := ⟨f 0, f 1, f 2, f 3⟩
end V

/-! ## vbits -/
namespace Vb
def one (b : Bool) : V := if b then V.word 1#32 else V.zero
def ones (ty : Int) : V :=
  if ty = 1 then V.word 1#32 else if ty = 8 then V.word 255#32 else if ty = 16 then V.word 65535#32 else if ty = 32 then V.word 4294967295#32 else if ty = 128 then V.all else V.zero
def isType (ty : Int) : Bool := !(ones ty).isZero
def is (ty : Int) (x : V) : Bool := isType ty && (x.without (ones ty)).isZero
def left (z : BitVec 32) : BitVec 32 := z ||| -z
def some (z : BitVec 32) : BitVec 32 := if z = 0 then 0 else 4294967295#32
def added (x a y b : BitVec 32) : BitVec 32 := a ||| b ||| (((x &&& ~~~a) + (y &&& ~~~b)) ^^^ ((x ||| a) + (y ||| b)))
def subtracted (x a y b : BitVec 32) : BitVec 32 := a ||| b ||| (((x &&& ~~~a) - (y ||| b)) ^^^ ((x ||| a) - (y &&& ~~~b)))
def equal (x a y b : BitVec 32) : BitVec 32 := if (x ^^^ y) &&& ~~~(a ||| b) = 0 then some (a ||| b) else 0
def least (x a : BitVec 32) : BitVec 32 := x &&& ~~~a
def greatest (x a : BitVec 32) : BitVec 32 := x ||| a
def fill (ty : Int) (x a by_ : V) : V := ((x.without a).or (by_.and a)).and (ones ty)

/-- One word of 'each': the lanes from bit 'at_' on, so many. -/
def lanesFrom (width : Nat) (f : BitVec 32 → BitVec 32 → BitVec 32 → BitVec 32 → BitVec 32) (x a y b : BitVec 32) : Nat → Nat → BitVec 32 → BitVec 32
  | 0, _, acc => acc
  | n + 1, at_, acc =>
    let m : BitVec 32 := ((1#32 <<< width) - 1#32) <<< at_
    lanesFrom width f x a y b n (at_ + width) (acc ||| ((f ((x &&& m) >>> at_) ((a &&& m) >>> at_) ((y &&& m) >>> at_) ((b &&& m) >>> at_) <<< at_) &&& m))
def eachWord (width : Nat) (f : BitVec 32 → BitVec 32 → BitVec 32 → BitVec 32 → BitVec 32) (x a y b : BitVec 32) : BitVec 32 := lanesFrom width f x a y b (32 / width) 0 0
def each (width : Nat) (x a y b : V) (f : BitVec 32 → BitVec 32 → BitVec 32 → BitVec 32 → BitVec 32) : V :=
  ⟨eachWord width f x.a a.a y.a b.a, eachWord width f x.b a.b y.b b.b, eachWord width f x.c a.c y.c b.c, eachWord width f x.d a.d y.d b.d⟩

def unLane (x a _y _b : BitVec 32) : BitVec 32 := if x &&& ~~~a = 0 then some a else 0

structure Unary where
  x : V
  a : V
  from_ : Int
  to : Int
  off : Int

structure Binary where
  op : Int
  ty : Int
  off : Int
  x : V
  a : V
  y : V
  b : V

def Unary.not (u : Unary) : V := u.a
def Unary.same (u : Unary) : V := u.a.and (ones u.to)
def Unary.nz (u : Unary) : V := one (!u.a.isZero && (u.x.without u.a).isZero)
def Unary.left (u : Unary) : V := V.word (Vb.left u.a.a &&& ~~~Vb.left (u.x.a &&& ~~~u.a.a))
def Unary.splat (u : Unary) : V := ⟨u.a.a, u.a.a, u.a.a, u.a.a⟩
def Unary.word (u : Unary) : V := V.word (u.a.get u.off.toNat)
def Unary.sext (u : Unary) : V :=
  if u.a.a &&& ((ones u.from_).a &&& ~~~((ones u.from_).a >>> 1)) ≠ 0 then u.a.or ((ones 32).without (ones u.from_)) else u.a
def Unary.fill (u : Unary) : V := if u.a.a = 1 then ones u.to else V.zero
def maskTo (a : V) : Nat → BitVec 32
  | 0 => 0
  | n + 1 => maskTo a n ||| ((((a.get (n / 4)) >>> (8 * (n % 4) + 7)) &&& 1) <<< n)
def Unary.mask (u : Unary) : V := V.word (maskTo u.a 16)
def Unary.lanes (u : Unary) (width : Nat) : V := each width u.x u.a V.zero V.zero unLane

def isUn (op from_ to off : Int) : Bool :=
  let small := from_ == 1 || from_ == 8 || from_ == 16
  if !isType from_ || !isType to || (off != 0 && (op != 12 || decide (off < 0) || decide (3 < off))) then false
  else if op = 1 then from_ == to
  else if op = 2 ∨ op = 3 then small && to == 32
  else if op = 4 then from_ == 32 && (to == 8 || to == 16)
  else if op = 5 then to == 1
  else if op = 6 then from_ == 1 && to != 1
  else if op = 7 then from_ == 32 && to == 32
  else if op = 8 ∨ op = 9 ∨ op = 10 then from_ == 128 && to == 128
  else if op = 11 then from_ == 32 && to == 128
  else if op = 12 ∨ op = 13 then from_ == 128 && to == 32
  else false

def unOp (op : Int) (u : Unary) : V :=
  if op = 1 then u.not else if op = 2 then u.same else if op = 3 then u.sext else if op = 4 then u.same else if op = 5 then u.nz else if op = 6 then u.fill
  else if op = 7 then u.left else if op = 8 then u.lanes 8 else if op = 9 then u.lanes 16 else if op = 10 then u.lanes 32 else if op = 11 then u.splat else if op = 12 then u.word else u.mask

def un (op from_ to off : Int) (x a : V) : V × Int :=
  if !isUn op from_ to off || !is from_ x || !is from_ a then (V.zero, 1) else (unOp op ⟨x, a, from_, to, off⟩, 0)

def Binary.and (o : Binary) : V := (o.a.and (o.y.or o.b)).or (o.b.and (o.x.or o.a))
def Binary.or (o : Binary) : V := (o.a.and (((ones o.ty).without o.y).or o.b)).or (o.b.and (((ones o.ty).without o.x).or o.a))
def Binary.xor (o : Binary) : V := o.a.or o.b
def Binary.mul (o : Binary) : V := V.word (Vb.left (o.a.a ||| o.b.a))
def Binary.any (o : Binary) : V := V.word (Vb.some (o.a.a ||| o.b.a))
def Binary.shift (o : Binary) : V :=
  let n := o.y.a.toNat % 32
  V.word ((if o.op = 11 then o.a.a <<< n else if o.op = 12 then o.a.a >>> n else o.a.a.sshiftRight n) ||| Vb.some (o.b.a &&& 31))
def Binary.same (o : Binary) : V := one (!(o.a.or o.b).isZero && ((o.x.xor o.y).without (o.a.or o.b)).isZero)
def lessOp (op : Int) (x y : BitVec 32) : Bool := decide (x < y) || (decide (x = y) && (op == 18 || op == 19))
def flip (op : Int) : BitVec 32 := if op = 17 ∨ op = 19 then 2147483648#32 else 0
def Binary.less (o : Binary) : V :=
  let x := o.x.a ^^^ flip o.op
  let y := o.y.a ^^^ flip o.op
  one (lessOp o.op (least x o.a.a) (greatest y o.b.a) != lessOp o.op (greatest x o.a.a) (least y o.b.a))
def shufByte (a y b : V) (i : Nat) : BitVec 32 :=
  let k := ((y.get (i / 4)) >>> (8 * (i % 4)) &&& 15).toNat
  if (b.get (i / 4)) >>> (8 * (i % 4)) &&& 15 ≠ 0 then 255 else (a.get (k / 4)) >>> (8 * (k % 4)) &&& 255
def shufWord (a y b : V) (j : Nat) : BitVec 32 :=
  (shufByte a y b (4 * j)) ||| (shufByte a y b (4 * j + 1) <<< 8) ||| (shufByte a y b (4 * j + 2) <<< 16) ||| (shufByte a y b (4 * j + 3) <<< 24)
def Binary.shuf (o : Binary) : V := V.gen (shufWord o.a o.y o.b)
def Binary.put (o : Binary) : V := o.a.set o.off.toNat o.b.a
def Binary.lane (o : Binary) (width : Nat) (f : BitVec 32 → BitVec 32 → BitVec 32 → BitVec 32 → BitVec 32) : V := each width o.x o.a o.y o.b f

def second (op ty off : Int) : Int :=
  let words := (decide (1 ≤ op) && decide (op ≤ 7)) || (decide (11 ≤ op) && decide (op ≤ 13)) || (decide (16 ≤ op) && decide (op ≤ 19))
  let anyType := (decide (8 ≤ op) && decide (op ≤ 10)) || op == 14 || op == 15
  if op = 30 ∧ ty = 128 ∧ 0 ≤ off ∧ off ≤ 3 then 32
  else if off ≠ 0 then 0
  else if (words && ty == 32) || (anyType && isType ty) || (decide (20 ≤ op) && decide (op ≤ 29) && ty == 128) then ty
  else 0

def binOp (o : Binary) : V :=
  if o.op = 1 then o.lane 32 added else if o.op = 2 then o.lane 32 subtracted else if o.op = 3 then o.mul else if o.op = 4 ∨ o.op = 5 ∨ o.op = 6 ∨ o.op = 7 then o.any
  else if o.op = 8 then o.and else if o.op = 9 then o.or else if o.op = 10 then o.xor else if o.op = 11 ∨ o.op = 12 ∨ o.op = 13 then o.shift
  else if o.op = 14 ∨ o.op = 15 then o.same else if o.op = 16 ∨ o.op = 17 ∨ o.op = 18 ∨ o.op = 19 then o.less
  else if o.op = 20 then o.lane 8 added else if o.op = 21 then o.lane 16 added else if o.op = 22 then o.lane 32 added
  else if o.op = 23 then o.lane 8 subtracted else if o.op = 24 then o.lane 16 subtracted else if o.op = 25 then o.lane 32 subtracted
  else if o.op = 26 then o.lane 8 equal else if o.op = 27 then o.lane 16 equal else if o.op = 28 then o.lane 32 equal
  else if o.op = 29 then o.shuf else o.put

def bin (op ty off : Int) (x a y b : V) : V × Int :=
  if second op ty off = 0 ∨ is ty x = false ∨ is ty a = false ∨ is (second op ty off) y = false ∨ is (second op ty off) b = false then (V.zero, 1)
  else (binOp ⟨op, ty, off, x, a, y, b⟩, 0)

def mux (ty : Int) (c d x a y b : V) : V × Int :=
  if is ty x = false ∨ is ty a = false ∨ is ty y = false ∨ is ty b = false ∨ is 1 c = false ∨ is 1 d = false then (V.zero, 1)
  else if d.a = 1 then (((x.xor y).or a).or b, 0)
  else if c.a = 1 then (a, 0) else (b, 0)

def call (op : Int) (s : List (BitVec 32)) : BitVec 32 × Int :=
  if op = 1 ∧ s.length = 4 then (if s.all (· == 0) then 0 else 15, 0)
  else if op = 2 ∧ s.length = 5 then (if s.all (· == 0) then 0 else 1, 0)
  else (0, 1)
end Vb
end Go.Proofs.YtboknfppecgjmaaGreat
