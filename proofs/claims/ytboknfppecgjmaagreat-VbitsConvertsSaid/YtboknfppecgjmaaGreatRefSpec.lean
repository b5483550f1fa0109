/- What the references candlingref10 and candlingref24 compute, as plain functions. No program is in sight here. -/
import Derived.Test.YtboknfppecgjmaaGreatSpec
namespace Go.Proofs.YtboknfppecgjmaaGreat
set_option linter.unusedVariables false
set_option linter.unusedSimpArgs false
namespace Rf
def bytes (ty : Int) : Int := if ty = 1 ∨ ty = 8 then 1 else if ty = 16 then 2 else if ty = 32 then 4 else if ty = 128 then 16 else 0
def storable (ty : Int) : Bool := ty != 1 && decide (0 < bytes ty)
def fits (ty : Int) (v : V) : Bool :=
  if ty ≠ 128 ∧ (v.b ≠ 0#32 ∨ v.c ≠ 0#32 ∨ v.d ≠ 0#32) then false
  else if ty = 1 then decide (v.a < 2#32) else if ty = 8 then decide (v.a < 256#32) else if ty = 16 then decide (v.a < 65536#32) else decide (0 < bytes ty)
def mux (ty : Int) (c d x a y b : V) : V × Int :=
  if bytes ty = 0 ∨ fits 1 c = false ∨ fits 1 d = false ∨ fits ty x = false ∨ fits ty a = false ∨ fits ty y = false ∨ fits ty b = false then (V.zero, 1)
  else if d.a = 1#32 then ((x.xor y).or (a.or b), 0)
  else if c.a = 1#32 then (a, 0) else (b, 0)
def call (op : Int) (s : List (BitVec 32)) : BitVec 32 × Int :=
  if ¬ ((op = 1 ∧ s.length = 4) ∨ (op = 2 ∧ s.length = 5)) then (0#32, 1)
  else if s.any (· != 0#32) = false then (0#32, 0) else if op = 1 then (15#32, 0) else (1#32, 0)
def not (ty : Int) (x : V) : V := (Vb.ones ty).xor x
def fill (ty : Int) (x a b : V) : V := (Vb.ones ty).and ((x.and (a.xor V.all)).or (b.and a))
end Rf
end Go.Proofs.YtboknfppecgjmaaGreat
