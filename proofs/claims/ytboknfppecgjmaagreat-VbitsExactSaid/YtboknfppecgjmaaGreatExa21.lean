/- Part 21 of the proof's texts: RefLane, RefLaneB, RefUn, RefWord. -/
import Derived.Laws.BitsLemmas
import Derived.Deep.LoopGhost
import Derived.Test.YtboknfppecgjmaaGreatExa1
import Derived.Test.YtboknfppecgjmaaGreatExa2
import Derived.Test.YtboknfppecgjmaaGreatExa6
import Derived.Test.YtboknfppecgjmaaGreatExa10
import Derived.Test.YtboknfppecgjmaaGreatExa12
set_option maxHeartbeats 16000000
namespace Go.Proofs.YtboknfppecgjmaaGreat
set_option linter.unusedVariables false
set_option linter.unusedSimpArgs false
open Go.RowKit Go.Shelf
namespace Rf
def lane (x : V) (s i : Nat) : BitVec 32 := (x.get (i / (32 / s)) >>> (s * (i % (32 / s)))) &&& (4294967295#32 >>> (32 - s))
def setLane (x : V) (s i : Nat) (v : BitVec 32) : V :=
  x.set (i / (32 / s)) ((x.get (i / (32 / s)) &&& ~~~((4294967295#32 >>> (32 - s)) <<< (s * (i % (32 / s))))) ||| ((v &&& (4294967295#32 >>> (32 - s))) <<< (s * (i % (32 / s)))))
def undecided (x a : V) : Bool := !a.isZero && (x.without a).isZero
end Rf
section
variable {P : Program} (w : World)
theorem run_shr_n (k : IntKind) (x : BitVec 32) (n : Nat) : (Op.shift .shr .u32 (U x) k (n : Int)).run P w = .ok (.int .u32 (U (x >>> n))) w := by
  unfold Op.shift
  rw [if_neg (by omega)]
  show Result.ok (Value.int .u32 ((U x).fdiv (2 ^ (min (n : Int).toNat 32)))) w = _
  rw [Int.toNat_natCast]
  congr 2
  have h2 : (0 : Int) ≤ 2 ^ (min n 32) := Int.pow_nonneg (by omega)
  rw [Int.fdiv_eq_ediv_of_nonneg _ h2]
  unfold U
  rw [BitVec.toNat_ushiftRight, Nat.shiftRight_eq_div_pow]
  rcases Nat.le_total n 32 with h | h
  · rw [Nat.min_eq_left h]; simp
  · rw [Nat.min_eq_right h]
    have hx := x.isLt
    have : x.toNat / 2 ^ n = 0 := Nat.div_eq_of_lt (Nat.lt_of_lt_of_le hx (Nat.pow_le_pow_right (by omega) h))
    rw [this]
    omega
theorem run_shl_n (k : IntKind) (x : BitVec 32) (n : Nat) : (Op.shift .shl .u32 (U x) k (n : Int)).run P w = .ok (.int .u32 (U (x <<< n))) w := by
  unfold Op.shift
  rw [if_neg (by omega)]
  show Result.ok (Value.int .u32 (IntKind.u32.wrap ((U x) * (2 ^ (min (n : Int).toNat 32))))) w = _
  rw [Int.toNat_natCast, IntKind.wrap_u32']
  congr 2
  rcases Nat.le_total n 32 with h | h
  · rw [Nat.min_eq_left h]; exact shl_u32 x n
  · rw [Nat.min_eq_right h, shl_u32]
    rw [BitVec.shiftLeft_eq_zero (by omega), BitVec.shiftLeft_eq_zero (by omega)]
end
attribute [go_sem] run_shr_n run_shl_n
theorem wrap_24 : IntKind.i64.wrap 24 = 24 := by rfl
theorem wrap_16 : IntKind.i64.wrap 16 = 16 := by rfl
theorem wrap_0 : IntKind.i64.wrap 0 = 0 := by rfl
theorem wrap_1 : IntKind.i64.wrap 1 = 1 := by rfl
theorem wrap_2 : IntKind.i64.wrap 2 = 2 := by rfl
theorem wrap_3 : IntKind.i64.wrap 3 = 3 := by rfl
theorem wrap_4 : IntKind.i64.wrap 4 = 4 := by rfl
attribute [go_sem] wrap_24 wrap_16 wrap_0 wrap_1 wrap_2 wrap_3 wrap_4
end Go.Proofs.YtboknfppecgjmaaGreat
namespace Go.Proofs.YtboknfppecgjmaaGreat
set_option linter.unusedVariables false
set_option linter.unusedSimpArgs false
open Go.RowKit Go.Shelf
theorem heap_alloc4 (w : World) (a b c d : Obj) : ((((w.alloc a).alloc b).alloc c).alloc d).heap[w.heap.size]? = some a ∧ ((((w.alloc a).alloc b).alloc c).alloc d).heap[w.heap.size + 1]? = some b ∧
    ((((w.alloc a).alloc b).alloc c).alloc d).heap[w.heap.size + 1 + 1]? = some c ∧ ((((w.alloc a).alloc b).alloc c).alloc d).heap[w.heap.size + 1 + 1 + 1]? = some d := by
  have s1 : (w.alloc a).heap.size = w.heap.size + 1 := by simp
  have s2 : ((w.alloc a).alloc b).heap.size = w.heap.size + 2 := by simp
  have s3 : (((w.alloc a).alloc b).alloc c).heap.size = w.heap.size + 3 := by simp
  have h0 := heap_alloc_new w a
  have h1 := heap_alloc_new (w.alloc a) b
  have h2 := heap_alloc_new ((w.alloc a).alloc b) c
  have h3 := heap_alloc_new (((w.alloc a).alloc b).alloc c) d
  rw [s1] at h1; rw [s2] at h2; rw [s3] at h3
  refine ⟨?_, ?_, ?_, h3⟩
  · exact (Below.heap_alloc _ d _ (by omega)).trans ((Below.heap_alloc _ c _ (by omega)).trans ((Below.heap_alloc _ b _ (by omega)).trans h0))
  · exact (Below.heap_alloc _ d _ (by omega)).trans ((Below.heap_alloc _ c _ (by omega)).trans h1)
  · exact (Below.heap_alloc _ d _ (by omega)).trans h2
def Rf.lanesTo (x a : V) (s : Nat) : Nat → V
  | 0 => V.zero
  | n + 1 => if Rf.undecided (V.word (Rf.lane x s n)) (V.word (Rf.lane a s n)) = true then Rf.setLane (Rf.lanesTo x a s n) s n 4294967295#32 else Rf.lanesTo x a s n
abbrev vcell (x : V) : Obj := .cells #[uv x.a, uv x.b, uv x.c, uv x.d] 24
end Go.Proofs.YtboknfppecgjmaaGreat
namespace Go.Proofs.YtboknfppecgjmaaGreat
set_option linter.unusedVariables false
set_option linter.unusedSimpArgs false
open Go.RowKit Go.Shelf
def Rf.maskTo (x : V) : Nat → BitVec 32
  | 0 => 0#32
  | n + 1 => Rf.maskTo x n ||| ((Rf.lane x 8 n >>> 7) <<< n)
def Rf.signed (x : BitVec 32) (n : Nat) : BitVec 32 := if (x >>> (n - 1)) &&& 1#32 = 1#32 then x ||| (4294967295#32 <<< n) else x
end Go.Proofs.YtboknfppecgjmaaGreat
namespace Go.Proofs.YtboknfppecgjmaaGreat
set_option linter.unusedVariables false
set_option linter.unusedSimpArgs false
open Go.RowKit Go.Shelf
def Rf.low (x a : BitVec 32) : BitVec 32 := (x &&& ~~~a) ||| (a &&& 2147483648#32)
def Rf.high (x a : BitVec 32) : BitVec 32 := (x ||| a) &&& ~~~(a &&& 2147483648#32)
def Rf.bitOf (b : Bool) : BitVec 32 := if b = true then 1#32 else 0#32
end Go.Proofs.YtboknfppecgjmaaGreat
