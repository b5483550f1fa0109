/- Part 3 of the proof's texts: Base. -/
import Derived.Test.YtboknfppecgjmaaGreatRows
import Derived.WalkKit
import Derived.WalkSpells
import Derived.WalkLawsBesides
import Derived.Lib.Hide
import Derived.Shelf.Abstract
import Derived.Test.YtboknfppecgjmaaGreatExa0
import Derived.Test.YtboknfppecgjmaaGreatExa2
set_option maxHeartbeats 16000000
namespace Go.Proofs.YtboknfppecgjmaaGreat
set_option linter.unusedVariables false
set_option linter.unusedSimpArgs false
open Go.RowKit
def U (x : BitVec 32) : Int := (x.toNat : Int)
abbrev uv (x : BitVec 32) : Value := .int .u32 (U x)
abbrev iv (n : Int) : Value := .int .i64 n
abbrev vv (x : V) : Value := .agg #[uv x.a, uv x.b, uv x.c, uv x.d]
theorem V.eta (x : V) : V.mk x.a x.b x.c x.d = x := rfl
theorem U_nonneg (x : BitVec 32) : 0 ≤ U x := by unfold U; omega
theorem U_lt (x : BitVec 32) : U x < 4294967296 := by have := x.isLt; unfold U; omega
theorem U_inj {x y : BitVec 32} (h : U x = U y) : x = y := by unfold U at h; exact BitVec.eq_of_toNat_eq (by omega)
theorem ofInt_U (x : BitVec 32) : BitVec.ofInt 32 (U x) = x := by
  apply BitVec.eq_of_toNat_eq
  simp [U, BitVec.toNat_ofInt]
theorem wrap32u (n : Int) : IntKind.u32.wrap n = U (BitVec.ofInt 32 n) := by
  rw [IntKind.wrap_u32', U, BitVec.toNat_ofInt]
  omega
theorem mod_u32 (n : Int) : n % (4294967296 : Int) = U (BitVec.ofInt 32 n) := by
  rw [U, BitVec.toNat_ofInt]
  omega
theorem bits_and (a b : Int) : bits .and .u32 a b = U (BitVec.ofInt 32 a &&& BitVec.ofInt 32 b) := by
  show IntKind.u32.wrap (U (BitVec.ofInt 32 a &&& BitVec.ofInt 32 b)) = _
  rw [wrap32u, ofInt_U]
theorem bits_or (a b : Int) : bits .or .u32 a b = U (BitVec.ofInt 32 a ||| BitVec.ofInt 32 b) := by
  show IntKind.u32.wrap (U (BitVec.ofInt 32 a ||| BitVec.ofInt 32 b)) = _
  rw [wrap32u, ofInt_U]
theorem bits_xor (a b : Int) : bits .xor .u32 a b = U (BitVec.ofInt 32 a ^^^ BitVec.ofInt 32 b) := by
  show IntKind.u32.wrap (U (BitVec.ofInt 32 a ^^^ BitVec.ofInt 32 b)) = _
  rw [wrap32u, ofInt_U]
theorem bits_andNot (a b : Int) : bits .andNot .u32 a b = U (BitVec.ofInt 32 a &&& ~~~BitVec.ofInt 32 b) := by
  show IntKind.u32.wrap (U (BitVec.ofInt 32 a &&& ~~~BitVec.ofInt 32 b)) = _
  rw [wrap32u, ofInt_U]
theorem add_u32 (x y : BitVec 32) : (U x + U y) % (4294967296 : Int) = U (x + y) := by
  unfold U; rw [BitVec.toNat_add]; omega
theorem sub_u32 (x y : BitVec 32) : (U x - U y) % (4294967296 : Int) = U (x - y) := by
  unfold U; rw [BitVec.toNat_sub]; omega
theorem sub_u32_1 (x : BitVec 32) : (U x - 1) % (4294967296 : Int) = U (x - 1#32) := sub_u32 x 1#32
theorem neg_u32 (x : BitVec 32) : (-(U x)) % (4294967296 : Int) = U (-x) := by
  unfold U; rw [BitVec.toNat_neg]; omega
theorem mul_u32 (x y : BitVec 32) : (U x * U y) % (4294967296 : Int) = U (x * y) := by
  unfold U; rw [BitVec.toNat_mul]; omega
theorem shr_u32 (x : BitVec 32) (n : Nat) : U x / (2 : Int) ^ n = U (x >>> n) := by
  unfold U; rw [BitVec.toNat_ushiftRight, Nat.shiftRight_eq_div_pow]; simp
theorem shl_u32 (x : BitVec 32) (n : Nat) : (U x * (2 : Int) ^ n) % (4294967296 : Int) = U (x <<< n) := by
  unfold U; rw [BitVec.toNat_shiftLeft, Nat.shiftLeft_eq]; simp
theorem shr_u32_1 (x : BitVec 32) : U x / (2 : Int) = U (x >>> 1) := shr_u32 x 1
theorem shl_u32_1 (x : BitVec 32) : (U x * (2 : Int)) % (4294967296 : Int) = U (x <<< 1) := shl_u32 x 1
theorem shr_u32_2 (x : BitVec 32) : U x / (4 : Int) = U (x >>> 2) := shr_u32 x 2
theorem shl_u32_2 (x : BitVec 32) : (U x * (4 : Int)) % (4294967296 : Int) = U (x <<< 2) := shl_u32 x 2
theorem shr_u32_3 (x : BitVec 32) : U x / (8 : Int) = U (x >>> 3) := shr_u32 x 3
theorem shl_u32_3 (x : BitVec 32) : (U x * (8 : Int)) % (4294967296 : Int) = U (x <<< 3) := shl_u32 x 3
theorem shr_u32_4 (x : BitVec 32) : U x / (16 : Int) = U (x >>> 4) := shr_u32 x 4
theorem shl_u32_4 (x : BitVec 32) : (U x * (16 : Int)) % (4294967296 : Int) = U (x <<< 4) := shl_u32 x 4
theorem shr_u32_5 (x : BitVec 32) : U x / (32 : Int) = U (x >>> 5) := shr_u32 x 5
theorem shl_u32_5 (x : BitVec 32) : (U x * (32 : Int)) % (4294967296 : Int) = U (x <<< 5) := shl_u32 x 5
theorem shr_u32_6 (x : BitVec 32) : U x / (64 : Int) = U (x >>> 6) := shr_u32 x 6
theorem shl_u32_6 (x : BitVec 32) : (U x * (64 : Int)) % (4294967296 : Int) = U (x <<< 6) := shl_u32 x 6
theorem shr_u32_7 (x : BitVec 32) : U x / (128 : Int) = U (x >>> 7) := shr_u32 x 7
theorem shl_u32_7 (x : BitVec 32) : (U x * (128 : Int)) % (4294967296 : Int) = U (x <<< 7) := shl_u32 x 7
theorem shr_u32_8 (x : BitVec 32) : U x / (256 : Int) = U (x >>> 8) := shr_u32 x 8
theorem shl_u32_8 (x : BitVec 32) : (U x * (256 : Int)) % (4294967296 : Int) = U (x <<< 8) := shl_u32 x 8
theorem shr_u32_9 (x : BitVec 32) : U x / (512 : Int) = U (x >>> 9) := shr_u32 x 9
theorem shl_u32_9 (x : BitVec 32) : (U x * (512 : Int)) % (4294967296 : Int) = U (x <<< 9) := shl_u32 x 9
theorem shr_u32_10 (x : BitVec 32) : U x / (1024 : Int) = U (x >>> 10) := shr_u32 x 10
theorem shl_u32_10 (x : BitVec 32) : (U x * (1024 : Int)) % (4294967296 : Int) = U (x <<< 10) := shl_u32 x 10
theorem shr_u32_11 (x : BitVec 32) : U x / (2048 : Int) = U (x >>> 11) := shr_u32 x 11
theorem shl_u32_11 (x : BitVec 32) : (U x * (2048 : Int)) % (4294967296 : Int) = U (x <<< 11) := shl_u32 x 11
theorem shr_u32_12 (x : BitVec 32) : U x / (4096 : Int) = U (x >>> 12) := shr_u32 x 12
theorem shl_u32_12 (x : BitVec 32) : (U x * (4096 : Int)) % (4294967296 : Int) = U (x <<< 12) := shl_u32 x 12
theorem shr_u32_13 (x : BitVec 32) : U x / (8192 : Int) = U (x >>> 13) := shr_u32 x 13
theorem shl_u32_13 (x : BitVec 32) : (U x * (8192 : Int)) % (4294967296 : Int) = U (x <<< 13) := shl_u32 x 13
theorem shr_u32_14 (x : BitVec 32) : U x / (16384 : Int) = U (x >>> 14) := shr_u32 x 14
theorem shl_u32_14 (x : BitVec 32) : (U x * (16384 : Int)) % (4294967296 : Int) = U (x <<< 14) := shl_u32 x 14
theorem shr_u32_15 (x : BitVec 32) : U x / (32768 : Int) = U (x >>> 15) := shr_u32 x 15
theorem shl_u32_15 (x : BitVec 32) : (U x * (32768 : Int)) % (4294967296 : Int) = U (x <<< 15) := shl_u32 x 15
theorem shr_u32_16 (x : BitVec 32) : U x / (65536 : Int) = U (x >>> 16) := shr_u32 x 16
theorem shl_u32_16 (x : BitVec 32) : (U x * (65536 : Int)) % (4294967296 : Int) = U (x <<< 16) := shl_u32 x 16
theorem shr_u32_17 (x : BitVec 32) : U x / (131072 : Int) = U (x >>> 17) := shr_u32 x 17
theorem shl_u32_17 (x : BitVec 32) : (U x * (131072 : Int)) % (4294967296 : Int) = U (x <<< 17) := shl_u32 x 17
theorem shr_u32_18 (x : BitVec 32) : U x / (262144 : Int) = U (x >>> 18) := shr_u32 x 18
theorem shl_u32_18 (x : BitVec 32) : (U x * (262144 : Int)) % (4294967296 : Int) = U (x <<< 18) := shl_u32 x 18
theorem shr_u32_19 (x : BitVec 32) : U x / (524288 : Int) = U (x >>> 19) := shr_u32 x 19
theorem shl_u32_19 (x : BitVec 32) : (U x * (524288 : Int)) % (4294967296 : Int) = U (x <<< 19) := shl_u32 x 19
theorem shr_u32_20 (x : BitVec 32) : U x / (1048576 : Int) = U (x >>> 20) := shr_u32 x 20
theorem shl_u32_20 (x : BitVec 32) : (U x * (1048576 : Int)) % (4294967296 : Int) = U (x <<< 20) := shl_u32 x 20
theorem shr_u32_21 (x : BitVec 32) : U x / (2097152 : Int) = U (x >>> 21) := shr_u32 x 21
theorem shl_u32_21 (x : BitVec 32) : (U x * (2097152 : Int)) % (4294967296 : Int) = U (x <<< 21) := shl_u32 x 21
theorem shr_u32_22 (x : BitVec 32) : U x / (4194304 : Int) = U (x >>> 22) := shr_u32 x 22
theorem shl_u32_22 (x : BitVec 32) : (U x * (4194304 : Int)) % (4294967296 : Int) = U (x <<< 22) := shl_u32 x 22
theorem shr_u32_23 (x : BitVec 32) : U x / (8388608 : Int) = U (x >>> 23) := shr_u32 x 23
theorem shl_u32_23 (x : BitVec 32) : (U x * (8388608 : Int)) % (4294967296 : Int) = U (x <<< 23) := shl_u32 x 23
theorem shr_u32_24 (x : BitVec 32) : U x / (16777216 : Int) = U (x >>> 24) := shr_u32 x 24
theorem shl_u32_24 (x : BitVec 32) : (U x * (16777216 : Int)) % (4294967296 : Int) = U (x <<< 24) := shl_u32 x 24
theorem shr_u32_25 (x : BitVec 32) : U x / (33554432 : Int) = U (x >>> 25) := shr_u32 x 25
theorem shl_u32_25 (x : BitVec 32) : (U x * (33554432 : Int)) % (4294967296 : Int) = U (x <<< 25) := shl_u32 x 25
theorem shr_u32_26 (x : BitVec 32) : U x / (67108864 : Int) = U (x >>> 26) := shr_u32 x 26
theorem shl_u32_26 (x : BitVec 32) : (U x * (67108864 : Int)) % (4294967296 : Int) = U (x <<< 26) := shl_u32 x 26
theorem shr_u32_27 (x : BitVec 32) : U x / (134217728 : Int) = U (x >>> 27) := shr_u32 x 27
theorem shl_u32_27 (x : BitVec 32) : (U x * (134217728 : Int)) % (4294967296 : Int) = U (x <<< 27) := shl_u32 x 27
theorem shr_u32_28 (x : BitVec 32) : U x / (268435456 : Int) = U (x >>> 28) := shr_u32 x 28
theorem shl_u32_28 (x : BitVec 32) : (U x * (268435456 : Int)) % (4294967296 : Int) = U (x <<< 28) := shl_u32 x 28
theorem shr_u32_29 (x : BitVec 32) : U x / (536870912 : Int) = U (x >>> 29) := shr_u32 x 29
theorem shl_u32_29 (x : BitVec 32) : (U x * (536870912 : Int)) % (4294967296 : Int) = U (x <<< 29) := shl_u32 x 29
theorem shr_u32_30 (x : BitVec 32) : U x / (1073741824 : Int) = U (x >>> 30) := shr_u32 x 30
theorem shl_u32_30 (x : BitVec 32) : (U x * (1073741824 : Int)) % (4294967296 : Int) = U (x <<< 30) := shl_u32 x 30
theorem shr_u32_31 (x : BitVec 32) : U x / (2147483648 : Int) = U (x >>> 31) := shr_u32 x 31
theorem shl_u32_31 (x : BitVec 32) : (U x * (2147483648 : Int)) % (4294967296 : Int) = U (x <<< 31) := shl_u32 x 31
theorem mod_u32_U (x : BitVec 32) : U x % (4294967296 : Int) = U x := by rw [mod_u32, ofInt_U]
attribute [go_sem] mod_u32_U shr_u32_1 shl_u32_1 shr_u32_2 shl_u32_2 shr_u32_3 shl_u32_3 shr_u32_4 shl_u32_4 shr_u32_5 shl_u32_5 shr_u32_6 shl_u32_6 shr_u32_7 shl_u32_7 shr_u32_8 shl_u32_8 shr_u32_9 shl_u32_9 shr_u32_10 shl_u32_10 shr_u32_11 shl_u32_11 shr_u32_12 shl_u32_12 shr_u32_13 shl_u32_13 shr_u32_14 shl_u32_14 shr_u32_15 shl_u32_15 shr_u32_16 shl_u32_16 shr_u32_17 shl_u32_17 shr_u32_18 shl_u32_18 shr_u32_19 shl_u32_19 shr_u32_20 shl_u32_20 shr_u32_21 shl_u32_21 shr_u32_22 shl_u32_22 shr_u32_23 shl_u32_23 shr_u32_24 shl_u32_24 shr_u32_25 shl_u32_25 shr_u32_26 shl_u32_26 shr_u32_27 shl_u32_27 shr_u32_28 shl_u32_28 shr_u32_29 shl_u32_29 shr_u32_30 shl_u32_30 shr_u32_31 shl_u32_31
theorem beq_u32 (x y : BitVec 32) : (U x == U y) = decide (x = y) := by
  rw [Bool.eq_iff_iff]; simp only [beq_iff_eq, decide_eq_true_eq]
  constructor
  · exact U_inj
  · intro h; rw [h]
theorem bne_u32 (x y : BitVec 32) : (U x != U y) = !decide (x = y) := by
  rw [← beq_u32]; rfl
theorem lt_u32 (x y : BitVec 32) : (U x < U y) = (x < y) := by
  rw [BitVec.lt_def]; unfold U; simp
theorem le_u32 (x y : BitVec 32) : (U x ≤ U y) = (x ≤ y) := by
  rw [BitVec.le_def]; unfold U; simp
theorem beq_u32_0 (x : BitVec 32) : (U x == 0) = decide (x = 0#32) := beq_u32 x 0#32
theorem beq_u32_1 (x : BitVec 32) : (U x == 1) = decide (x = 1#32) := beq_u32 x 1#32
theorem bne_u32_0 (x : BitVec 32) : (U x != 0) = !decide (x = 0#32) := bne_u32 x 0#32
theorem bne_u32_1 (x : BitVec 32) : (U x != 1) = !decide (x = 1#32) := bne_u32 x 1#32
attribute [go_sem] bits_and bits_or bits_xor bits_andNot ofInt_U add_u32 sub_u32 sub_u32_1 neg_u32 mul_u32 shr_u32 shl_u32 beq_u32 bne_u32 lt_u32 le_u32 beq_u32_0 beq_u32_1 bne_u32_0 bne_u32_1
theorem tmod_u32 (x y : BitVec 32) : (U x).tmod (U y) = U (x % y) := by
  unfold U; rw [BitVec.toNat_umod]; exact (Int.ofNat_tmod _ _).symm
theorem tdiv_u32 (x y : BitVec 32) : (U x).tdiv (U y) = U (x / y) := by
  unfold U; rw [BitVec.toNat_udiv]; exact (Int.ofNat_tdiv _ _).symm
theorem emod_u32 (x y : BitVec 32) : (U x) % (U y) = U (x % y) := by
  unfold U; rw [BitVec.toNat_umod]; omega
theorem ediv_u32 (x y : BitVec 32) : (U x) / (U y) = U (x / y) := by
  unfold U; rw [BitVec.toNat_udiv]; omega
def S (x : BitVec 32) : Int := x.toInt
theorem wrap_S (x : BitVec 32) : wrap32 (U x) = S x := by
  have := x.isLt; unfold wrap32 S U; rw [BitVec.toInt_eq_toNat_cond]; split <;> omega
theorem mod_S (x : BitVec 32) : S x % (4294967296 : Int) = U x := by
  unfold S U; rw [BitVec.toInt_eq_toNat_cond]; split <;> omega
theorem u32_wrap_S (x : BitVec 32) : IntKind.u32.wrap (S x) = U x := by rw [IntKind.wrap_u32', mod_S]
section
variable {P : Program} (w : World)
theorem run_shr_U (k : IntKind) (x c : BitVec 32) : (Op.shift .shr .u32 (U x) k (U c)).run P w = .ok (.int .u32 (U (x >>> c.toNat))) w := by
  unfold Op.shift
  rw [if_neg (by have := U_nonneg c; omega)]
  show Result.ok (Value.int .u32 ((U x).fdiv (2 ^ (min (U c).toNat 32)))) w = _
  have h1 : (U c).toNat = c.toNat := by unfold U; simp
  rw [h1]
  congr 2
  have h2 : (0 : Int) ≤ 2 ^ (min c.toNat 32) := Int.pow_nonneg (by omega)
  rw [Int.fdiv_eq_ediv_of_nonneg _ h2]
  unfold U
  rw [BitVec.toNat_ushiftRight, Nat.shiftRight_eq_div_pow]
  rcases Nat.le_total c.toNat 32 with h | h
  · rw [Nat.min_eq_left h]; simp
  · rw [Nat.min_eq_right h]
    have hx := x.isLt
    have : x.toNat / 2 ^ c.toNat = 0 := Nat.div_eq_of_lt (Nat.lt_of_lt_of_le hx (Nat.pow_le_pow_right (by omega) h))
    rw [this]
    omega
theorem run_shl_U (k : IntKind) (x c : BitVec 32) : (Op.shift .shl .u32 (U x) k (U c)).run P w = .ok (.int .u32 (U (x <<< c.toNat))) w := by
  unfold Op.shift
  rw [if_neg (by have := U_nonneg c; omega)]
  show Result.ok (Value.int .u32 (IntKind.u32.wrap ((U x) * (2 ^ (min (U c).toNat 32))))) w = _
  have h1 : (U c).toNat = c.toNat := by unfold U; simp
  rw [h1, IntKind.wrap_u32']
  congr 2
  rcases Nat.le_total c.toNat 32 with h | h
  · rw [Nat.min_eq_left h]; exact shl_u32 x c.toNat
  · rw [Nat.min_eq_right h, shl_u32]
    rw [BitVec.shiftLeft_eq_zero (by omega), BitVec.shiftLeft_eq_zero (by omega)]
theorem run_sar_S (k : IntKind) (x c : BitVec 32) : (Op.shift .shr .i32 (S x) k (U c)).run P w = .ok (.int .i32 (S (x.sshiftRight c.toNat))) w := by
  unfold Op.shift
  rw [if_neg (by have := U_nonneg c; omega)]
  show Result.ok (Value.int .i32 ((S x).fdiv (2 ^ (min (U c).toNat 32)))) w = _
  have h1 : (U c).toNat = c.toNat := by unfold U; simp
  rw [h1]
  congr 2
  have h2 : (0 : Int) ≤ 2 ^ (min c.toNat 32) := Int.pow_nonneg (by omega)
  rw [Int.fdiv_eq_ediv_of_nonneg _ h2]
  unfold S
  rw [BitVec.toInt_sshiftRight, Int.shiftRight_eq_div_pow]
  rcases Nat.le_total c.toNat 32 with h | h
  · rw [Nat.min_eq_left h]; simp
  · rw [Nat.min_eq_right h]
    have hx := x.toInt_lt
    have hy := x.le_toInt
    have hp : (2 : Nat) ^ 32 ≤ 2 ^ c.toNat := Nat.pow_le_pow_right (by omega) h
    generalize (2 : Nat) ^ c.toNat = q at hp
    generalize x.toInt = z at hx hy
    simp only [Nat.reduceSub] at hx hy
    by_cases hz : 0 ≤ z
    · rw [Int.ediv_eq_zero_of_lt hz (by omega), Int.ediv_eq_zero_of_lt hz (by omega)]
    · have e1 : z / 2 ^ 32 = -1 := by omega
      have e2 : z / (q : Int) = -1 := by
        rw [Int.ediv_eq_iff_of_pos (by omega)]
        omega
      rw [e1, e2]
end
attribute [go_sem] tmod_u32 tdiv_u32 emod_u32 ediv_u32 wrap_S mod_S u32_wrap_S run_shr_U run_shl_U run_sar_S /-! ### literals -/
theorem lit_0 : Value.int .u32 0 = uv 0#32 := rfl
theorem lit_1 : Value.int .u32 1 = uv 1#32 := rfl
theorem lit_2 : Value.int .u32 2 = uv 2#32 := rfl
theorem lit_3 : Value.int .u32 3 = uv 3#32 := rfl
theorem lit_4 : Value.int .u32 4 = uv 4#32 := rfl
theorem lit_5 : Value.int .u32 5 = uv 5#32 := rfl
theorem lit_6 : Value.int .u32 6 = uv 6#32 := rfl
theorem lit_7 : Value.int .u32 7 = uv 7#32 := rfl
theorem lit_8 : Value.int .u32 8 = uv 8#32 := rfl
theorem lit_10 : Value.int .u32 10 = uv 10#32 := rfl
theorem lit_15 : Value.int .u32 15 = uv 15#32 := rfl
theorem lit_16 : Value.int .u32 16 = uv 16#32 := rfl
theorem lit_31 : Value.int .u32 31 = uv 31#32 := rfl
theorem lit_32 : Value.int .u32 32 = uv 32#32 := rfl
theorem lit_48 : Value.int .u32 48 = uv 48#32 := rfl
theorem lit_63 : Value.int .u32 63 = uv 63#32 := rfl
theorem lit_128 : Value.int .u32 128 = uv 128#32 := rfl
theorem lit_240 : Value.int .u32 240 = uv 240#32 := rfl
theorem lit_255 : Value.int .u32 255 = uv 255#32 := rfl
theorem lit_65535 : Value.int .u32 65535 = uv 65535#32 := rfl
theorem lit_252645135 : Value.int .u32 252645135 = uv 252645135#32 := rfl
theorem lit_2147483648 : Value.int .u32 2147483648 = uv 2147483648#32 := rfl
theorem lit_4294967280 : Value.int .u32 4294967280 = uv 4294967280#32 := rfl
theorem lit_4294967168 : Value.int .u32 4294967168 = uv 4294967168#32 := rfl
theorem lit_4294967292 : Value.int .u32 4294967292 = uv 4294967292#32 := rfl
theorem lit_4294967295 : Value.int .u32 4294967295 = uv 4294967295#32 := rfl
attribute [go_sem] lit_0 lit_1 lit_2 lit_3 lit_4 lit_5 lit_6 lit_7 lit_8 lit_10 lit_15 lit_16 lit_31 lit_32 lit_48 lit_63 lit_128 lit_240 lit_255 lit_65535 lit_252645135 lit_2147483648 lit_4294967280 lit_4294967168 lit_4294967292 lit_4294967295
theorem ret4 {p q r s : Int} {y : V} (h1 : p = U y.a) (h2 : q = U y.b) (h3 : r = U y.c) (h4 : s = U y.d) :
    Ending.returned (.agg #[.int .u32 p, .int .u32 q, .int .u32 r, .int .u32 s]) = .returned (vv y) := by rw [h1, h2, h3, h4]
theorem U_ofNat (n : Nat) : U (BitVec.ofNat 32 n) = ((n % 4294967296 : Nat) : Int) := by
  unfold U; rw [BitVec.toNat_ofNat]
attribute [go_sem] V.word V.zero V.all
theorem ret_vv {x y : V} (h : x = y) : Ending.returned (vv x) = .returned (vv y) := by rw [h]
theorem ret_lit {n : Int} {y : BitVec 32} (h : n = U y) : Ending.returned (.int .u32 n) = .returned (uv y) := by rw [h]
/-! ### equality of vectors -/
section
variable {P : Program} (w : World)
open Op in
theorem run_equalIn_words (d : Nat) (t e : TypeId) (a b c f a' b' c' f' : Int) (ht : P.underlying t = some (.array 4 e)) (he : P.underlying e = some (.int .u32)) (hsz : ∀ w, (sizeOf e).run P w = .ok 1 w) (hag : ∀ w, (isAgg e).run P w = .ok false w) :
    (Op.equalIn (d + 2) t (.agg #[.int .u32 a, .int .u32 b, .int .u32 c, .int .u32 f]) (.agg #[.int .u32 a', .int .u32 b', .int .u32 c', .int .u32 f'])).run P w = .ok ((a == a') && ((b == b') && ((c == c') && (f == f')))) w := by
  have hp : ∀ (xs : Array Value) (i : Nat) (v : Value), xs[i]? = some v → (part e xs i).run P w = .ok v w := by
    intro xs i v h
    unfold part
    simp [hag, h]
  have h0 := fun p q r s : Value => hp #[p, q, r, s] 0 p rfl
  have h1 := fun p q r s : Value => hp #[p, q, r, s] 1 q rfl
  have h2 := fun p q r s : Value => hp #[p, q, r, s] 2 r rfl
  have h3 := fun p q r s : Value => hp #[p, q, r, s] 3 s rfl
  have hr : List.range' 0 4 = [0, 1, 2, 3] := rfl
  have hi := fun (x y : Int) => run_equalIn_int (P := P) w d e .u32 .u32 x y he
  unfold Op.equalIn
  simp only [Sem.run_bind, run_underlying ht, Result.andThen_ok, hsz, Std.Legacy.Range.forIn_eq_forIn_range', Std.Legacy.Range.size, Nat.sub_zero, Nat.add_sub_cancel, Nat.div_one, hr, List.forIn_cons, List.forIn_nil,
    Nat.mul_one, h0, hi]
  cases a == a'
  · simp
  simp only [h1, hi, Result.andThen_ok, Bool.not_true, Bool.false_eq_true, if_false, Sem.run_pure, Sem.run_bind, Bool.true_and]
  cases b == b'
  · simp
  simp only [h2, hi, Result.andThen_ok, Bool.not_true, Bool.false_eq_true, if_false, Sem.run_pure, Sem.run_bind, Bool.true_and]
  cases c == c'
  · simp
  simp only [h3, hi, Result.andThen_ok, Bool.not_true, Bool.false_eq_true, if_false, Sem.run_pure, Sem.run_bind, Bool.true_and]
  cases f == f'
  · simp
  · simp
end
theorem size_u32 (w : World) : (sizeOf 22).run Tryz.prog w = .ok 1 w := by kernel_rfl
theorem agg_u32 (w : World) : (isAgg 22).run Tryz.prog w = .ok false w := by kernel_rfl
theorem guard_Vec : Tryz.prog.eqGuardType Tryz.prog.depth 24 = false := by kernel_rfl
theorem guard_vec : Tryz.prog.eqGuardType Tryz.prog.depth 69 = false := by kernel_rfl
theorem eql_vecs (a b c d a' b' c' d' : BitVec 32) : ((U a == U a') && ((U b == U b') && ((U c == U c') && (U d == U d')))) = decide (V.mk a b c d = V.mk a' b' c' d') := by
  simp only [beq_u32]
  rw [Bool.eq_iff_iff]
  simp
theorem run_eq_Vec (a b c d a' b' c' d' : BitVec 32) (w : World) : (Op.equalIn 10000 24 (.agg #[uv a, uv b, uv c, uv d]) (.agg #[uv a', uv b', uv c', uv d'])).run Tryz.prog w = .ok (decide (V.mk a b c d = V.mk a' b' c' d')) w := by
  rw [← eql_vecs]; exact run_equalIn_words w 9998 _ 22 _ _ _ _ _ _ _ _ (by kernel_rfl) (by kernel_rfl) size_u32 agg_u32
theorem run_eq_vec (a b c d a' b' c' d' : BitVec 32) (w : World) : (Op.equalIn 10000 69 (.agg #[uv a, uv b, uv c, uv d]) (.agg #[uv a', uv b', uv c', uv d'])).run Tryz.prog w = .ok (decide (V.mk a b c d = V.mk a' b' c' d')) w := by
  rw [← eql_vecs]; exact run_equalIn_words w 9998 _ 22 _ _ _ _ _ _ _ _ (by kernel_rfl) (by kernel_rfl) size_u32 agg_u32
attribute [go_sem] run_eq_Vec run_eq_vec V.eta guard_Vec guard_vec /-! ### an element of a vector that is a value -/
theorem idx_Vec_0 (a b c d : Value) (w : World) : (Instr.index 24 (.agg #[a, b, c, d]) (.int .i64 0)).run Tryz.prog w = .ok a w := by kernel_rfl
theorem idx_Vec_1 (a b c d : Value) (w : World) : (Instr.index 24 (.agg #[a, b, c, d]) (.int .i64 1)).run Tryz.prog w = .ok b w := by kernel_rfl
theorem idx_Vec_2 (a b c d : Value) (w : World) : (Instr.index 24 (.agg #[a, b, c, d]) (.int .i64 2)).run Tryz.prog w = .ok c w := by kernel_rfl
theorem idx_Vec_3 (a b c d : Value) (w : World) : (Instr.index 24 (.agg #[a, b, c, d]) (.int .i64 3)).run Tryz.prog w = .ok d w := by kernel_rfl
theorem idx_vec_0 (a b c d : Value) (w : World) : (Instr.index 69 (.agg #[a, b, c, d]) (.int .i64 0)).run Tryz.prog w = .ok a w := by kernel_rfl
theorem idx_vec_1 (a b c d : Value) (w : World) : (Instr.index 69 (.agg #[a, b, c, d]) (.int .i64 1)).run Tryz.prog w = .ok b w := by kernel_rfl
theorem idx_vec_2 (a b c d : Value) (w : World) : (Instr.index 69 (.agg #[a, b, c, d]) (.int .i64 2)).run Tryz.prog w = .ok c w := by kernel_rfl
theorem idx_vec_3 (a b c d : Value) (w : World) : (Instr.index 69 (.agg #[a, b, c, d]) (.int .i64 3)).run Tryz.prog w = .ok d w := by kernel_rfl
attribute [go_sem] idx_Vec_0 idx_Vec_1 idx_Vec_2 idx_Vec_3 idx_vec_0 idx_vec_1 idx_vec_2 idx_vec_3
abbrev Gives (v : Value) (w : World) (e : Ending) (w' : World) : Prop := e = .returned v ∧ Below w.heap.size w w'
end Go.Proofs.YtboknfppecgjmaaGreat
