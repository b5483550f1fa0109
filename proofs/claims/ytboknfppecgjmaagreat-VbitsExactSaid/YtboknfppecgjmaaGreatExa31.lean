/- Part 31 of the proof's texts: AluB. -/
import Derived.Test.YtboknfppecgjmaaGreatExa26
set_option maxHeartbeats 16000000
namespace Go.Proofs.YtboknfppecgjmaaGreat
set_option linter.unusedVariables false
set_option linter.unusedSimpArgs false
open Go.RowKit Go.Shelf
theorem S_shift (a : BitVec 32) (n : Nat) : S a / (2 ^ n : Int) % 4294967296 = U (a.sshiftRight n) := by
  have h1 : (a.sshiftRight n).toInt = a.toInt >>> n := BitVec.toInt_sshiftRight ..
  have h2 : U (a.sshiftRight n) = (a.sshiftRight n).toInt % 4294967296 := by
    unfold U
    rw [BitVec.toInt_eq_toNat_bmod, Int.bmod_def]
    have := (a.sshiftRight n).isLt
    split <;> omega
  rw [h2, h1, Int.shiftRight_eq_div_pow]
  have h3 : ((2 ^ n : Nat) : Int) = (2 : Int) ^ n := Int.natCast_pow 2 n
  rw [h3]
  rfl
theorem shf_of {op : Int} {a b : BitVec 32} {k : Int} {r : BitVec 32} {C : Bool} (h : ∀ fl : Int, Hid (∀ w, Calls Tryz.prog 112 #[uv r, .bool C, .bool false] w fun e w' => e = .returned (iv fl) ∧ Below w.heap.size w w') →
    ∀ w, Calls Tryz.prog 56 #[iv op, uv a, uv b, iv k] w fun e w' => e = .returned (.tuple #[uv r, iv fl, .bool true]) ∧ Below w.heap.size w w') : AluC op a b k r (Rf.flags r C false) true := fun w => h _ (Lib.hid (flagsOf_c r C false)) w
theorem UL_0 : U 0#32 = 0 := rfl
theorem UL_1 : U 1#32 = 1 := rfl
theorem UL_2 : U 2#32 = 2 := rfl
theorem UL_3 : U 3#32 = 3 := rfl
theorem UL_4 : U 4#32 = 4 := rfl
theorem UL_5 : U 5#32 = 5 := rfl
theorem UL_6 : U 6#32 = 6 := rfl
theorem UL_7 : U 7#32 = 7 := rfl
theorem UL_8 : U 8#32 = 8 := rfl
theorem UL_9 : U 9#32 = 9 := rfl
theorem UL_10 : U 10#32 = 10 := rfl
theorem UL_11 : U 11#32 = 11 := rfl
theorem UL_12 : U 12#32 = 12 := rfl
theorem UL_13 : U 13#32 = 13 := rfl
theorem UL_14 : U 14#32 = 14 := rfl
theorem UL_15 : U 15#32 = 15 := rfl
theorem UL_16 : U 16#32 = 16 := rfl
theorem UL_17 : U 17#32 = 17 := rfl
theorem UL_18 : U 18#32 = 18 := rfl
theorem UL_19 : U 19#32 = 19 := rfl
theorem UL_20 : U 20#32 = 20 := rfl
theorem UL_21 : U 21#32 = 21 := rfl
theorem UL_22 : U 22#32 = 22 := rfl
theorem UL_23 : U 23#32 = 23 := rfl
theorem UL_24 : U 24#32 = 24 := rfl
theorem UL_25 : U 25#32 = 25 := rfl
theorem UL_26 : U 26#32 = 26 := rfl
theorem UL_27 : U 27#32 = 27 := rfl
theorem UL_28 : U 28#32 = 28 := rfl
theorem UL_29 : U 29#32 = 29 := rfl
theorem UL_30 : U 30#32 = 30 := rfl
theorem UL_31 : U 31#32 = 31 := rfl
theorem S_sh1 (a : BitVec 32) : S a / 2 % 4294967296 = U (a.sshiftRight 1) := S_shift a 1
theorem S_sh2 (a : BitVec 32) : S a / 4 % 4294967296 = U (a.sshiftRight 2) := S_shift a 2
theorem S_sh3 (a : BitVec 32) : S a / 8 % 4294967296 = U (a.sshiftRight 3) := S_shift a 3
theorem S_sh4 (a : BitVec 32) : S a / 16 % 4294967296 = U (a.sshiftRight 4) := S_shift a 4
theorem S_sh5 (a : BitVec 32) : S a / 32 % 4294967296 = U (a.sshiftRight 5) := S_shift a 5
theorem S_sh6 (a : BitVec 32) : S a / 64 % 4294967296 = U (a.sshiftRight 6) := S_shift a 6
theorem S_sh7 (a : BitVec 32) : S a / 128 % 4294967296 = U (a.sshiftRight 7) := S_shift a 7
theorem S_sh8 (a : BitVec 32) : S a / 256 % 4294967296 = U (a.sshiftRight 8) := S_shift a 8
theorem S_sh9 (a : BitVec 32) : S a / 512 % 4294967296 = U (a.sshiftRight 9) := S_shift a 9
theorem S_sh10 (a : BitVec 32) : S a / 1024 % 4294967296 = U (a.sshiftRight 10) := S_shift a 10
theorem S_sh11 (a : BitVec 32) : S a / 2048 % 4294967296 = U (a.sshiftRight 11) := S_shift a 11
theorem S_sh12 (a : BitVec 32) : S a / 4096 % 4294967296 = U (a.sshiftRight 12) := S_shift a 12
theorem S_sh13 (a : BitVec 32) : S a / 8192 % 4294967296 = U (a.sshiftRight 13) := S_shift a 13
theorem S_sh14 (a : BitVec 32) : S a / 16384 % 4294967296 = U (a.sshiftRight 14) := S_shift a 14
theorem S_sh15 (a : BitVec 32) : S a / 32768 % 4294967296 = U (a.sshiftRight 15) := S_shift a 15
theorem S_sh16 (a : BitVec 32) : S a / 65536 % 4294967296 = U (a.sshiftRight 16) := S_shift a 16
theorem S_sh17 (a : BitVec 32) : S a / 131072 % 4294967296 = U (a.sshiftRight 17) := S_shift a 17
theorem S_sh18 (a : BitVec 32) : S a / 262144 % 4294967296 = U (a.sshiftRight 18) := S_shift a 18
theorem S_sh19 (a : BitVec 32) : S a / 524288 % 4294967296 = U (a.sshiftRight 19) := S_shift a 19
theorem S_sh20 (a : BitVec 32) : S a / 1048576 % 4294967296 = U (a.sshiftRight 20) := S_shift a 20
theorem S_sh21 (a : BitVec 32) : S a / 2097152 % 4294967296 = U (a.sshiftRight 21) := S_shift a 21
theorem S_sh22 (a : BitVec 32) : S a / 4194304 % 4294967296 = U (a.sshiftRight 22) := S_shift a 22
theorem S_sh23 (a : BitVec 32) : S a / 8388608 % 4294967296 = U (a.sshiftRight 23) := S_shift a 23
theorem S_sh24 (a : BitVec 32) : S a / 16777216 % 4294967296 = U (a.sshiftRight 24) := S_shift a 24
theorem S_sh25 (a : BitVec 32) : S a / 33554432 % 4294967296 = U (a.sshiftRight 25) := S_shift a 25
theorem S_sh26 (a : BitVec 32) : S a / 67108864 % 4294967296 = U (a.sshiftRight 26) := S_shift a 26
theorem S_sh27 (a : BitVec 32) : S a / 134217728 % 4294967296 = U (a.sshiftRight 27) := S_shift a 27
theorem S_sh28 (a : BitVec 32) : S a / 268435456 % 4294967296 = U (a.sshiftRight 28) := S_shift a 28
theorem S_sh29 (a : BitVec 32) : S a / 536870912 % 4294967296 = U (a.sshiftRight 29) := S_shift a 29
theorem S_sh30 (a : BitVec 32) : S a / 1073741824 % 4294967296 = U (a.sshiftRight 30) := S_shift a 30
theorem S_sh31 (a : BitVec 32) : S a / 2147483648 % 4294967296 = U (a.sshiftRight 31) := S_shift a 31
section
attribute [local go_sem] UL_0 UL_1 UL_2 UL_3 UL_4 UL_5 UL_6 UL_7 UL_8 UL_9 UL_10 UL_11 UL_12 UL_13 UL_14 UL_15 UL_16 UL_17 UL_18 UL_19 UL_20 UL_21 UL_22 UL_23 UL_24 UL_25 UL_26 UL_27 UL_28 UL_29 UL_30 UL_31 S_sh1 S_sh2 S_sh3 S_sh4 S_sh5 S_sh6 S_sh7 S_sh8 S_sh9 S_sh10 S_sh11 S_sh12 S_sh13 S_sh14 S_sh15 S_sh16 S_sh17 S_sh18 S_sh19 S_sh20 S_sh21 S_sh22 S_sh23 S_sh24 S_sh25 S_sh26 S_sh27 S_sh28 S_sh29 S_sh30 S_sh31
set_option maxRecDepth 100000 in
theorem alu7_8 : (∀ (a b : BitVec 32) (k : Int), b % 32#32 = 0#32 → AluC 8 a b k (a) (Rf.flags (a) (false) false) true) ∧
    (∀ (a b : BitVec 32) (k : Int), b % 32#32 = 1#32 → AluC 8 a b k (a <<< 1) (Rf.flags (a <<< 1) (decide ((a >>> 31) &&& 1#32 = 1#32)) false) true) ∧
    (∀ (a b : BitVec 32) (k : Int), b % 32#32 = 2#32 → AluC 8 a b k (a <<< 2) (Rf.flags (a <<< 2) (decide ((a >>> 30) &&& 1#32 = 1#32)) false) true) ∧
    (∀ (a b : BitVec 32) (k : Int), b % 32#32 = 3#32 → AluC 8 a b k (a <<< 3) (Rf.flags (a <<< 3) (decide ((a >>> 29) &&& 1#32 = 1#32)) false) true) ∧
    (∀ (a b : BitVec 32) (k : Int), b % 32#32 = 4#32 → AluC 8 a b k (a <<< 4) (Rf.flags (a <<< 4) (decide ((a >>> 28) &&& 1#32 = 1#32)) false) true) ∧
    (∀ (a b : BitVec 32) (k : Int), b % 32#32 = 5#32 → AluC 8 a b k (a <<< 5) (Rf.flags (a <<< 5) (decide ((a >>> 27) &&& 1#32 = 1#32)) false) true) ∧
    (∀ (a b : BitVec 32) (k : Int), b % 32#32 = 6#32 → AluC 8 a b k (a <<< 6) (Rf.flags (a <<< 6) (decide ((a >>> 26) &&& 1#32 = 1#32)) false) true) ∧
    (∀ (a b : BitVec 32) (k : Int), b % 32#32 = 7#32 → AluC 8 a b k (a <<< 7) (Rf.flags (a <<< 7) (decide ((a >>> 25) &&& 1#32 = 1#32)) false) true) ∧
    (∀ (a b : BitVec 32) (k : Int), b % 32#32 = 8#32 → AluC 8 a b k (a <<< 8) (Rf.flags (a <<< 8) (decide ((a >>> 24) &&& 1#32 = 1#32)) false) true) ∧
    (∀ (a b : BitVec 32) (k : Int), b % 32#32 = 9#32 → AluC 8 a b k (a <<< 9) (Rf.flags (a <<< 9) (decide ((a >>> 23) &&& 1#32 = 1#32)) false) true) ∧
    (∀ (a b : BitVec 32) (k : Int), b % 32#32 = 10#32 → AluC 8 a b k (a <<< 10) (Rf.flags (a <<< 10) (decide ((a >>> 22) &&& 1#32 = 1#32)) false) true) ∧
    (∀ (a b : BitVec 32) (k : Int), b % 32#32 = 11#32 → AluC 8 a b k (a <<< 11) (Rf.flags (a <<< 11) (decide ((a >>> 21) &&& 1#32 = 1#32)) false) true) ∧
    (∀ (a b : BitVec 32) (k : Int), b % 32#32 = 12#32 → AluC 8 a b k (a <<< 12) (Rf.flags (a <<< 12) (decide ((a >>> 20) &&& 1#32 = 1#32)) false) true) ∧
    (∀ (a b : BitVec 32) (k : Int), b % 32#32 = 13#32 → AluC 8 a b k (a <<< 13) (Rf.flags (a <<< 13) (decide ((a >>> 19) &&& 1#32 = 1#32)) false) true) ∧
    (∀ (a b : BitVec 32) (k : Int), b % 32#32 = 14#32 → AluC 8 a b k (a <<< 14) (Rf.flags (a <<< 14) (decide ((a >>> 18) &&& 1#32 = 1#32)) false) true) ∧
    (∀ (a b : BitVec 32) (k : Int), b % 32#32 = 15#32 → AluC 8 a b k (a <<< 15) (Rf.flags (a <<< 15) (decide ((a >>> 17) &&& 1#32 = 1#32)) false) true) ∧
    (∀ (a b : BitVec 32) (k : Int), b % 32#32 = 16#32 → AluC 8 a b k (a <<< 16) (Rf.flags (a <<< 16) (decide ((a >>> 16) &&& 1#32 = 1#32)) false) true) ∧
    (∀ (a b : BitVec 32) (k : Int), b % 32#32 = 17#32 → AluC 8 a b k (a <<< 17) (Rf.flags (a <<< 17) (decide ((a >>> 15) &&& 1#32 = 1#32)) false) true) ∧
    (∀ (a b : BitVec 32) (k : Int), b % 32#32 = 18#32 → AluC 8 a b k (a <<< 18) (Rf.flags (a <<< 18) (decide ((a >>> 14) &&& 1#32 = 1#32)) false) true) ∧
    (∀ (a b : BitVec 32) (k : Int), b % 32#32 = 19#32 → AluC 8 a b k (a <<< 19) (Rf.flags (a <<< 19) (decide ((a >>> 13) &&& 1#32 = 1#32)) false) true) ∧
    (∀ (a b : BitVec 32) (k : Int), b % 32#32 = 20#32 → AluC 8 a b k (a <<< 20) (Rf.flags (a <<< 20) (decide ((a >>> 12) &&& 1#32 = 1#32)) false) true) ∧
    (∀ (a b : BitVec 32) (k : Int), b % 32#32 = 21#32 → AluC 8 a b k (a <<< 21) (Rf.flags (a <<< 21) (decide ((a >>> 11) &&& 1#32 = 1#32)) false) true) ∧
    (∀ (a b : BitVec 32) (k : Int), b % 32#32 = 22#32 → AluC 8 a b k (a <<< 22) (Rf.flags (a <<< 22) (decide ((a >>> 10) &&& 1#32 = 1#32)) false) true) ∧
    (∀ (a b : BitVec 32) (k : Int), b % 32#32 = 23#32 → AluC 8 a b k (a <<< 23) (Rf.flags (a <<< 23) (decide ((a >>> 9) &&& 1#32 = 1#32)) false) true) ∧
    (∀ (a b : BitVec 32) (k : Int), b % 32#32 = 24#32 → AluC 8 a b k (a <<< 24) (Rf.flags (a <<< 24) (decide ((a >>> 8) &&& 1#32 = 1#32)) false) true) ∧
    (∀ (a b : BitVec 32) (k : Int), b % 32#32 = 25#32 → AluC 8 a b k (a <<< 25) (Rf.flags (a <<< 25) (decide ((a >>> 7) &&& 1#32 = 1#32)) false) true) ∧
    (∀ (a b : BitVec 32) (k : Int), b % 32#32 = 26#32 → AluC 8 a b k (a <<< 26) (Rf.flags (a <<< 26) (decide ((a >>> 6) &&& 1#32 = 1#32)) false) true) ∧
    (∀ (a b : BitVec 32) (k : Int), b % 32#32 = 27#32 → AluC 8 a b k (a <<< 27) (Rf.flags (a <<< 27) (decide ((a >>> 5) &&& 1#32 = 1#32)) false) true) ∧
    (∀ (a b : BitVec 32) (k : Int), b % 32#32 = 28#32 → AluC 8 a b k (a <<< 28) (Rf.flags (a <<< 28) (decide ((a >>> 4) &&& 1#32 = 1#32)) false) true) ∧
    (∀ (a b : BitVec 32) (k : Int), b % 32#32 = 29#32 → AluC 8 a b k (a <<< 29) (Rf.flags (a <<< 29) (decide ((a >>> 3) &&& 1#32 = 1#32)) false) true) ∧
    (∀ (a b : BitVec 32) (k : Int), b % 32#32 = 30#32 → AluC 8 a b k (a <<< 30) (Rf.flags (a <<< 30) (decide ((a >>> 2) &&& 1#32 = 1#32)) false) true) ∧
    (∀ (a b : BitVec 32) (k : Int), b % 32#32 = 31#32 → AluC 8 a b k (a <<< 31) (Rf.flags (a <<< 31) (decide ((a >>> 1) &&& 1#32 = 1#32)) false) true) := by
  refine ⟨?_, ?_, ?_, ?_, ?_, ?_, ?_, ?_, ?_, ?_, ?_, ?_, ?_, ?_, ?_, ?_, ?_, ?_, ?_, ?_, ?_, ?_, ?_, ?_, ?_, ?_, ?_, ?_, ?_, ?_, ?_, ?_⟩
  all_goals
    intro a b k hn
    refine shf_of (fun fl hc w => ?_)
    go_enter Tryz.func56, Tryz.ntmps56
    go_wp2_with fail
    refine (hc.out _).mono ?_
    rintro e v1 ⟨rfl, hb⟩
    go_wp2_with fail
    go_ret3
    exact ⟨rfl, hb⟩
set_option maxRecDepth 100000 in
theorem alu7_9 : (∀ (a b : BitVec 32) (k : Int), b % 32#32 = 0#32 → AluC 9 a b k (a) (Rf.flags (a) (false) false) true) ∧
    (∀ (a b : BitVec 32) (k : Int), b % 32#32 = 1#32 → AluC 9 a b k (a >>> 1) (Rf.flags (a >>> 1) (decide (a &&& 1#32 = 1#32)) false) true) ∧
    (∀ (a b : BitVec 32) (k : Int), b % 32#32 = 2#32 → AluC 9 a b k (a >>> 2) (Rf.flags (a >>> 2) (decide ((a >>> 1) &&& 1#32 = 1#32)) false) true) ∧
    (∀ (a b : BitVec 32) (k : Int), b % 32#32 = 3#32 → AluC 9 a b k (a >>> 3) (Rf.flags (a >>> 3) (decide ((a >>> 2) &&& 1#32 = 1#32)) false) true) ∧
    (∀ (a b : BitVec 32) (k : Int), b % 32#32 = 4#32 → AluC 9 a b k (a >>> 4) (Rf.flags (a >>> 4) (decide ((a >>> 3) &&& 1#32 = 1#32)) false) true) ∧
    (∀ (a b : BitVec 32) (k : Int), b % 32#32 = 5#32 → AluC 9 a b k (a >>> 5) (Rf.flags (a >>> 5) (decide ((a >>> 4) &&& 1#32 = 1#32)) false) true) ∧
    (∀ (a b : BitVec 32) (k : Int), b % 32#32 = 6#32 → AluC 9 a b k (a >>> 6) (Rf.flags (a >>> 6) (decide ((a >>> 5) &&& 1#32 = 1#32)) false) true) ∧
    (∀ (a b : BitVec 32) (k : Int), b % 32#32 = 7#32 → AluC 9 a b k (a >>> 7) (Rf.flags (a >>> 7) (decide ((a >>> 6) &&& 1#32 = 1#32)) false) true) ∧
    (∀ (a b : BitVec 32) (k : Int), b % 32#32 = 8#32 → AluC 9 a b k (a >>> 8) (Rf.flags (a >>> 8) (decide ((a >>> 7) &&& 1#32 = 1#32)) false) true) ∧
    (∀ (a b : BitVec 32) (k : Int), b % 32#32 = 9#32 → AluC 9 a b k (a >>> 9) (Rf.flags (a >>> 9) (decide ((a >>> 8) &&& 1#32 = 1#32)) false) true) ∧
    (∀ (a b : BitVec 32) (k : Int), b % 32#32 = 10#32 → AluC 9 a b k (a >>> 10) (Rf.flags (a >>> 10) (decide ((a >>> 9) &&& 1#32 = 1#32)) false) true) ∧
    (∀ (a b : BitVec 32) (k : Int), b % 32#32 = 11#32 → AluC 9 a b k (a >>> 11) (Rf.flags (a >>> 11) (decide ((a >>> 10) &&& 1#32 = 1#32)) false) true) ∧
    (∀ (a b : BitVec 32) (k : Int), b % 32#32 = 12#32 → AluC 9 a b k (a >>> 12) (Rf.flags (a >>> 12) (decide ((a >>> 11) &&& 1#32 = 1#32)) false) true) ∧
    (∀ (a b : BitVec 32) (k : Int), b % 32#32 = 13#32 → AluC 9 a b k (a >>> 13) (Rf.flags (a >>> 13) (decide ((a >>> 12) &&& 1#32 = 1#32)) false) true) ∧
    (∀ (a b : BitVec 32) (k : Int), b % 32#32 = 14#32 → AluC 9 a b k (a >>> 14) (Rf.flags (a >>> 14) (decide ((a >>> 13) &&& 1#32 = 1#32)) false) true) ∧
    (∀ (a b : BitVec 32) (k : Int), b % 32#32 = 15#32 → AluC 9 a b k (a >>> 15) (Rf.flags (a >>> 15) (decide ((a >>> 14) &&& 1#32 = 1#32)) false) true) ∧
    (∀ (a b : BitVec 32) (k : Int), b % 32#32 = 16#32 → AluC 9 a b k (a >>> 16) (Rf.flags (a >>> 16) (decide ((a >>> 15) &&& 1#32 = 1#32)) false) true) ∧
    (∀ (a b : BitVec 32) (k : Int), b % 32#32 = 17#32 → AluC 9 a b k (a >>> 17) (Rf.flags (a >>> 17) (decide ((a >>> 16) &&& 1#32 = 1#32)) false) true) ∧
    (∀ (a b : BitVec 32) (k : Int), b % 32#32 = 18#32 → AluC 9 a b k (a >>> 18) (Rf.flags (a >>> 18) (decide ((a >>> 17) &&& 1#32 = 1#32)) false) true) ∧
    (∀ (a b : BitVec 32) (k : Int), b % 32#32 = 19#32 → AluC 9 a b k (a >>> 19) (Rf.flags (a >>> 19) (decide ((a >>> 18) &&& 1#32 = 1#32)) false) true) ∧
    (∀ (a b : BitVec 32) (k : Int), b % 32#32 = 20#32 → AluC 9 a b k (a >>> 20) (Rf.flags (a >>> 20) (decide ((a >>> 19) &&& 1#32 = 1#32)) false) true) ∧
    (∀ (a b : BitVec 32) (k : Int), b % 32#32 = 21#32 → AluC 9 a b k (a >>> 21) (Rf.flags (a >>> 21) (decide ((a >>> 20) &&& 1#32 = 1#32)) false) true) ∧
    (∀ (a b : BitVec 32) (k : Int), b % 32#32 = 22#32 → AluC 9 a b k (a >>> 22) (Rf.flags (a >>> 22) (decide ((a >>> 21) &&& 1#32 = 1#32)) false) true) ∧
    (∀ (a b : BitVec 32) (k : Int), b % 32#32 = 23#32 → AluC 9 a b k (a >>> 23) (Rf.flags (a >>> 23) (decide ((a >>> 22) &&& 1#32 = 1#32)) false) true) ∧
    (∀ (a b : BitVec 32) (k : Int), b % 32#32 = 24#32 → AluC 9 a b k (a >>> 24) (Rf.flags (a >>> 24) (decide ((a >>> 23) &&& 1#32 = 1#32)) false) true) ∧
    (∀ (a b : BitVec 32) (k : Int), b % 32#32 = 25#32 → AluC 9 a b k (a >>> 25) (Rf.flags (a >>> 25) (decide ((a >>> 24) &&& 1#32 = 1#32)) false) true) ∧
    (∀ (a b : BitVec 32) (k : Int), b % 32#32 = 26#32 → AluC 9 a b k (a >>> 26) (Rf.flags (a >>> 26) (decide ((a >>> 25) &&& 1#32 = 1#32)) false) true) ∧
    (∀ (a b : BitVec 32) (k : Int), b % 32#32 = 27#32 → AluC 9 a b k (a >>> 27) (Rf.flags (a >>> 27) (decide ((a >>> 26) &&& 1#32 = 1#32)) false) true) ∧
    (∀ (a b : BitVec 32) (k : Int), b % 32#32 = 28#32 → AluC 9 a b k (a >>> 28) (Rf.flags (a >>> 28) (decide ((a >>> 27) &&& 1#32 = 1#32)) false) true) ∧
    (∀ (a b : BitVec 32) (k : Int), b % 32#32 = 29#32 → AluC 9 a b k (a >>> 29) (Rf.flags (a >>> 29) (decide ((a >>> 28) &&& 1#32 = 1#32)) false) true) ∧
    (∀ (a b : BitVec 32) (k : Int), b % 32#32 = 30#32 → AluC 9 a b k (a >>> 30) (Rf.flags (a >>> 30) (decide ((a >>> 29) &&& 1#32 = 1#32)) false) true) ∧
    (∀ (a b : BitVec 32) (k : Int), b % 32#32 = 31#32 → AluC 9 a b k (a >>> 31) (Rf.flags (a >>> 31) (decide ((a >>> 30) &&& 1#32 = 1#32)) false) true) := by
  refine ⟨?_, ?_, ?_, ?_, ?_, ?_, ?_, ?_, ?_, ?_, ?_, ?_, ?_, ?_, ?_, ?_, ?_, ?_, ?_, ?_, ?_, ?_, ?_, ?_, ?_, ?_, ?_, ?_, ?_, ?_, ?_, ?_⟩
  all_goals
    intro a b k hn
    refine shf_of (fun fl hc w => ?_)
    go_enter Tryz.func56, Tryz.ntmps56
    go_wp2_with fail
    refine (hc.out _).mono ?_
    rintro e v1 ⟨rfl, hb⟩
    go_wp2_with fail
    go_ret3
    exact ⟨rfl, hb⟩
set_option maxRecDepth 100000 in
theorem alu7_10 : (∀ (a b : BitVec 32) (k : Int), b % 32#32 = 0#32 → AluC 10 a b k (a) (Rf.flags (a) (false) false) true) ∧
    (∀ (a b : BitVec 32) (k : Int), b % 32#32 = 1#32 → AluC 10 a b k (a.sshiftRight 1) (Rf.flags (a.sshiftRight 1) (decide (a &&& 1#32 = 1#32)) false) true) ∧
    (∀ (a b : BitVec 32) (k : Int), b % 32#32 = 2#32 → AluC 10 a b k (a.sshiftRight 2) (Rf.flags (a.sshiftRight 2) (decide ((a >>> 1) &&& 1#32 = 1#32)) false) true) ∧
    (∀ (a b : BitVec 32) (k : Int), b % 32#32 = 3#32 → AluC 10 a b k (a.sshiftRight 3) (Rf.flags (a.sshiftRight 3) (decide ((a >>> 2) &&& 1#32 = 1#32)) false) true) ∧
    (∀ (a b : BitVec 32) (k : Int), b % 32#32 = 4#32 → AluC 10 a b k (a.sshiftRight 4) (Rf.flags (a.sshiftRight 4) (decide ((a >>> 3) &&& 1#32 = 1#32)) false) true) ∧
    (∀ (a b : BitVec 32) (k : Int), b % 32#32 = 5#32 → AluC 10 a b k (a.sshiftRight 5) (Rf.flags (a.sshiftRight 5) (decide ((a >>> 4) &&& 1#32 = 1#32)) false) true) ∧
    (∀ (a b : BitVec 32) (k : Int), b % 32#32 = 6#32 → AluC 10 a b k (a.sshiftRight 6) (Rf.flags (a.sshiftRight 6) (decide ((a >>> 5) &&& 1#32 = 1#32)) false) true) ∧
    (∀ (a b : BitVec 32) (k : Int), b % 32#32 = 7#32 → AluC 10 a b k (a.sshiftRight 7) (Rf.flags (a.sshiftRight 7) (decide ((a >>> 6) &&& 1#32 = 1#32)) false) true) ∧
    (∀ (a b : BitVec 32) (k : Int), b % 32#32 = 8#32 → AluC 10 a b k (a.sshiftRight 8) (Rf.flags (a.sshiftRight 8) (decide ((a >>> 7) &&& 1#32 = 1#32)) false) true) ∧
    (∀ (a b : BitVec 32) (k : Int), b % 32#32 = 9#32 → AluC 10 a b k (a.sshiftRight 9) (Rf.flags (a.sshiftRight 9) (decide ((a >>> 8) &&& 1#32 = 1#32)) false) true) ∧
    (∀ (a b : BitVec 32) (k : Int), b % 32#32 = 10#32 → AluC 10 a b k (a.sshiftRight 10) (Rf.flags (a.sshiftRight 10) (decide ((a >>> 9) &&& 1#32 = 1#32)) false) true) ∧
    (∀ (a b : BitVec 32) (k : Int), b % 32#32 = 11#32 → AluC 10 a b k (a.sshiftRight 11) (Rf.flags (a.sshiftRight 11) (decide ((a >>> 10) &&& 1#32 = 1#32)) false) true) ∧
    (∀ (a b : BitVec 32) (k : Int), b % 32#32 = 12#32 → AluC 10 a b k (a.sshiftRight 12) (Rf.flags (a.sshiftRight 12) (decide ((a >>> 11) &&& 1#32 = 1#32)) false) true) ∧
    (∀ (a b : BitVec 32) (k : Int), b % 32#32 = 13#32 → AluC 10 a b k (a.sshiftRight 13) (Rf.flags (a.sshiftRight 13) (decide ((a >>> 12) &&& 1#32 = 1#32)) false) true) ∧
    (∀ (a b : BitVec 32) (k : Int), b % 32#32 = 14#32 → AluC 10 a b k (a.sshiftRight 14) (Rf.flags (a.sshiftRight 14) (decide ((a >>> 13) &&& 1#32 = 1#32)) false) true) ∧
    (∀ (a b : BitVec 32) (k : Int), b % 32#32 = 15#32 → AluC 10 a b k (a.sshiftRight 15) (Rf.flags (a.sshiftRight 15) (decide ((a >>> 14) &&& 1#32 = 1#32)) false) true) ∧
    (∀ (a b : BitVec 32) (k : Int), b % 32#32 = 16#32 → AluC 10 a b k (a.sshiftRight 16) (Rf.flags (a.sshiftRight 16) (decide ((a >>> 15) &&& 1#32 = 1#32)) false) true) ∧
    (∀ (a b : BitVec 32) (k : Int), b % 32#32 = 17#32 → AluC 10 a b k (a.sshiftRight 17) (Rf.flags (a.sshiftRight 17) (decide ((a >>> 16) &&& 1#32 = 1#32)) false) true) ∧
    (∀ (a b : BitVec 32) (k : Int), b % 32#32 = 18#32 → AluC 10 a b k (a.sshiftRight 18) (Rf.flags (a.sshiftRight 18) (decide ((a >>> 17) &&& 1#32 = 1#32)) false) true) ∧
    (∀ (a b : BitVec 32) (k : Int), b % 32#32 = 19#32 → AluC 10 a b k (a.sshiftRight 19) (Rf.flags (a.sshiftRight 19) (decide ((a >>> 18) &&& 1#32 = 1#32)) false) true) ∧
    (∀ (a b : BitVec 32) (k : Int), b % 32#32 = 20#32 → AluC 10 a b k (a.sshiftRight 20) (Rf.flags (a.sshiftRight 20) (decide ((a >>> 19) &&& 1#32 = 1#32)) false) true) ∧
    (∀ (a b : BitVec 32) (k : Int), b % 32#32 = 21#32 → AluC 10 a b k (a.sshiftRight 21) (Rf.flags (a.sshiftRight 21) (decide ((a >>> 20) &&& 1#32 = 1#32)) false) true) ∧
    (∀ (a b : BitVec 32) (k : Int), b % 32#32 = 22#32 → AluC 10 a b k (a.sshiftRight 22) (Rf.flags (a.sshiftRight 22) (decide ((a >>> 21) &&& 1#32 = 1#32)) false) true) ∧
    (∀ (a b : BitVec 32) (k : Int), b % 32#32 = 23#32 → AluC 10 a b k (a.sshiftRight 23) (Rf.flags (a.sshiftRight 23) (decide ((a >>> 22) &&& 1#32 = 1#32)) false) true) ∧
    (∀ (a b : BitVec 32) (k : Int), b % 32#32 = 24#32 → AluC 10 a b k (a.sshiftRight 24) (Rf.flags (a.sshiftRight 24) (decide ((a >>> 23) &&& 1#32 = 1#32)) false) true) ∧
    (∀ (a b : BitVec 32) (k : Int), b % 32#32 = 25#32 → AluC 10 a b k (a.sshiftRight 25) (Rf.flags (a.sshiftRight 25) (decide ((a >>> 24) &&& 1#32 = 1#32)) false) true) ∧
    (∀ (a b : BitVec 32) (k : Int), b % 32#32 = 26#32 → AluC 10 a b k (a.sshiftRight 26) (Rf.flags (a.sshiftRight 26) (decide ((a >>> 25) &&& 1#32 = 1#32)) false) true) ∧
    (∀ (a b : BitVec 32) (k : Int), b % 32#32 = 27#32 → AluC 10 a b k (a.sshiftRight 27) (Rf.flags (a.sshiftRight 27) (decide ((a >>> 26) &&& 1#32 = 1#32)) false) true) ∧
    (∀ (a b : BitVec 32) (k : Int), b % 32#32 = 28#32 → AluC 10 a b k (a.sshiftRight 28) (Rf.flags (a.sshiftRight 28) (decide ((a >>> 27) &&& 1#32 = 1#32)) false) true) ∧
    (∀ (a b : BitVec 32) (k : Int), b % 32#32 = 29#32 → AluC 10 a b k (a.sshiftRight 29) (Rf.flags (a.sshiftRight 29) (decide ((a >>> 28) &&& 1#32 = 1#32)) false) true) ∧
    (∀ (a b : BitVec 32) (k : Int), b % 32#32 = 30#32 → AluC 10 a b k (a.sshiftRight 30) (Rf.flags (a.sshiftRight 30) (decide ((a >>> 29) &&& 1#32 = 1#32)) false) true) ∧
    (∀ (a b : BitVec 32) (k : Int), b % 32#32 = 31#32 → AluC 10 a b k (a.sshiftRight 31) (Rf.flags (a.sshiftRight 31) (decide ((a >>> 30) &&& 1#32 = 1#32)) false) true) := by
  refine ⟨?_, ?_, ?_, ?_, ?_, ?_, ?_, ?_, ?_, ?_, ?_, ?_, ?_, ?_, ?_, ?_, ?_, ?_, ?_, ?_, ?_, ?_, ?_, ?_, ?_, ?_, ?_, ?_, ?_, ?_, ?_, ?_⟩
  all_goals
    intro a b k hn
    refine shf_of (fun fl hc w => ?_)
    go_enter Tryz.func56, Tryz.ntmps56
    go_wp2_with fail
    refine (hc.out _).mono ?_
    rintro e v1 ⟨rfl, hb⟩
    go_wp2_with fail
    go_ret3
    exact ⟨rfl, hb⟩
end
end Go.Proofs.YtboknfppecgjmaaGreat
