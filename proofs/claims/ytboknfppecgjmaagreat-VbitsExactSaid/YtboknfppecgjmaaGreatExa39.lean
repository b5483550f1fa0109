/- Part 39 of the proof's texts: AluC, Holds, Call12. -/
import Derived.Test.YtboknfppecgjmaaGreatExa9
import Derived.Test.YtboknfppecgjmaaGreatExa31
set_option maxHeartbeats 16000000
namespace Go.Proofs.YtboknfppecgjmaaGreat
set_option linter.unusedVariables false
set_option linter.unusedSimpArgs false
open Go.RowKit Go.Shelf
theorem add_u32_1 (x : BitVec 32) : (U x + 1) % (4294967296 : Int) = U (x + 1#32) := add_u32 x 1#32
theorem bits_01 : bits .and .i64 0 1 = 0 := by decide
theorem bits_11 : bits .and .i64 1 1 = 1 := by decide
attribute [go_sem] add_u32_1 bits_01 bits_11
end Go.Proofs.YtboknfppecgjmaaGreat
namespace Go.Proofs.YtboknfppecgjmaaGreat
set_option linter.unusedVariables false
set_option linter.unusedSimpArgs false
open Go.RowKit Go.Shelf
def Rf.cond (cd : Nat) (z n c v : Bool) : Bool :=
  (if cd / 2 = 0 then z else if cd / 2 = 1 then c else if cd / 2 = 2 then n else if cd / 2 = 3 then v else if cd / 2 = 4 then c || z else if cd / 2 = 5 then n != v else if cd / 2 = 6 then z || n != v else true) == (cd % 2 == 0)
abbrev HoldsC (cd : Nat) (f : Int) : Prop := ∀ w, Calls Tryz.prog 78 #[iv (cd : Int), iv f] w fun e w' => e = .returned (.bool (Rf.cond cd (bits .and .i64 f 1 != 0) (bits .and .i64 f 2 != 0) (bits .and .i64 f 4 != 0) (bits .and .i64 f 8 != 0))) ∧ Below w.heap.size w w'
end Go.Proofs.YtboknfppecgjmaaGreat
namespace Go.Proofs.YtboknfppecgjmaaGreat
set_option linter.unusedVariables false
set_option linter.unusedSimpArgs false
open Go.RowKit Go.Shelf
abbrev FlagsC (op d1 d2 d3 : BitVec 32) (f : Int) : Prop := ∀ w, Calls Tryz.prog 77 #[uv op, uv d1, uv d2, uv d3] w fun e w' => e = .returned (iv f) ∧ Below w.heap.size w w'
theorem alu7_8_all (a b : BitVec 32) (k : Int) : ∃ C V, AluC 8 a b k (a <<< (b.toNat % 32)) (Rf.flags (a <<< (b.toNat % 32)) C V) true := by
  have hlt : b.toNat % 32 < 32 := Nat.mod_lt _ (by omega)
  have hb : ∀ n, b.toNat % 32 = n → b % 32#32 = BitVec.ofNat 32 n := by
    intro n hn
    apply BitVec.eq_of_toNat_eq
    rw [BitVec.toNat_umod]
    show b.toNat % 32 = (BitVec.ofNat 32 n).toNat
    rw [BitVec.toNat_ofNat]
    omega
  obtain ⟨h0, h1, h2, h3, h4, h5, h6, h7, h8, h9, h10, h11, h12, h13, h14, h15, h16, h17, h18, h19, h20, h21, h22, h23, h24, h25, h26, h27, h28, h29, h30, h31⟩ := alu7_8
  generalize b.toNat % 32 = n at *
  rcases (show n = 0 ∨ n = 1 ∨ n = 2 ∨ n = 3 ∨ n = 4 ∨ n = 5 ∨ n = 6 ∨ n = 7 ∨ n = 8 ∨ n = 9 ∨ n = 10 ∨ n = 11 ∨ n = 12 ∨ n = 13 ∨ n = 14 ∨ n = 15 ∨ n = 16 ∨ n = 17 ∨ n = 18 ∨ n = 19 ∨ n = 20 ∨ n = 21 ∨ n = 22 ∨ n = 23 ∨ n = 24 ∨ n = 25 ∨ n = 26 ∨ n = 27 ∨ n = 28 ∨ n = 29 ∨ n = 30 ∨ n = 31 by omega) with rfl | rfl | rfl | rfl | rfl | rfl | rfl | rfl | rfl | rfl | rfl | rfl | rfl | rfl | rfl | rfl | rfl | rfl | rfl | rfl | rfl | rfl | rfl | rfl | rfl | rfl | rfl | rfl | rfl | rfl | rfl | rfl
  · have h := h0 a b k (hb 0 rfl)
    have e : a <<< 0 = a := by simp
    rw [e]
    exact ⟨_, _, h⟩
  · exact ⟨_, _, h1 a b k (hb 1 rfl)⟩
  · exact ⟨_, _, h2 a b k (hb 2 rfl)⟩
  · exact ⟨_, _, h3 a b k (hb 3 rfl)⟩
  · exact ⟨_, _, h4 a b k (hb 4 rfl)⟩
  · exact ⟨_, _, h5 a b k (hb 5 rfl)⟩
  · exact ⟨_, _, h6 a b k (hb 6 rfl)⟩
  · exact ⟨_, _, h7 a b k (hb 7 rfl)⟩
  · exact ⟨_, _, h8 a b k (hb 8 rfl)⟩
  · exact ⟨_, _, h9 a b k (hb 9 rfl)⟩
  · exact ⟨_, _, h10 a b k (hb 10 rfl)⟩
  · exact ⟨_, _, h11 a b k (hb 11 rfl)⟩
  · exact ⟨_, _, h12 a b k (hb 12 rfl)⟩
  · exact ⟨_, _, h13 a b k (hb 13 rfl)⟩
  · exact ⟨_, _, h14 a b k (hb 14 rfl)⟩
  · exact ⟨_, _, h15 a b k (hb 15 rfl)⟩
  · exact ⟨_, _, h16 a b k (hb 16 rfl)⟩
  · exact ⟨_, _, h17 a b k (hb 17 rfl)⟩
  · exact ⟨_, _, h18 a b k (hb 18 rfl)⟩
  · exact ⟨_, _, h19 a b k (hb 19 rfl)⟩
  · exact ⟨_, _, h20 a b k (hb 20 rfl)⟩
  · exact ⟨_, _, h21 a b k (hb 21 rfl)⟩
  · exact ⟨_, _, h22 a b k (hb 22 rfl)⟩
  · exact ⟨_, _, h23 a b k (hb 23 rfl)⟩
  · exact ⟨_, _, h24 a b k (hb 24 rfl)⟩
  · exact ⟨_, _, h25 a b k (hb 25 rfl)⟩
  · exact ⟨_, _, h26 a b k (hb 26 rfl)⟩
  · exact ⟨_, _, h27 a b k (hb 27 rfl)⟩
  · exact ⟨_, _, h28 a b k (hb 28 rfl)⟩
  · exact ⟨_, _, h29 a b k (hb 29 rfl)⟩
  · exact ⟨_, _, h30 a b k (hb 30 rfl)⟩
  · exact ⟨_, _, h31 a b k (hb 31 rfl)⟩
theorem alu7_9_all (a b : BitVec 32) (k : Int) : ∃ C V, AluC 9 a b k (a >>> (b.toNat % 32)) (Rf.flags (a >>> (b.toNat % 32)) C V) true := by
  have hlt : b.toNat % 32 < 32 := Nat.mod_lt _ (by omega)
  have hb : ∀ n, b.toNat % 32 = n → b % 32#32 = BitVec.ofNat 32 n := by
    intro n hn
    apply BitVec.eq_of_toNat_eq
    rw [BitVec.toNat_umod]
    show b.toNat % 32 = (BitVec.ofNat 32 n).toNat
    rw [BitVec.toNat_ofNat]
    omega
  obtain ⟨h0, h1, h2, h3, h4, h5, h6, h7, h8, h9, h10, h11, h12, h13, h14, h15, h16, h17, h18, h19, h20, h21, h22, h23, h24, h25, h26, h27, h28, h29, h30, h31⟩ := alu7_9
  generalize b.toNat % 32 = n at *
  rcases (show n = 0 ∨ n = 1 ∨ n = 2 ∨ n = 3 ∨ n = 4 ∨ n = 5 ∨ n = 6 ∨ n = 7 ∨ n = 8 ∨ n = 9 ∨ n = 10 ∨ n = 11 ∨ n = 12 ∨ n = 13 ∨ n = 14 ∨ n = 15 ∨ n = 16 ∨ n = 17 ∨ n = 18 ∨ n = 19 ∨ n = 20 ∨ n = 21 ∨ n = 22 ∨ n = 23 ∨ n = 24 ∨ n = 25 ∨ n = 26 ∨ n = 27 ∨ n = 28 ∨ n = 29 ∨ n = 30 ∨ n = 31 by omega) with rfl | rfl | rfl | rfl | rfl | rfl | rfl | rfl | rfl | rfl | rfl | rfl | rfl | rfl | rfl | rfl | rfl | rfl | rfl | rfl | rfl | rfl | rfl | rfl | rfl | rfl | rfl | rfl | rfl | rfl | rfl | rfl
  · have h := h0 a b k (hb 0 rfl)
    have e : a >>> 0 = a := by simp
    rw [e]
    exact ⟨_, _, h⟩
  · exact ⟨_, _, h1 a b k (hb 1 rfl)⟩
  · exact ⟨_, _, h2 a b k (hb 2 rfl)⟩
  · exact ⟨_, _, h3 a b k (hb 3 rfl)⟩
  · exact ⟨_, _, h4 a b k (hb 4 rfl)⟩
  · exact ⟨_, _, h5 a b k (hb 5 rfl)⟩
  · exact ⟨_, _, h6 a b k (hb 6 rfl)⟩
  · exact ⟨_, _, h7 a b k (hb 7 rfl)⟩
  · exact ⟨_, _, h8 a b k (hb 8 rfl)⟩
  · exact ⟨_, _, h9 a b k (hb 9 rfl)⟩
  · exact ⟨_, _, h10 a b k (hb 10 rfl)⟩
  · exact ⟨_, _, h11 a b k (hb 11 rfl)⟩
  · exact ⟨_, _, h12 a b k (hb 12 rfl)⟩
  · exact ⟨_, _, h13 a b k (hb 13 rfl)⟩
  · exact ⟨_, _, h14 a b k (hb 14 rfl)⟩
  · exact ⟨_, _, h15 a b k (hb 15 rfl)⟩
  · exact ⟨_, _, h16 a b k (hb 16 rfl)⟩
  · exact ⟨_, _, h17 a b k (hb 17 rfl)⟩
  · exact ⟨_, _, h18 a b k (hb 18 rfl)⟩
  · exact ⟨_, _, h19 a b k (hb 19 rfl)⟩
  · exact ⟨_, _, h20 a b k (hb 20 rfl)⟩
  · exact ⟨_, _, h21 a b k (hb 21 rfl)⟩
  · exact ⟨_, _, h22 a b k (hb 22 rfl)⟩
  · exact ⟨_, _, h23 a b k (hb 23 rfl)⟩
  · exact ⟨_, _, h24 a b k (hb 24 rfl)⟩
  · exact ⟨_, _, h25 a b k (hb 25 rfl)⟩
  · exact ⟨_, _, h26 a b k (hb 26 rfl)⟩
  · exact ⟨_, _, h27 a b k (hb 27 rfl)⟩
  · exact ⟨_, _, h28 a b k (hb 28 rfl)⟩
  · exact ⟨_, _, h29 a b k (hb 29 rfl)⟩
  · exact ⟨_, _, h30 a b k (hb 30 rfl)⟩
  · exact ⟨_, _, h31 a b k (hb 31 rfl)⟩
theorem alu7_10_all (a b : BitVec 32) (k : Int) : ∃ C V, AluC 10 a b k (a.sshiftRight (b.toNat % 32)) (Rf.flags (a.sshiftRight (b.toNat % 32)) C V) true := by
  have hlt : b.toNat % 32 < 32 := Nat.mod_lt _ (by omega)
  have hb : ∀ n, b.toNat % 32 = n → b % 32#32 = BitVec.ofNat 32 n := by
    intro n hn
    apply BitVec.eq_of_toNat_eq
    rw [BitVec.toNat_umod]
    show b.toNat % 32 = (BitVec.ofNat 32 n).toNat
    rw [BitVec.toNat_ofNat]
    omega
  obtain ⟨h0, h1, h2, h3, h4, h5, h6, h7, h8, h9, h10, h11, h12, h13, h14, h15, h16, h17, h18, h19, h20, h21, h22, h23, h24, h25, h26, h27, h28, h29, h30, h31⟩ := alu7_10
  generalize b.toNat % 32 = n at *
  rcases (show n = 0 ∨ n = 1 ∨ n = 2 ∨ n = 3 ∨ n = 4 ∨ n = 5 ∨ n = 6 ∨ n = 7 ∨ n = 8 ∨ n = 9 ∨ n = 10 ∨ n = 11 ∨ n = 12 ∨ n = 13 ∨ n = 14 ∨ n = 15 ∨ n = 16 ∨ n = 17 ∨ n = 18 ∨ n = 19 ∨ n = 20 ∨ n = 21 ∨ n = 22 ∨ n = 23 ∨ n = 24 ∨ n = 25 ∨ n = 26 ∨ n = 27 ∨ n = 28 ∨ n = 29 ∨ n = 30 ∨ n = 31 by omega) with rfl | rfl | rfl | rfl | rfl | rfl | rfl | rfl | rfl | rfl | rfl | rfl | rfl | rfl | rfl | rfl | rfl | rfl | rfl | rfl | rfl | rfl | rfl | rfl | rfl | rfl | rfl | rfl | rfl | rfl | rfl | rfl
  · have h := h0 a b k (hb 0 rfl)
    have e : a.sshiftRight 0 = a := by simp
    rw [e]
    exact ⟨_, _, h⟩
  · exact ⟨_, _, h1 a b k (hb 1 rfl)⟩
  · exact ⟨_, _, h2 a b k (hb 2 rfl)⟩
  · exact ⟨_, _, h3 a b k (hb 3 rfl)⟩
  · exact ⟨_, _, h4 a b k (hb 4 rfl)⟩
  · exact ⟨_, _, h5 a b k (hb 5 rfl)⟩
  · exact ⟨_, _, h6 a b k (hb 6 rfl)⟩
  · exact ⟨_, _, h7 a b k (hb 7 rfl)⟩
  · exact ⟨_, _, h8 a b k (hb 8 rfl)⟩
  · exact ⟨_, _, h9 a b k (hb 9 rfl)⟩
  · exact ⟨_, _, h10 a b k (hb 10 rfl)⟩
  · exact ⟨_, _, h11 a b k (hb 11 rfl)⟩
  · exact ⟨_, _, h12 a b k (hb 12 rfl)⟩
  · exact ⟨_, _, h13 a b k (hb 13 rfl)⟩
  · exact ⟨_, _, h14 a b k (hb 14 rfl)⟩
  · exact ⟨_, _, h15 a b k (hb 15 rfl)⟩
  · exact ⟨_, _, h16 a b k (hb 16 rfl)⟩
  · exact ⟨_, _, h17 a b k (hb 17 rfl)⟩
  · exact ⟨_, _, h18 a b k (hb 18 rfl)⟩
  · exact ⟨_, _, h19 a b k (hb 19 rfl)⟩
  · exact ⟨_, _, h20 a b k (hb 20 rfl)⟩
  · exact ⟨_, _, h21 a b k (hb 21 rfl)⟩
  · exact ⟨_, _, h22 a b k (hb 22 rfl)⟩
  · exact ⟨_, _, h23 a b k (hb 23 rfl)⟩
  · exact ⟨_, _, h24 a b k (hb 24 rfl)⟩
  · exact ⟨_, _, h25 a b k (hb 25 rfl)⟩
  · exact ⟨_, _, h26 a b k (hb 26 rfl)⟩
  · exact ⟨_, _, h27 a b k (hb 27 rfl)⟩
  · exact ⟨_, _, h28 a b k (hb 28 rfl)⟩
  · exact ⟨_, _, h29 a b k (hb 29 rfl)⟩
  · exact ⟨_, _, h30 a b k (hb 30 rfl)⟩
  · exact ⟨_, _, h31 a b k (hb 31 rfl)⟩
end Go.Proofs.YtboknfppecgjmaaGreat
