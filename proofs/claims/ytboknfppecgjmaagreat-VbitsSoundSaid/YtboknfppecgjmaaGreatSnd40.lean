/- Part 40 of the proof's texts: Call12. -/
import Derived.Test.YtboknfppecgjmaaGreatSnd9
import Derived.Test.YtboknfppecgjmaaGreatSnd39
namespace Go.Proofs.YtboknfppecgjmaaGreat
set_option linter.unusedVariables false
set_option linter.unusedSimpArgs false
open Go.RowKit Go.Shelf
abbrev FlagsC (op d1 d2 d3 : BitVec 32) (f : Int) : Prop := ∀ w, Calls Tryz.prog 77 #[uv op, uv d1, uv d2, uv d3] w fun e w' => e = .returned (iv f) ∧ Below w.heap.size w w'
set_option maxHeartbeats 4000000 in
theorem flags12_0 (op d1 d2 d3 : BitVec 32) (hop : U op = 0) : FlagsC op d1 d2 d3 (wrap64 (U (d1 &&& 15#32))) := by
  intro w
  go_enter Tryz.func77, Tryz.ntmps77
  go_wp2
  go_ret
  exact ⟨rfl, by (repeat (first | exact Below.refl _ _ | refine Below.setCell ?_ (by first | omega | (simp <;> omega)) _ | refine Below.alloc ?_ (by first | omega | (simp <;> omega)) _ | refine Below.drew ?_ | refine Below.trans ?_ (Below.mono (by assumption) (by first | omega | (simp <;> omega)))))⟩
set_option maxRecDepth 100000 in
set_option maxHeartbeats 4000000 in
theorem flags12_1 (op d1 d2 d3 r : BitVec 32) (f : Int) (ok : Bool) (hop : U op = 1) (HA : Hid (AluC 3 d1 d2 (wrap64 (U (d3 &&& 1#32))) r f ok)) : FlagsC op d1 d2 d3 f := by
  intro w
  go_enter Tryz.func77, Tryz.ntmps77
  go_wp2_with fail
  (refine (HA.out _ ).mono ?_; rintro e u1 ⟨rfl, hb⟩; obtain ⟨hc, hf⟩ := Flow.bcell hb; have hz := hb.size; (try simp only [World.size_alloc, World.size_setCell, World.size_drew] at hz))
  go_wp2_with fail
  go_ret
  exact ⟨rfl, by (repeat (first | exact Below.refl _ _ | refine Below.setCell ?_ (by first | omega | (simp <;> omega)) _ | refine Below.alloc ?_ (by first | omega | (simp <;> omega)) _ | refine Below.drew ?_ | refine Below.trans ?_ (Below.mono (by assumption) (by first | omega | (simp <;> omega)))))⟩
set_option maxRecDepth 100000 in
set_option maxHeartbeats 4000000 in
theorem flags12_2 (op d1 d2 d3 r : BitVec 32) (f : Int) (ok : Bool) (hop : U op = 2) (HA : Hid (AluC 4 d1 d2 (wrap64 (U (d3 &&& 1#32))) r f ok)) : FlagsC op d1 d2 d3 f := by
  intro w
  go_enter Tryz.func77, Tryz.ntmps77
  go_wp2_with fail
  (refine (HA.out _ ).mono ?_; rintro e u1 ⟨rfl, hb⟩; obtain ⟨hc, hf⟩ := Flow.bcell hb; have hz := hb.size; (try simp only [World.size_alloc, World.size_setCell, World.size_drew] at hz))
  go_wp2_with fail
  go_ret
  exact ⟨rfl, by (repeat (first | exact Below.refl _ _ | refine Below.setCell ?_ (by first | omega | (simp <;> omega)) _ | refine Below.alloc ?_ (by first | omega | (simp <;> omega)) _ | refine Below.drew ?_ | refine Below.trans ?_ (Below.mono (by assumption) (by first | omega | (simp <;> omega)))))⟩
set_option maxRecDepth 100000 in
set_option maxHeartbeats 4000000 in
theorem flags12_3 (op d1 d2 d3 r : BitVec 32) (f : Int) (ok : Bool) (hop : U op = 3) (HA : Hid (AluC 6 d1 d1 (wrap64 (U (d3 &&& 1#32))) r f ok)) : FlagsC op d1 d2 d3 f := by
  intro w
  go_enter Tryz.func77, Tryz.ntmps77
  go_wp2_with fail
  (refine (HA.out _ ).mono ?_; rintro e u1 ⟨rfl, hb⟩; obtain ⟨hc, hf⟩ := Flow.bcell hb; have hz := hb.size; (try simp only [World.size_alloc, World.size_setCell, World.size_drew] at hz))
  go_wp2_with fail
  go_ret
  exact ⟨rfl, by (repeat (first | exact Below.refl _ _ | refine Below.setCell ?_ (by first | omega | (simp <;> omega)) _ | refine Below.alloc ?_ (by first | omega | (simp <;> omega)) _ | refine Below.drew ?_ | refine Below.trans ?_ (Below.mono (by assumption) (by first | omega | (simp <;> omega)))))⟩
set_option maxRecDepth 100000 in
set_option maxHeartbeats 4000000 in
theorem flags12_4 (op d1 d2 d3 r : BitVec 32) (f : Int) (ok : Bool) (hop : U op = 4) (HA : Hid (AluC 8 d1 d2 (wrap64 (U (d3 &&& 1#32))) r f ok)) : FlagsC op d1 d2 d3 f := by
  intro w
  go_enter Tryz.func77, Tryz.ntmps77
  go_wp2_with fail
  (refine (HA.out _ ).mono ?_; rintro e u1 ⟨rfl, hb⟩; obtain ⟨hc, hf⟩ := Flow.bcell hb; have hz := hb.size; (try simp only [World.size_alloc, World.size_setCell, World.size_drew] at hz))
  go_wp2_with fail
  go_ret
  exact ⟨rfl, by (repeat (first | exact Below.refl _ _ | refine Below.setCell ?_ (by first | omega | (simp <;> omega)) _ | refine Below.alloc ?_ (by first | omega | (simp <;> omega)) _ | refine Below.drew ?_ | refine Below.trans ?_ (Below.mono (by assumption) (by first | omega | (simp <;> omega)))))⟩
set_option maxRecDepth 100000 in
set_option maxHeartbeats 4000000 in
theorem flags12_5 (op d1 d2 d3 r : BitVec 32) (f : Int) (ok : Bool) (hop : U op = 5) (HA : Hid (AluC 9 d1 d2 (wrap64 (U (d3 &&& 1#32))) r f ok)) : FlagsC op d1 d2 d3 f := by
  intro w
  go_enter Tryz.func77, Tryz.ntmps77
  go_wp2_with fail
  (refine (HA.out _ ).mono ?_; rintro e u1 ⟨rfl, hb⟩; obtain ⟨hc, hf⟩ := Flow.bcell hb; have hz := hb.size; (try simp only [World.size_alloc, World.size_setCell, World.size_drew] at hz))
  go_wp2_with fail
  go_ret
  exact ⟨rfl, by (repeat (first | exact Below.refl _ _ | refine Below.setCell ?_ (by first | omega | (simp <;> omega)) _ | refine Below.alloc ?_ (by first | omega | (simp <;> omega)) _ | refine Below.drew ?_ | refine Below.trans ?_ (Below.mono (by assumption) (by first | omega | (simp <;> omega)))))⟩
set_option maxRecDepth 100000 in
set_option maxHeartbeats 4000000 in
theorem flags12_6 (op d1 d2 d3 r : BitVec 32) (f : Int) (ok : Bool) (hop : U op = 6) (HA : Hid (AluC 10 d1 d2 (wrap64 (U (d3 &&& 1#32))) r f ok)) : FlagsC op d1 d2 d3 f := by
  intro w
  go_enter Tryz.func77, Tryz.ntmps77
  go_wp2_with fail
  (refine (HA.out _ ).mono ?_; rintro e u1 ⟨rfl, hb⟩; obtain ⟨hc, hf⟩ := Flow.bcell hb; have hz := hb.size; (try simp only [World.size_alloc, World.size_setCell, World.size_drew] at hz))
  go_wp2_with fail
  go_ret
  exact ⟨rfl, by (repeat (first | exact Below.refl _ _ | refine Below.setCell ?_ (by first | omega | (simp <;> omega)) _ | refine Below.alloc ?_ (by first | omega | (simp <;> omega)) _ | refine Below.drew ?_ | refine Below.trans ?_ (Below.mono (by assumption) (by first | omega | (simp <;> omega)))))⟩
set_option maxRecDepth 100000 in
set_option maxHeartbeats 4000000 in
theorem flags12_7 (op d1 d2 d3 r : BitVec 32) (f : Int) (ok : Bool) (hop : U op = 7) (HA : Hid (AluC 16 d1 d2 (wrap64 (U (d3 &&& 1#32))) r f ok)) : FlagsC op d1 d2 d3 f := by
  intro w
  go_enter Tryz.func77, Tryz.ntmps77
  go_wp2_with fail
  (refine (HA.out _ ).mono ?_; rintro e u1 ⟨rfl, hb⟩; obtain ⟨hc, hf⟩ := Flow.bcell hb; have hz := hb.size; (try simp only [World.size_alloc, World.size_setCell, World.size_drew] at hz))
  go_wp2_with fail
  go_ret
  exact ⟨rfl, by (repeat (first | exact Below.refl _ _ | refine Below.setCell ?_ (by first | omega | (simp <;> omega)) _ | refine Below.alloc ?_ (by first | omega | (simp <;> omega)) _ | refine Below.drew ?_ | refine Below.trans ?_ (Below.mono (by assumption) (by first | omega | (simp <;> omega)))))⟩
set_option maxRecDepth 100000 in
set_option maxHeartbeats 4000000 in
theorem flags12_8 (op d1 d2 d3 r : BitVec 32) (f : Int) (ok : Bool) (hop : U op = 8) (HA : Hid (AluC 17 d1 d2 (wrap64 (U (d3 &&& 1#32))) r f ok)) : FlagsC op d1 d2 d3 f := by
  intro w
  go_enter Tryz.func77, Tryz.ntmps77
  go_wp2_with fail
  (refine (HA.out _ ).mono ?_; rintro e u1 ⟨rfl, hb⟩; obtain ⟨hc, hf⟩ := Flow.bcell hb; have hz := hb.size; (try simp only [World.size_alloc, World.size_setCell, World.size_drew] at hz))
  go_wp2_with fail
  go_ret
  exact ⟨rfl, by (repeat (first | exact Below.refl _ _ | refine Below.setCell ?_ (by first | omega | (simp <;> omega)) _ | refine Below.alloc ?_ (by first | omega | (simp <;> omega)) _ | refine Below.drew ?_ | refine Below.trans ?_ (Below.mono (by assumption) (by first | omega | (simp <;> omega)))))⟩
set_option maxRecDepth 100000 in
set_option maxHeartbeats 4000000 in
theorem flags12_n (op d1 d2 d3 : BitVec 32) (h0 : decide (op = 0#32) = false) (h1 : decide (op = 1#32) = false) (h2 : decide (op = 2#32) = false) (h3 : decide (op = 3#32) = false) (h4 : decide (op = 4#32) = false) (h5 : decide (op = 5#32) = false) (h6 : decide (op = 6#32) = false) (h7 : decide (op = 7#32) = false) (h8 : decide (op = 8#32) = false) : FlagsC op d1 d2 d3 0 := by
  intro w
  go_enter Tryz.func77, Tryz.ntmps77
  go_wp2
  go_ret
  exact ⟨rfl, by (repeat (first | exact Below.refl _ _ | refine Below.setCell ?_ (by first | omega | (simp <;> omega)) _ | refine Below.alloc ?_ (by first | omega | (simp <;> omega)) _ | refine Below.drew ?_ | refine Below.trans ?_ (Below.mono (by assumption) (by first | omega | (simp <;> omega)))))⟩
theorem alu7_8_all (a b : BitVec 32) (k : Int) : ∃ C V, AluC 8 a b k (a <<< (b.toNat % 32)) (Rf.flags (a <<< (b.toNat % 32)) C V) true := by
  have hlt : b.toNat % 32 < 32 := Nat.mod_lt _ (by omega)
  have hb : ∀ n, b.toNat % 32 = n → b % 32#32 = BitVec.ofNat 32 n := by
    intro n hn
    apply BitVec.eq_of_toNat_eq
    rw [BitVec.toNat_umod]
    show b.toNat % 32 = (BitVec.ofNat 32 n).toNat
    rw [BitVec.toNat_ofNat]
    omega
  obtain ⟨h0, h1, h2, h3, h4, h5, h6, h7, h8, h9, h10, h11, h12, h13, h14, h15, h16, h17, h18, h19, h20, h21, h22, h23, h24, h25, h26, h27, h28, h29, h30, h31⟩ := alu7_8
  generalize b.toNat % 32 = n at *
  rcases (show n = 0 ∨ n = 1 ∨ n = 2 ∨ n = 3 ∨ n = 4 ∨ n = 5 ∨ n = 6 ∨ n = 7 ∨ n = 8 ∨ n = 9 ∨ n = 10 ∨ n = 11 ∨ n = 12 ∨ n = 13 ∨ n = 14 ∨ n = 15 ∨ n = 16 ∨ n = 17 ∨ n = 18 ∨ n = 19 ∨ n = 20 ∨ n = 21 ∨ n = 22 ∨ n = 23 ∨ n = 24 ∨ n = 25 ∨ n = 26 ∨ n = 27 ∨ n = 28 ∨ n = 29 ∨ n = 30 ∨ n = 31 by omega) with rfl | rfl | rfl | rfl | rfl | rfl | rfl | rfl | rfl | rfl | rfl | rfl | rfl | rfl | rfl | rfl | rfl | rfl | rfl | rfl | rfl | rfl | rfl | rfl | rfl | rfl | rfl | rfl | rfl | rfl | rfl | rfl
  · have h := h0 a b k (hb 0 rfl)
    have e : a <<< 0 = a := by simp
    rw [e]
    exact ⟨_, _, h⟩
  · exact ⟨_, _, h1 a b k (hb 1 rfl)⟩
  · exact ⟨_, _, h2 a b k (hb 2 rfl)⟩
  · exact ⟨_, _, h3 a b k (hb 3 rfl)⟩
  · exact ⟨_, _, h4 a b k (hb 4 rfl)⟩
  · exact ⟨_, _, h5 a b k (hb 5 rfl)⟩
  · exact ⟨_, _, h6 a b k (hb 6 rfl)⟩
  · exact ⟨_, _, h7 a b k (hb 7 rfl)⟩
  · exact ⟨_, _, h8 a b k (hb 8 rfl)⟩
  · exact ⟨_, _, h9 a b k (hb 9 rfl)⟩
  · exact ⟨_, _, h10 a b k (hb 10 rfl)⟩
  · exact ⟨_, _, h11 a b k (hb 11 rfl)⟩
  · exact ⟨_, _, h12 a b k (hb 12 rfl)⟩
  · exact ⟨_, _, h13 a b k (hb 13 rfl)⟩
  · exact ⟨_, _, h14 a b k (hb 14 rfl)⟩
  · exact ⟨_, _, h15 a b k (hb 15 rfl)⟩
  · exact ⟨_, _, h16 a b k (hb 16 rfl)⟩
  · exact ⟨_, _, h17 a b k (hb 17 rfl)⟩
  · exact ⟨_, _, h18 a b k (hb 18 rfl)⟩
  · exact ⟨_, _, h19 a b k (hb 19 rfl)⟩
  · exact ⟨_, _, h20 a b k (hb 20 rfl)⟩
  · exact ⟨_, _, h21 a b k (hb 21 rfl)⟩
  · exact ⟨_, _, h22 a b k (hb 22 rfl)⟩
  · exact ⟨_, _, h23 a b k (hb 23 rfl)⟩
  · exact ⟨_, _, h24 a b k (hb 24 rfl)⟩
  · exact ⟨_, _, h25 a b k (hb 25 rfl)⟩
  · exact ⟨_, _, h26 a b k (hb 26 rfl)⟩
  · exact ⟨_, _, h27 a b k (hb 27 rfl)⟩
  · exact ⟨_, _, h28 a b k (hb 28 rfl)⟩
  · exact ⟨_, _, h29 a b k (hb 29 rfl)⟩
  · exact ⟨_, _, h30 a b k (hb 30 rfl)⟩
  · exact ⟨_, _, h31 a b k (hb 31 rfl)⟩
theorem alu7_9_all (a b : BitVec 32) (k : Int) : ∃ C V, AluC 9 a b k (a >>> (b.toNat % 32)) (Rf.flags (a >>> (b.toNat % 32)) C V) true := by
  have hlt : b.toNat % 32 < 32 := Nat.mod_lt _ (by omega)
  have hb : ∀ n, b.toNat % 32 = n → b % 32#32 = BitVec.ofNat 32 n := by
    intro n hn
    apply BitVec.eq_of_toNat_eq
    rw [BitVec.toNat_umod]
    show b.toNat % 32 = (BitVec.ofNat 32 n).toNat
    rw [BitVec.toNat_ofNat]
    omega
  obtain ⟨h0, h1, h2, h3, h4, h5, h6, h7, h8, h9, h10, h11, h12, h13, h14, h15, h16, h17, h18, h19, h20, h21, h22, h23, h24, h25, h26, h27, h28, h29, h30, h31⟩ := alu7_9
  generalize b.toNat % 32 = n at *
  rcases (show n = 0 ∨ n = 1 ∨ n = 2 ∨ n = 3 ∨ n = 4 ∨ n = 5 ∨ n = 6 ∨ n = 7 ∨ n = 8 ∨ n = 9 ∨ n = 10 ∨ n = 11 ∨ n = 12 ∨ n = 13 ∨ n = 14 ∨ n = 15 ∨ n = 16 ∨ n = 17 ∨ n = 18 ∨ n = 19 ∨ n = 20 ∨ n = 21 ∨ n = 22 ∨ n = 23 ∨ n = 24 ∨ n = 25 ∨ n = 26 ∨ n = 27 ∨ n = 28 ∨ n = 29 ∨ n = 30 ∨ n = 31 by omega) with rfl | rfl | rfl | rfl | rfl | rfl | rfl | rfl | rfl | rfl | rfl | rfl | rfl | rfl | rfl | rfl | rfl | rfl | rfl | rfl | rfl | rfl | rfl | rfl | rfl | rfl | rfl | rfl | rfl | rfl | rfl | rfl
  · have h := h0 a b k (hb 0 rfl)
    have e : a >>> 0 = a := by simp
    rw [e]
    exact ⟨_, _, h⟩
  · exact ⟨_, _, h1 a b k (hb 1 rfl)⟩
  · exact ⟨_, _, h2 a b k (hb 2 rfl)⟩
  · exact ⟨_, _, h3 a b k (hb 3 rfl)⟩
  · exact ⟨_, _, h4 a b k (hb 4 rfl)⟩
  · exact ⟨_, _, h5 a b k (hb 5 rfl)⟩
  · exact ⟨_, _, h6 a b k (hb 6 rfl)⟩
  · exact ⟨_, _, h7 a b k (hb 7 rfl)⟩
  · exact ⟨_, _, h8 a b k (hb 8 rfl)⟩
  · exact ⟨_, _, h9 a b k (hb 9 rfl)⟩
  · exact ⟨_, _, h10 a b k (hb 10 rfl)⟩
  · exact ⟨_, _, h11 a b k (hb 11 rfl)⟩
  · exact ⟨_, _, h12 a b k (hb 12 rfl)⟩
  · exact ⟨_, _, h13 a b k (hb 13 rfl)⟩
  · exact ⟨_, _, h14 a b k (hb 14 rfl)⟩
  · exact ⟨_, _, h15 a b k (hb 15 rfl)⟩
  · exact ⟨_, _, h16 a b k (hb 16 rfl)⟩
  · exact ⟨_, _, h17 a b k (hb 17 rfl)⟩
  · exact ⟨_, _, h18 a b k (hb 18 rfl)⟩
  · exact ⟨_, _, h19 a b k (hb 19 rfl)⟩
  · exact ⟨_, _, h20 a b k (hb 20 rfl)⟩
  · exact ⟨_, _, h21 a b k (hb 21 rfl)⟩
  · exact ⟨_, _, h22 a b k (hb 22 rfl)⟩
  · exact ⟨_, _, h23 a b k (hb 23 rfl)⟩
  · exact ⟨_, _, h24 a b k (hb 24 rfl)⟩
  · exact ⟨_, _, h25 a b k (hb 25 rfl)⟩
  · exact ⟨_, _, h26 a b k (hb 26 rfl)⟩
  · exact ⟨_, _, h27 a b k (hb 27 rfl)⟩
  · exact ⟨_, _, h28 a b k (hb 28 rfl)⟩
  · exact ⟨_, _, h29 a b k (hb 29 rfl)⟩
  · exact ⟨_, _, h30 a b k (hb 30 rfl)⟩
  · exact ⟨_, _, h31 a b k (hb 31 rfl)⟩
theorem alu7_10_all (a b : BitVec 32) (k : Int) : ∃ C V, AluC 10 a b k (a.sshiftRight (b.toNat % 32)) (Rf.flags (a.sshiftRight (b.toNat % 32)) C V) true := by
  have hlt : b.toNat % 32 < 32 := Nat.mod_lt _ (by omega)
  have hb : ∀ n, b.toNat % 32 = n → b % 32#32 = BitVec.ofNat 32 n := by
    intro n hn
    apply BitVec.eq_of_toNat_eq
    rw [BitVec.toNat_umod]
    show b.toNat % 32 = (BitVec.ofNat 32 n).toNat
    rw [BitVec.toNat_ofNat]
    omega
  obtain ⟨h0, h1, h2, h3, h4, h5, h6, h7, h8, h9, h10, h11, h12, h13, h14, h15, h16, h17, h18, h19, h20, h21, h22, h23, h24, h25, h26, h27, h28, h29, h30, h31⟩ := alu7_10
  generalize b.toNat % 32 = n at *
  rcases (show n = 0 ∨ n = 1 ∨ n = 2 ∨ n = 3 ∨ n = 4 ∨ n = 5 ∨ n = 6 ∨ n = 7 ∨ n = 8 ∨ n = 9 ∨ n = 10 ∨ n = 11 ∨ n = 12 ∨ n = 13 ∨ n = 14 ∨ n = 15 ∨ n = 16 ∨ n = 17 ∨ n = 18 ∨ n = 19 ∨ n = 20 ∨ n = 21 ∨ n = 22 ∨ n = 23 ∨ n = 24 ∨ n = 25 ∨ n = 26 ∨ n = 27 ∨ n = 28 ∨ n = 29 ∨ n = 30 ∨ n = 31 by omega) with rfl | rfl | rfl | rfl | rfl | rfl | rfl | rfl | rfl | rfl | rfl | rfl | rfl | rfl | rfl | rfl | rfl | rfl | rfl | rfl | rfl | rfl | rfl | rfl | rfl | rfl | rfl | rfl | rfl | rfl | rfl | rfl
  · have h := h0 a b k (hb 0 rfl)
    have e : a.sshiftRight 0 = a := by simp
    rw [e]
    exact ⟨_, _, h⟩
  · exact ⟨_, _, h1 a b k (hb 1 rfl)⟩
  · exact ⟨_, _, h2 a b k (hb 2 rfl)⟩
  · exact ⟨_, _, h3 a b k (hb 3 rfl)⟩
  · exact ⟨_, _, h4 a b k (hb 4 rfl)⟩
  · exact ⟨_, _, h5 a b k (hb 5 rfl)⟩
  · exact ⟨_, _, h6 a b k (hb 6 rfl)⟩
  · exact ⟨_, _, h7 a b k (hb 7 rfl)⟩
  · exact ⟨_, _, h8 a b k (hb 8 rfl)⟩
  · exact ⟨_, _, h9 a b k (hb 9 rfl)⟩
  · exact ⟨_, _, h10 a b k (hb 10 rfl)⟩
  · exact ⟨_, _, h11 a b k (hb 11 rfl)⟩
  · exact ⟨_, _, h12 a b k (hb 12 rfl)⟩
  · exact ⟨_, _, h13 a b k (hb 13 rfl)⟩
  · exact ⟨_, _, h14 a b k (hb 14 rfl)⟩
  · exact ⟨_, _, h15 a b k (hb 15 rfl)⟩
  · exact ⟨_, _, h16 a b k (hb 16 rfl)⟩
  · exact ⟨_, _, h17 a b k (hb 17 rfl)⟩
  · exact ⟨_, _, h18 a b k (hb 18 rfl)⟩
  · exact ⟨_, _, h19 a b k (hb 19 rfl)⟩
  · exact ⟨_, _, h20 a b k (hb 20 rfl)⟩
  · exact ⟨_, _, h21 a b k (hb 21 rfl)⟩
  · exact ⟨_, _, h22 a b k (hb 22 rfl)⟩
  · exact ⟨_, _, h23 a b k (hb 23 rfl)⟩
  · exact ⟨_, _, h24 a b k (hb 24 rfl)⟩
  · exact ⟨_, _, h25 a b k (hb 25 rfl)⟩
  · exact ⟨_, _, h26 a b k (hb 26 rfl)⟩
  · exact ⟨_, _, h27 a b k (hb 27 rfl)⟩
  · exact ⟨_, _, h28 a b k (hb 28 rfl)⟩
  · exact ⟨_, _, h29 a b k (hb 29 rfl)⟩
  · exact ⟨_, _, h30 a b k (hb 30 rfl)⟩
  · exact ⟨_, _, h31 a b k (hb 31 rfl)⟩
theorem wrap_small {x : Int} (h0 : 0 ≤ x) (h1 : x < 4294967296) : wrap64 x = x := by unfold wrap64; omega
theorem carry_cases (d : BitVec 32) : wrap64 (U (d &&& 1#32)) = 0 ∨ wrap64 (U (d &&& 1#32)) = 1 := by
  have h : (d &&& 1#32).toNat ≤ 1 := by rw [BitVec.toNat_and, show (1#32).toNat = 1 from rfl]; exact Nat.and_le_right
  rw [wrap_small (U_nonneg _) (U_lt _)]
  unfold U
  omega
theorem flags12_all (op d1 d2 d3 : BitVec 32) : ∃ f, 0 ≤ f ∧ f ≤ 15 ∧ FlagsC op d1 d2 d3 f := by
  by_cases h0 : U op = 0
  · refine ⟨_, ?_, ?_, flags12_0 op d1 d2 d3 h0⟩
    all_goals
      rw [wrap_small (U_nonneg _) (U_lt _)]
      have h : (d1 &&& 15#32).toNat ≤ 15 := by rw [BitVec.toNat_and, show (15#32).toNat = 15 from rfl]; exact Nat.and_le_right
      unfold U
      omega
  by_cases h1 : U op = 1
  · obtain ⟨C, V, H⟩ := alu7_3 d1 d2 (wrap64 (U (d3 &&& 1#32)))
    exact ⟨_, (flags_range _ _ _).1, (flags_range _ _ _).2, flags12_1 op d1 d2 d3 _ _ _ h1 (Lib.hid H)⟩
  by_cases h2 : U op = 2
  · obtain ⟨C, V, H⟩ := alu7_4 d1 d2 (wrap64 (U (d3 &&& 1#32)))
    exact ⟨_, (flags_range _ _ _).1, (flags_range _ _ _).2, flags12_2 op d1 d2 d3 _ _ _ h2 (Lib.hid H)⟩
  by_cases h3 : U op = 3
  · obtain ⟨C, V, H⟩ := alu7_6 d1 d1 (wrap64 (U (d3 &&& 1#32)))
    exact ⟨_, (flags_range _ _ _).1, (flags_range _ _ _).2, flags12_3 op d1 d2 d3 _ _ _ h3 (Lib.hid H)⟩
  by_cases h4 : U op = 4
  · obtain ⟨C, V, H⟩ := alu7_8_all d1 d2 (wrap64 (U (d3 &&& 1#32)))
    exact ⟨_, (flags_range _ _ _).1, (flags_range _ _ _).2, flags12_4 op d1 d2 d3 _ _ _ h4 (Lib.hid H)⟩
  by_cases h5 : U op = 5
  · obtain ⟨C, V, H⟩ := alu7_9_all d1 d2 (wrap64 (U (d3 &&& 1#32)))
    exact ⟨_, (flags_range _ _ _).1, (flags_range _ _ _).2, flags12_5 op d1 d2 d3 _ _ _ h5 (Lib.hid H)⟩
  by_cases h6 : U op = 6
  · obtain ⟨C, V, H⟩ := alu7_10_all d1 d2 (wrap64 (U (d3 &&& 1#32)))
    exact ⟨_, (flags_range _ _ _).1, (flags_range _ _ _).2, flags12_6 op d1 d2 d3 _ _ _ h6 (Lib.hid H)⟩
  by_cases h7 : U op = 7
  · rcases carry_cases d3 with hc | hc
    · obtain ⟨C, V, H⟩ := alu7_16_0 d1 d2
      rw [← hc] at H
      exact ⟨_, (flags_range _ _ _).1, (flags_range _ _ _).2, flags12_7 op d1 d2 d3 _ _ _ h7 (Lib.hid H)⟩
    · obtain ⟨C, V, H⟩ := alu7_16_1 d1 d2
      rw [← hc] at H
      exact ⟨_, (flags_range _ _ _).1, (flags_range _ _ _).2, flags12_7 op d1 d2 d3 _ _ _ h7 (Lib.hid H)⟩
  by_cases h8 : U op = 8
  · rcases carry_cases d3 with hc | hc
    · obtain ⟨C, V, H⟩ := alu7_17_0 d1 d2
      rw [← hc] at H
      exact ⟨_, (flags_range _ _ _).1, (flags_range _ _ _).2, flags12_8 op d1 d2 d3 _ _ _ h8 (Lib.hid H)⟩
    · obtain ⟨C, V, H⟩ := alu7_17_1 d1 d2
      rw [← hc] at H
      exact ⟨_, (flags_range _ _ _).1, (flags_range _ _ _).2, flags12_8 op d1 d2 d3 _ _ _ h8 (Lib.hid H)⟩
  · refine ⟨0, by omega, by omega, flags12_n op d1 d2 d3 (decide_eq_false ?_) (decide_eq_false ?_) (decide_eq_false ?_) (decide_eq_false ?_) (decide_eq_false ?_) (decide_eq_false ?_) (decide_eq_false ?_) (decide_eq_false ?_) (decide_eq_false ?_)⟩
    · rintro rfl; exact h0 rfl
    · rintro rfl; exact h1 rfl
    · rintro rfl; exact h2 rfl
    · rintro rfl; exact h3 rfl
    · rintro rfl; exact h4 rfl
    · rintro rfl; exact h5 rfl
    · rintro rfl; exact h6 rfl
    · rintro rfl; exact h7 rfl
    · rintro rfl; exact h8 rfl
set_option maxRecDepth 100000 in
set_option maxHeartbeats 4000000 in
theorem call12_4 (p0 p1 p2 p3 : BitVec 32) (b off cap : Nat) (f : Int) (HF : Hid (FlagsC p0 p1 p2 p3 f)) (w : World) (c0 : w.cell? ⟨b, off, none⟩ = some (uv p0)) (c1 : w.cell? ⟨b, off + 1, none⟩ = some (uv p1)) (c2 : w.cell? ⟨b, off + 2, none⟩ = some (uv p2)) (c3 : w.cell? ⟨b, off + 3, none⟩ = some (uv p3)) (hb0 : b < w.heap.size) :
    Calls Tryz.prog 39 #[iv (1 : Int), .slice (some ⟨b, off, none⟩) 4 cap] w fun e w' => e = .returned (.tuple #[uv (BitVec.ofInt 32 f), .bool true]) ∧ Below w.heap.size w w' := by
  go_enter Tryz.func39, Tryz.ntmps39
  go_wp2_with fail
  refine Flow.wp_region_below 13 (by kernel_rfl) (by kernel_rfl) (fun R hRc hRt => ?_)
  simp only [List.take_succ_cons, List.take_zero, List.drop_succ_cons, List.drop_zero]
  iterate 13
    first
      | refine Flow.flow_skip rfl ?_
      | (apply Flow.flow_step; rfl; (intro w1 hb; have hc := hRc.out w1 hb; go_simp; (first | with_reducible exact ⟨rfl, hb⟩ | (go_at_call 77; refine (HF.out _ ).mono ?_; rintro e w2 ⟨rfl, hb2⟩; exact ⟨_, rfl, rfl, hRt.out _ _ hb hb2⟩))))
    simp only [Act.put, List.setIfInBounds_toArray, List.set_cons_zero, List.set_cons_succ]
  apply Flow.flow_nil
  clear hRc hRt
  intro w1 hb
  obtain ⟨hc, hf⟩ := Flow.bcell hb
  have hz := hb.size
  (try simp only [World.size_alloc, World.size_setCell, World.size_drew] at hz)
  go_wp2_with fail
  go_ret2
  refine ⟨?_, by (repeat (first | exact Below.refl _ _ | refine Below.setCell ?_ (by first | omega | (simp <;> omega)) _ | refine Below.alloc ?_ (by first | omega | (simp <;> omega)) _ | refine Below.drew ?_ | refine Below.trans ?_ (Below.mono (by assumption) (by first | omega | (simp <;> omega)))))⟩
  rw [show uv (BitVec.ofInt 32 f) = Value.int .u32 (f % 4294967296) from by unfold uv; rw [U_ofInt]]
  rfl
set_option maxRecDepth 100000 in
set_option maxHeartbeats 4000000 in
theorem call12_5n (p0 p1 p2 p3 p4 : BitVec 32) (b off cap : Nat) (hlt : decide (p0 ≤ 15#32) = false) (w : World) (c0 : w.cell? ⟨b, off, none⟩ = some (uv p0)) (hb0 : b < w.heap.size) :
    Calls Tryz.prog 39 #[iv (2 : Int), .slice (some ⟨b, off, none⟩) 5 cap] w fun e w' => e = .returned (.tuple #[uv 0#32, .bool true]) ∧ Below w.heap.size w w' := by
  go_enter Tryz.func39, Tryz.ntmps39
  go_wp2_with fail
  refine Flow.wp_region_below 23 (by kernel_rfl) (by kernel_rfl) (fun R hRc hRt => ?_)
  simp only [List.take_succ_cons, List.take_zero, List.drop_succ_cons, List.drop_zero]
  iterate 23
    first
      | refine Flow.flow_skip rfl ?_
      | (apply Flow.flow_step; rfl; (intro w1 hb; have hc := hRc.out w1 hb; go_simp; (first | with_reducible exact ⟨rfl, hb⟩ | (go_at_call 77; refine (HF.out _ ).mono ?_; rintro e w2 ⟨rfl, hb2⟩; exact ⟨_, rfl, rfl, hRt.out _ _ hb hb2⟩) | (go_at_call 78; refine (HH.out _ ).mono ?_; rintro e w2 ⟨rfl, hb2⟩; exact ⟨_, rfl, rfl, hRt.out _ _ hb hb2⟩))))
      | (apply Flow.flow_guardT rfl rfl rfl; (intro hg w1 hb; have hc := hRc.out w1 hb; go_simp; (first | with_reducible exact ⟨rfl, hb⟩ | (go_at_call 77; refine (HF.out _ ).mono ?_; rintro e w2 ⟨rfl, hb2⟩; exact ⟨_, rfl, rfl, hRt.out _ _ hb hb2⟩) | (go_at_call 78; refine (HH.out _ ).mono ?_; rintro e w2 ⟨rfl, hb2⟩; exact ⟨_, rfl, rfl, hRt.out _ _ hb hb2⟩))))
      | (apply Flow.flow_guardF rfl rfl rfl; (intro hg w1 hb; have hc := hRc.out w1 hb; go_simp; (first | with_reducible exact ⟨rfl, hb⟩ | (go_at_call 77; refine (HF.out _ ).mono ?_; rintro e w2 ⟨rfl, hb2⟩; exact ⟨_, rfl, rfl, hRt.out _ _ hb hb2⟩) | (go_at_call 78; refine (HH.out _ ).mono ?_; rintro e w2 ⟨rfl, hb2⟩; exact ⟨_, rfl, rfl, hRt.out _ _ hb hb2⟩))))
      | (apply Flow.flow_guardT2 rfl rfl rfl; (intro hp hg w1 hb; have hc := hRc.out w1 hb; go_simp; (first | with_reducible exact ⟨rfl, hb⟩ | (go_at_call 77; refine (HF.out _ ).mono ?_; rintro e w2 ⟨rfl, hb2⟩; exact ⟨_, rfl, rfl, hRt.out _ _ hb hb2⟩) | (go_at_call 78; refine (HH.out _ ).mono ?_; rintro e w2 ⟨rfl, hb2⟩; exact ⟨_, rfl, rfl, hRt.out _ _ hb hb2⟩))))
      | (apply Flow.flow_guardF2 rfl rfl rfl; (intro hp hg w1 hb; have hc := hRc.out w1 hb; go_simp; (first | with_reducible exact ⟨rfl, hb⟩ | (go_at_call 77; refine (HF.out _ ).mono ?_; rintro e w2 ⟨rfl, hb2⟩; exact ⟨_, rfl, rfl, hRt.out _ _ hb hb2⟩) | (go_at_call 78; refine (HH.out _ ).mono ?_; rintro e w2 ⟨rfl, hb2⟩; exact ⟨_, rfl, rfl, hRt.out _ _ hb hb2⟩))))
    simp only [Act.put, List.setIfInBounds_toArray, List.set_cons_zero, List.set_cons_succ]
  apply Flow.flow_nil
  clear hRc hRt
  intro w1 hb
  obtain ⟨hc, hf⟩ := Flow.bcell hb
  have hz := hb.size
  (try simp only [World.size_alloc, World.size_setCell, World.size_drew] at hz)
  go_wp2_with fail
  go_ret2
  exact ⟨rfl, by (repeat (first | exact Below.refl _ _ | refine Below.setCell ?_ (by first | omega | (simp <;> omega)) _ | refine Below.alloc ?_ (by first | omega | (simp <;> omega)) _ | refine Below.drew ?_ | refine Below.trans ?_ (Below.mono (by assumption) (by first | omega | (simp <;> omega)))))⟩
set_option maxRecDepth 100000 in
set_option maxHeartbeats 4000000 in
theorem call12_5 (p0 p1 p2 p3 p4 : BitVec 32) (b off cap : Nat) (f : Int) (r : Bool) (hlt : decide (p0 ≤ 15#32) = true) (HF : Hid (FlagsC p1 p2 p3 p4 f)) (HH : Hid (∀ w, Calls Tryz.prog 78 #[iv (IntKind.i64.wrap (U p0)), iv f] w fun e w' => e = .returned (.bool r) ∧ Below w.heap.size w w')) (w : World) (c0 : w.cell? ⟨b, off, none⟩ = some (uv p0)) (c1 : w.cell? ⟨b, off + 1, none⟩ = some (uv p1)) (c2 : w.cell? ⟨b, off + 2, none⟩ = some (uv p2)) (c3 : w.cell? ⟨b, off + 3, none⟩ = some (uv p3)) (c4 : w.cell? ⟨b, off + 4, none⟩ = some (uv p4)) (hb0 : b < w.heap.size) :
    Calls Tryz.prog 39 #[iv (2 : Int), .slice (some ⟨b, off, none⟩) 5 cap] w fun e w' => e = .returned (.tuple #[uv (if r then 1#32 else 0#32), .bool true]) ∧ Below w.heap.size w w' := by
  cases r
  all_goals
    go_enter Tryz.func39, Tryz.ntmps39
    go_wp2_with fail
    refine Flow.wp_region_below 23 (by kernel_rfl) (by kernel_rfl) (fun R hRc hRt => ?_)
    simp only [List.take_succ_cons, List.take_zero, List.drop_succ_cons, List.drop_zero]
    iterate 23
      first
        | refine Flow.flow_skip rfl ?_
        | (apply Flow.flow_step; rfl; (intro w1 hb; have hc := hRc.out w1 hb; go_simp; (first | with_reducible exact ⟨rfl, hb⟩ | (go_at_call 77; refine (HF.out _ ).mono ?_; rintro e w2 ⟨rfl, hb2⟩; exact ⟨_, rfl, rfl, hRt.out _ _ hb hb2⟩) | (go_at_call 78; refine (HH.out _ ).mono ?_; rintro e w2 ⟨rfl, hb2⟩; exact ⟨_, rfl, rfl, hRt.out _ _ hb hb2⟩))))
        | (apply Flow.flow_guardT rfl rfl rfl; (intro hg w1 hb; have hc := hRc.out w1 hb; go_simp; (first | with_reducible exact ⟨rfl, hb⟩ | (go_at_call 77; refine (HF.out _ ).mono ?_; rintro e w2 ⟨rfl, hb2⟩; exact ⟨_, rfl, rfl, hRt.out _ _ hb hb2⟩) | (go_at_call 78; refine (HH.out _ ).mono ?_; rintro e w2 ⟨rfl, hb2⟩; exact ⟨_, rfl, rfl, hRt.out _ _ hb hb2⟩))))
        | (apply Flow.flow_guardF rfl rfl rfl; (intro hg w1 hb; have hc := hRc.out w1 hb; go_simp; (first | with_reducible exact ⟨rfl, hb⟩ | (go_at_call 77; refine (HF.out _ ).mono ?_; rintro e w2 ⟨rfl, hb2⟩; exact ⟨_, rfl, rfl, hRt.out _ _ hb hb2⟩) | (go_at_call 78; refine (HH.out _ ).mono ?_; rintro e w2 ⟨rfl, hb2⟩; exact ⟨_, rfl, rfl, hRt.out _ _ hb hb2⟩))))
        | (apply Flow.flow_guardT2 rfl rfl rfl; (intro hp hg w1 hb; have hc := hRc.out w1 hb; go_simp; (first | with_reducible exact ⟨rfl, hb⟩ | (go_at_call 77; refine (HF.out _ ).mono ?_; rintro e w2 ⟨rfl, hb2⟩; exact ⟨_, rfl, rfl, hRt.out _ _ hb hb2⟩) | (go_at_call 78; refine (HH.out _ ).mono ?_; rintro e w2 ⟨rfl, hb2⟩; exact ⟨_, rfl, rfl, hRt.out _ _ hb hb2⟩))))
        | (apply Flow.flow_guardF2 rfl rfl rfl; (intro hp hg w1 hb; have hc := hRc.out w1 hb; go_simp; (first | with_reducible exact ⟨rfl, hb⟩ | (go_at_call 77; refine (HF.out _ ).mono ?_; rintro e w2 ⟨rfl, hb2⟩; exact ⟨_, rfl, rfl, hRt.out _ _ hb hb2⟩) | (go_at_call 78; refine (HH.out _ ).mono ?_; rintro e w2 ⟨rfl, hb2⟩; exact ⟨_, rfl, rfl, hRt.out _ _ hb hb2⟩))))
      simp only [Act.put, List.setIfInBounds_toArray, List.set_cons_zero, List.set_cons_succ]
    apply Flow.flow_nil
    clear hRc hRt
    intro w1 hb
    obtain ⟨hc, hf⟩ := Flow.bcell hb
    have hz := hb.size
    (try simp only [World.size_alloc, World.size_setCell, World.size_drew] at hz)
    go_wp2_with fail
    go_ret2
    exact ⟨rfl, by (repeat (first | exact Below.refl _ _ | refine Below.setCell ?_ (by first | omega | (simp <;> omega)) _ | refine Below.alloc ?_ (by first | omega | (simp <;> omega)) _ | refine Below.drew ?_ | refine Below.trans ?_ (Below.mono (by assumption) (by first | omega | (simp <;> omega)))))⟩
theorem fits_bits {n m : BitVec 32} (k : Nat) (hm : m.toNat = 2 ^ k - 1) (h : n.toNat < 2 ^ k) : n &&& ~~~m = 0#32 := (bv_low k n m hm).2 h
/-- What the reference's helper answers: it depends on the list alone. -/
theorem call12_all (op : Int) (l : List (BitVec 32)) (h : (op = 1 ∧ l.length = 4) ∨ (op = 2 ∧ l.length = 5)) : ∃ n : BitVec 32, n &&& ~~~(if op = 1 then 15#32 else 1#32) = 0#32 ∧
    ∀ v w, Lists w v l → Calls Tryz.prog 39 #[iv op, v] w fun e w' => e = .returned (.tuple #[uv n, .bool true]) ∧ Below w.heap.size w w' := by
  rcases h with ⟨rfl, hl⟩ | ⟨rfl, hl⟩
  · match l, hl with
    | [p0, p1, p2, p3], _ =>
      obtain ⟨f, h0, h1, HF⟩ := flags12_all p0 p1 p2 p3
      refine ⟨BitVec.ofInt 32 f, ?_, fun v w hv => ?_⟩
      · rw [if_pos rfl]
        refine fits_bits 4 rfl ?_
        rw [BitVec.toNat_ofInt]
        omega
      · rcases hv with ⟨_, _, _, he⟩ | ⟨b, off, cap, rfl, hc⟩
        · cases he
        · have h2 := block_lt_of_cell (hc 0 _ rfl)
          exact call12_4 p0 p1 p2 p3 b off cap f (Lib.hid HF) w (hc 0 _ rfl) (hc 1 _ rfl) (hc 2 _ rfl) (hc 3 _ rfl) h2
  · match l, hl with
    | [p0, p1, p2, p3, p4], _ =>
      by_cases hp : p0 ≤ 15#32
      · obtain ⟨f, h0, h1, HF⟩ := flags12_all p1 p2 p3 p4
        have hle : p0.toNat ≤ 15 := hp
        have hw : IntKind.i64.wrap (U p0) = (p0.toNat : Int) := by
          have e : U p0 = (p0.toNat : Int) := rfl
          rw [e, IntKind.wrap_i64]
          omega
        have HH := holds_all p0.toNat hle f
        generalize hr : Rf.cond p0.toNat (bits .and .i64 f 1 != 0) (bits .and .i64 f 2 != 0) (bits .and .i64 f 4 != 0) (bits .and .i64 f 8 != 0) = r
        have HH' : ∀ w, Calls Tryz.prog 78 #[iv (IntKind.i64.wrap (U p0)), iv f] w fun e w' => e = .returned (.bool r) ∧ Below w.heap.size w w' := by
          intro w
          rw [hw, ← hr]
          exact HH w
        refine ⟨if r then 1#32 else 0#32, ?_, fun v w hv => ?_⟩
        · rw [if_neg (show ¬ (2 : Int) = 1 by decide)]
          cases r <;> decide
        · rcases hv with ⟨_, _, _, he⟩ | ⟨b, off, cap, rfl, hc⟩
          · cases he
          · have h2 := block_lt_of_cell (hc 0 _ rfl)
            exact call12_5 p0 p1 p2 p3 p4 b off cap f r (decide_eq_true hp) (Lib.hid HF) (Lib.hid HH') w (hc 0 _ rfl) (hc 1 _ rfl) (hc 2 _ rfl) (hc 3 _ rfl) (hc 4 _ rfl) h2
      · refine ⟨0#32, by simp, fun v w hv => ?_⟩
        rcases hv with ⟨_, _, _, he⟩ | ⟨b, off, cap, rfl, hc⟩
        · cases he
        · have h2 := block_lt_of_cell (hc 0 _ rfl)
          exact call12_5n p0 p1 p2 p3 p4 b off cap (decide_eq_false hp) w (hc 0 _ rfl) h2
end Go.Proofs.YtboknfppecgjmaaGreat
