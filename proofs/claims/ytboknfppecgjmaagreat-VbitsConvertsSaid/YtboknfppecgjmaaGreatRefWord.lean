/- The reference's operations on words, walked: sum, difference, some, low, high, word. -/
import Derived.Test.YtboknfppecgjmaaGreatRefUn
namespace Go.Proofs.YtboknfppecgjmaaGreat
set_option linter.unusedVariables false
set_option linter.unusedSimpArgs false
open Go.RowKit Go.Shelf
def Rf.low (x a : BitVec 32) : BitVec 32 := (x &&& ~~~a) ||| (a &&& 2147483648#32)
def Rf.high (x a : BitVec 32) : BitVec 32 := (x ||| a) &&& ~~~(a &&& 2147483648#32)
set_option maxHeartbeats 400000 in
theorem rsome_c (z : BitVec 32) (w : World) : Calls Tryz.prog 121 #[uv z] w fun e w' => e = .returned (uv (Vb.some z)) ∧ Below w.heap.size w w' := by
  by_cases h : z = 0#32
  all_goals
    go_enter Tryz.func121, Tryz.ntmps121
    go_wp2
    all_goals go_ret
    exact ⟨ret_lit (by simp [Vb.some, h, U_ofNat]), by (repeat (first | exact Below.refl _ _ | refine Below.setCell ?_ (by first | omega | (simp <;> omega)) _ | refine Below.alloc ?_ (by first | omega | (simp <;> omega)) _ | refine Below.drew ?_ | refine Below.trans ?_ (Below.mono (by assumption) (by first | omega | (simp <;> omega)))))⟩
def Rf.bitOf (b : Bool) : BitVec 32 := if b = true then 1#32 else 0#32
theorem bitOf_c (b : Bool) (w : World) : Calls Tryz.prog 60 #[.bool b] w fun e w' => e = .returned (uv (Rf.bitOf b)) ∧ Below w.heap.size w w' := bit_c b w
set_option maxHeartbeats 400000 in
theorem rlow_c (x a : BitVec 32) (w : World) : Calls Tryz.prog 124 #[uv x, uv a] w fun e w' => e = .returned (uv (Rf.low x a)) ∧ Below w.heap.size w w' := by
  go_enter Tryz.func124, Tryz.ntmps124
  go_wp2
  go_ret
  exact ⟨rfl, by (repeat (first | exact Below.refl _ _ | refine Below.setCell ?_ (by first | omega | (simp <;> omega)) _ | refine Below.alloc ?_ (by first | omega | (simp <;> omega)) _ | refine Below.drew ?_ | refine Below.trans ?_ (Below.mono (by assumption) (by first | omega | (simp <;> omega)))))⟩
set_option maxHeartbeats 400000 in
theorem rhigh_c (x a : BitVec 32) (w : World) : Calls Tryz.prog 125 #[uv x, uv a] w fun e w' => e = .returned (uv (Rf.high x a)) ∧ Below w.heap.size w w' := by
  go_enter Tryz.func125, Tryz.ntmps125
  go_wp2
  go_ret
  exact ⟨rfl, by (repeat (first | exact Below.refl _ _ | refine Below.setCell ?_ (by first | omega | (simp <;> omega)) _ | refine Below.alloc ?_ (by first | omega | (simp <;> omega)) _ | refine Below.drew ?_ | refine Below.trans ?_ (Below.mono (by assumption) (by first | omega | (simp <;> omega)))))⟩
set_option maxHeartbeats 400000 in
theorem rsum_c (x a y b : BitVec 32) (w : World) : Calls Tryz.prog 118 #[uv x, uv a, uv y, uv b] w fun e w' => e = .returned (uv (Vb.added x a y b)) ∧ Below w.heap.size w w' := by
  go_enter Tryz.func118, Tryz.ntmps118
  go_wp2_with (first | (go_at_call 122; refine (rleast_c _ _ _).mono ?_; rintro e w1 ⟨rfl, rfl⟩) | (go_at_call 123; refine (rgreatest_c _ _ _).mono ?_; rintro e w1 ⟨rfl, rfl⟩))
  go_ret
  exact ⟨rfl, by (repeat (first | exact Below.refl _ _ | refine Below.setCell ?_ (by first | omega | (simp <;> omega)) _ | refine Below.alloc ?_ (by first | omega | (simp <;> omega)) _ | refine Below.drew ?_ | refine Below.trans ?_ (Below.mono (by assumption) (by first | omega | (simp <;> omega)))))⟩
set_option maxHeartbeats 400000 in
theorem rdiff_c (x a y b : BitVec 32) (w : World) : Calls Tryz.prog 119 #[uv x, uv a, uv y, uv b] w fun e w' => e = .returned (uv (Vb.subtracted x a y b)) ∧ Below w.heap.size w w' := by
  go_enter Tryz.func119, Tryz.ntmps119
  go_wp2_with (first | (go_at_call 122; refine (rleast_c _ _ _).mono ?_; rintro e w1 ⟨rfl, rfl⟩) | (go_at_call 123; refine (rgreatest_c _ _ _).mono ?_; rintro e w1 ⟨rfl, rfl⟩))
  go_ret
  exact ⟨rfl, by (repeat (first | exact Below.refl _ _ | refine Below.setCell ?_ (by first | omega | (simp <;> omega)) _ | refine Below.alloc ?_ (by first | omega | (simp <;> omega)) _ | refine Below.drew ?_ | refine Below.trans ?_ (Below.mono (by assumption) (by first | omega | (simp <;> omega)))))⟩
set_option maxRecDepth 100000 in
set_option maxHeartbeats 4000000 in
theorem word1_c (x a y b : BitVec 32) (w : World) : Calls Tryz.prog 64 #[iv (1 : Int), uv x, uv a, uv y, uv b] w fun e w' => e = .returned (uv (Vb.added x a y b)) ∧ Below w.heap.size w w' := by
  go_enter Tryz.func64, Tryz.ntmps64
  go_wp2_with fail
  (refine (rsum_c x a y b _ ).mono ?_; rintro e u0 ⟨rfl, hb⟩; obtain ⟨hc, hf⟩ := Flow.bcell hb; have hz := hb.size; (try simp only [World.size_alloc, World.size_setCell, World.size_drew] at hz))
  go_wp2_with fail
  go_ret
  exact ⟨rfl, by (repeat (first | exact Below.refl _ _ | refine Below.setCell ?_ (by first | omega | (simp <;> omega)) _ | refine Below.alloc ?_ (by first | omega | (simp <;> omega)) _ | refine Below.drew ?_ | refine Below.trans ?_ (Below.mono (by assumption) (by first | omega | (simp <;> omega)))))⟩
set_option maxRecDepth 100000 in
set_option maxHeartbeats 4000000 in
theorem word2_c (x a y b : BitVec 32) (w : World) : Calls Tryz.prog 64 #[iv (2 : Int), uv x, uv a, uv y, uv b] w fun e w' => e = .returned (uv (Vb.subtracted x a y b)) ∧ Below w.heap.size w w' := by
  go_enter Tryz.func64, Tryz.ntmps64
  go_wp2_with fail
  (refine (rdiff_c x a y b _ ).mono ?_; rintro e u0 ⟨rfl, hb⟩; obtain ⟨hc, hf⟩ := Flow.bcell hb; have hz := hb.size; (try simp only [World.size_alloc, World.size_setCell, World.size_drew] at hz))
  go_wp2_with fail
  go_ret
  exact ⟨rfl, by (repeat (first | exact Below.refl _ _ | refine Below.setCell ?_ (by first | omega | (simp <;> omega)) _ | refine Below.alloc ?_ (by first | omega | (simp <;> omega)) _ | refine Below.drew ?_ | refine Below.trans ?_ (Below.mono (by assumption) (by first | omega | (simp <;> omega)))))⟩
set_option maxRecDepth 100000 in
set_option maxHeartbeats 4000000 in
theorem word3_c (x a y b : BitVec 32) (w : World) : Calls Tryz.prog 64 #[iv (3 : Int), uv x, uv a, uv y, uv b] w fun e w' => e = .returned (uv (Vb.left (a ||| b))) ∧ Below w.heap.size w w' := by
  go_enter Tryz.func64, Tryz.ntmps64
  go_wp2_with fail
  (refine (rleft_c _ _).mono ?_; rintro e u0 ⟨rfl, hb⟩; obtain ⟨hc, hf⟩ := Flow.bcell hb; have hz := hb.size; (try simp only [World.size_alloc, World.size_setCell, World.size_drew] at hz))
  go_wp2_with fail
  go_ret
  exact ⟨rfl, by (repeat (first | exact Below.refl _ _ | refine Below.setCell ?_ (by first | omega | (simp <;> omega)) _ | refine Below.alloc ?_ (by first | omega | (simp <;> omega)) _ | refine Below.drew ?_ | refine Below.trans ?_ (Below.mono (by assumption) (by first | omega | (simp <;> omega)))))⟩
set_option maxRecDepth 100000 in
set_option maxHeartbeats 4000000 in
theorem word11_c (x a y b : BitVec 32) (w : World) : Calls Tryz.prog 64 #[iv (11 : Int), uv x, uv a, uv y, uv b] w fun e w' => e = .returned (uv ((a <<< (y &&& 31#32).toNat) ||| Vb.some (b &&& 31#32))) ∧ Below w.heap.size w w' := by
  go_enter Tryz.func64, Tryz.ntmps64
  go_wp2_with fail
  (refine (rsome_c _ _).mono ?_; rintro e u0 ⟨rfl, hb⟩; obtain ⟨hc, hf⟩ := Flow.bcell hb; have hz := hb.size; (try simp only [World.size_alloc, World.size_setCell, World.size_drew] at hz))
  go_wp2_with fail
  go_ret
  exact ⟨rfl, by (repeat (first | exact Below.refl _ _ | refine Below.setCell ?_ (by first | omega | (simp <;> omega)) _ | refine Below.alloc ?_ (by first | omega | (simp <;> omega)) _ | refine Below.drew ?_ | refine Below.trans ?_ (Below.mono (by assumption) (by first | omega | (simp <;> omega)))))⟩
set_option maxRecDepth 100000 in
set_option maxHeartbeats 4000000 in
theorem word12_c (x a y b : BitVec 32) (w : World) : Calls Tryz.prog 64 #[iv (12 : Int), uv x, uv a, uv y, uv b] w fun e w' => e = .returned (uv ((a >>> (y &&& 31#32).toNat) ||| Vb.some (b &&& 31#32))) ∧ Below w.heap.size w w' := by
  go_enter Tryz.func64, Tryz.ntmps64
  go_wp2_with fail
  (refine (rsome_c _ _).mono ?_; rintro e u0 ⟨rfl, hb⟩; obtain ⟨hc, hf⟩ := Flow.bcell hb; have hz := hb.size; (try simp only [World.size_alloc, World.size_setCell, World.size_drew] at hz))
  go_wp2_with fail
  go_ret
  exact ⟨rfl, by (repeat (first | exact Below.refl _ _ | refine Below.setCell ?_ (by first | omega | (simp <;> omega)) _ | refine Below.alloc ?_ (by first | omega | (simp <;> omega)) _ | refine Below.drew ?_ | refine Below.trans ?_ (Below.mono (by assumption) (by first | omega | (simp <;> omega)))))⟩
set_option maxRecDepth 100000 in
set_option maxHeartbeats 4000000 in
theorem word13_c (x a y b : BitVec 32) (w : World) : Calls Tryz.prog 64 #[iv (13 : Int), uv x, uv a, uv y, uv b] w fun e w' => e = .returned (uv ((a.sshiftRight (y &&& 31#32).toNat) ||| Vb.some (b &&& 31#32))) ∧ Below w.heap.size w w' := by
  go_enter Tryz.func64, Tryz.ntmps64
  go_wp2_with fail
  (refine (rsome_c _ _).mono ?_; rintro e u0 ⟨rfl, hb⟩; obtain ⟨hc, hf⟩ := Flow.bcell hb; have hz := hb.size; (try simp only [World.size_alloc, World.size_setCell, World.size_drew] at hz))
  go_wp2_with fail
  go_ret
  exact ⟨rfl, by (repeat (first | exact Below.refl _ _ | refine Below.setCell ?_ (by first | omega | (simp <;> omega)) _ | refine Below.alloc ?_ (by first | omega | (simp <;> omega)) _ | refine Below.drew ?_ | refine Below.trans ?_ (Below.mono (by assumption) (by first | omega | (simp <;> omega)))))⟩
set_option maxRecDepth 100000 in
set_option maxHeartbeats 4000000 in
theorem word16_c (x a y b : BitVec 32) (w : World) : Calls Tryz.prog 64 #[iv (16 : Int), uv x, uv a, uv y, uv b] w fun e w' => e = .returned (uv (Rf.bitOf (decide (Vb.least x a < Vb.greatest y b) != decide (Vb.greatest x a < Vb.least y b)))) ∧ Below w.heap.size w w' := by
  go_enter Tryz.func64, Tryz.ntmps64
  go_wp2_with fail
  (refine (rleast_c _ _ _).mono ?_; rintro e w1 ⟨rfl, rfl⟩)
  go_wp2_with fail
  (refine (rgreatest_c _ _ _).mono ?_; rintro e w1 ⟨rfl, rfl⟩)
  go_wp2_with fail
  (refine (rgreatest_c _ _ _).mono ?_; rintro e w1 ⟨rfl, rfl⟩)
  go_wp2_with fail
  (refine (rleast_c _ _ _).mono ?_; rintro e w1 ⟨rfl, rfl⟩)
  go_wp2_with fail
  (refine (bitOf_c _ _).mono ?_; rintro e u5 ⟨rfl, hb⟩; obtain ⟨hc, hf⟩ := Flow.bcell hb; have hz := hb.size; (try simp only [World.size_alloc, World.size_setCell, World.size_drew] at hz))
  go_wp2_with fail
  go_ret
  exact ⟨rfl, by (repeat (first | exact Below.refl _ _ | refine Below.setCell ?_ (by first | omega | (simp <;> omega)) _ | refine Below.alloc ?_ (by first | omega | (simp <;> omega)) _ | refine Below.drew ?_ | refine Below.trans ?_ (Below.mono (by assumption) (by first | omega | (simp <;> omega)))))⟩
set_option maxRecDepth 100000 in
set_option maxHeartbeats 4000000 in
theorem word18_c (x a y b : BitVec 32) (w : World) : Calls Tryz.prog 64 #[iv (18 : Int), uv x, uv a, uv y, uv b] w fun e w' => e = .returned (uv (Rf.bitOf (decide (Vb.least x a ≤ Vb.greatest y b) != decide (Vb.greatest x a ≤ Vb.least y b)))) ∧ Below w.heap.size w w' := by
  go_enter Tryz.func64, Tryz.ntmps64
  go_wp2_with fail
  (refine (rleast_c _ _ _).mono ?_; rintro e w1 ⟨rfl, rfl⟩)
  go_wp2_with fail
  (refine (rgreatest_c _ _ _).mono ?_; rintro e w1 ⟨rfl, rfl⟩)
  go_wp2_with fail
  (refine (rgreatest_c _ _ _).mono ?_; rintro e w1 ⟨rfl, rfl⟩)
  go_wp2_with fail
  (refine (rleast_c _ _ _).mono ?_; rintro e w1 ⟨rfl, rfl⟩)
  go_wp2_with fail
  (refine (bitOf_c _ _).mono ?_; rintro e u5 ⟨rfl, hb⟩; obtain ⟨hc, hf⟩ := Flow.bcell hb; have hz := hb.size; (try simp only [World.size_alloc, World.size_setCell, World.size_drew] at hz))
  go_wp2_with fail
  go_ret
  exact ⟨rfl, by (repeat (first | exact Below.refl _ _ | refine Below.setCell ?_ (by first | omega | (simp <;> omega)) _ | refine Below.alloc ?_ (by first | omega | (simp <;> omega)) _ | refine Below.drew ?_ | refine Below.trans ?_ (Below.mono (by assumption) (by first | omega | (simp <;> omega)))))⟩
set_option maxRecDepth 100000 in
set_option maxHeartbeats 4000000 in
theorem word17_c (x a y b : BitVec 32) (w : World) : Calls Tryz.prog 64 #[iv (17 : Int), uv x, uv a, uv y, uv b] w fun e w' => e = .returned (uv (Rf.bitOf (decide (S (Rf.low x a) < S (Rf.high y b)) != decide (S (Rf.high x a) < S (Rf.low y b))))) ∧ Below w.heap.size w w' := by
  go_enter Tryz.func64, Tryz.ntmps64
  go_wp2_with fail
  (refine (rlow_c _ _ _).mono ?_; rintro e u1 ⟨rfl, hb⟩; obtain ⟨hc, hf⟩ := Flow.bcell hb; have hz := hb.size; (try simp only [World.size_alloc, World.size_setCell, World.size_drew] at hz))
  go_wp2_with fail
  (refine (rhigh_c _ _ _).mono ?_; rintro e u2 ⟨rfl, hb⟩; obtain ⟨hc, hf⟩ := Flow.bcell hb; have hz := hb.size; (try simp only [World.size_alloc, World.size_setCell, World.size_drew] at hz))
  go_wp2_with fail
  (refine (rhigh_c _ _ _).mono ?_; rintro e u3 ⟨rfl, hb⟩; obtain ⟨hc, hf⟩ := Flow.bcell hb; have hz := hb.size; (try simp only [World.size_alloc, World.size_setCell, World.size_drew] at hz))
  go_wp2_with fail
  (refine (rlow_c _ _ _).mono ?_; rintro e u4 ⟨rfl, hb⟩; obtain ⟨hc, hf⟩ := Flow.bcell hb; have hz := hb.size; (try simp only [World.size_alloc, World.size_setCell, World.size_drew] at hz))
  go_wp2_with fail
  (refine (bitOf_c _ _).mono ?_; rintro e u5 ⟨rfl, hb⟩; obtain ⟨hc, hf⟩ := Flow.bcell hb; have hz := hb.size; (try simp only [World.size_alloc, World.size_setCell, World.size_drew] at hz))
  go_wp2_with fail
  go_ret
  exact ⟨rfl, by (repeat (first | exact Below.refl _ _ | refine Below.setCell ?_ (by first | omega | (simp <;> omega)) _ | refine Below.alloc ?_ (by first | omega | (simp <;> omega)) _ | refine Below.drew ?_ | refine Below.trans ?_ (Below.mono (by assumption) (by first | omega | (simp <;> omega)))))⟩
set_option maxRecDepth 100000 in
set_option maxHeartbeats 4000000 in
theorem word19_c (x a y b : BitVec 32) (w : World) : Calls Tryz.prog 64 #[iv (19 : Int), uv x, uv a, uv y, uv b] w fun e w' => e = .returned (uv (Rf.bitOf (decide (S (Rf.low x a) ≤ S (Rf.high y b)) != decide (S (Rf.high x a) ≤ S (Rf.low y b))))) ∧ Below w.heap.size w w' := by
  go_enter Tryz.func64, Tryz.ntmps64
  go_wp2_with fail
  (refine (rlow_c _ _ _).mono ?_; rintro e u1 ⟨rfl, hb⟩; obtain ⟨hc, hf⟩ := Flow.bcell hb; have hz := hb.size; (try simp only [World.size_alloc, World.size_setCell, World.size_drew] at hz))
  go_wp2_with fail
  (refine (rhigh_c _ _ _).mono ?_; rintro e u2 ⟨rfl, hb⟩; obtain ⟨hc, hf⟩ := Flow.bcell hb; have hz := hb.size; (try simp only [World.size_alloc, World.size_setCell, World.size_drew] at hz))
  go_wp2_with fail
  (refine (rhigh_c _ _ _).mono ?_; rintro e u3 ⟨rfl, hb⟩; obtain ⟨hc, hf⟩ := Flow.bcell hb; have hz := hb.size; (try simp only [World.size_alloc, World.size_setCell, World.size_drew] at hz))
  go_wp2_with fail
  (refine (rlow_c _ _ _).mono ?_; rintro e u4 ⟨rfl, hb⟩; obtain ⟨hc, hf⟩ := Flow.bcell hb; have hz := hb.size; (try simp only [World.size_alloc, World.size_setCell, World.size_drew] at hz))
  go_wp2_with fail
  (refine (bitOf_c _ _).mono ?_; rintro e u5 ⟨rfl, hb⟩; obtain ⟨hc, hf⟩ := Flow.bcell hb; have hz := hb.size; (try simp only [World.size_alloc, World.size_setCell, World.size_drew] at hz))
  go_wp2_with fail
  go_ret
  exact ⟨rfl, by (repeat (first | exact Below.refl _ _ | refine Below.setCell ?_ (by first | omega | (simp <;> omega)) _ | refine Below.alloc ?_ (by first | omega | (simp <;> omega)) _ | refine Below.drew ?_ | refine Below.trans ?_ (Below.mono (by assumption) (by first | omega | (simp <;> omega)))))⟩
set_option maxRecDepth 100000 in
set_option maxHeartbeats 4000000 in
theorem word4_c (x a y b : BitVec 32) (w : World) : Calls Tryz.prog 64 #[iv (4 : Int), uv x, uv a, uv y, uv b] w fun e w' => e = .returned (uv (Vb.some (a ||| b))) ∧ Below w.heap.size w w' := by
  go_enter Tryz.func64, Tryz.ntmps64
  go_wp2_with fail
  (refine (rsome_c _ _).mono ?_; rintro e u0 ⟨rfl, hb⟩; obtain ⟨hc, hf⟩ := Flow.bcell hb; have hz := hb.size; (try simp only [World.size_alloc, World.size_setCell, World.size_drew] at hz))
  go_wp2_with fail
  go_ret
  exact ⟨rfl, by (repeat (first | exact Below.refl _ _ | refine Below.setCell ?_ (by first | omega | (simp <;> omega)) _ | refine Below.alloc ?_ (by first | omega | (simp <;> omega)) _ | refine Below.drew ?_ | refine Below.trans ?_ (Below.mono (by assumption) (by first | omega | (simp <;> omega)))))⟩
set_option maxRecDepth 100000 in
set_option maxHeartbeats 4000000 in
theorem word5_c (x a y b : BitVec 32) (w : World) : Calls Tryz.prog 64 #[iv (5 : Int), uv x, uv a, uv y, uv b] w fun e w' => e = .returned (uv (Vb.some (a ||| b))) ∧ Below w.heap.size w w' := by
  go_enter Tryz.func64, Tryz.ntmps64
  go_wp2_with fail
  (refine (rsome_c _ _).mono ?_; rintro e u0 ⟨rfl, hb⟩; obtain ⟨hc, hf⟩ := Flow.bcell hb; have hz := hb.size; (try simp only [World.size_alloc, World.size_setCell, World.size_drew] at hz))
  go_wp2_with fail
  go_ret
  exact ⟨rfl, by (repeat (first | exact Below.refl _ _ | refine Below.setCell ?_ (by first | omega | (simp <;> omega)) _ | refine Below.alloc ?_ (by first | omega | (simp <;> omega)) _ | refine Below.drew ?_ | refine Below.trans ?_ (Below.mono (by assumption) (by first | omega | (simp <;> omega)))))⟩
set_option maxRecDepth 100000 in
set_option maxHeartbeats 4000000 in
theorem word6_c (x a y b : BitVec 32) (w : World) : Calls Tryz.prog 64 #[iv (6 : Int), uv x, uv a, uv y, uv b] w fun e w' => e = .returned (uv (Vb.some (a ||| b))) ∧ Below w.heap.size w w' := by
  go_enter Tryz.func64, Tryz.ntmps64
  go_wp2_with fail
  (refine (rsome_c _ _).mono ?_; rintro e u0 ⟨rfl, hb⟩; obtain ⟨hc, hf⟩ := Flow.bcell hb; have hz := hb.size; (try simp only [World.size_alloc, World.size_setCell, World.size_drew] at hz))
  go_wp2_with fail
  go_ret
  exact ⟨rfl, by (repeat (first | exact Below.refl _ _ | refine Below.setCell ?_ (by first | omega | (simp <;> omega)) _ | refine Below.alloc ?_ (by first | omega | (simp <;> omega)) _ | refine Below.drew ?_ | refine Below.trans ?_ (Below.mono (by assumption) (by first | omega | (simp <;> omega)))))⟩
set_option maxRecDepth 100000 in
set_option maxHeartbeats 4000000 in
theorem word7_c (x a y b : BitVec 32) (w : World) : Calls Tryz.prog 64 #[iv (7 : Int), uv x, uv a, uv y, uv b] w fun e w' => e = .returned (uv (Vb.some (a ||| b))) ∧ Below w.heap.size w w' := by
  go_enter Tryz.func64, Tryz.ntmps64
  go_wp2_with fail
  (refine (rsome_c _ _).mono ?_; rintro e u0 ⟨rfl, hb⟩; obtain ⟨hc, hf⟩ := Flow.bcell hb; have hz := hb.size; (try simp only [World.size_alloc, World.size_setCell, World.size_drew] at hz))
  go_wp2_with fail
  go_ret
  exact ⟨rfl, by (repeat (first | exact Below.refl _ _ | refine Below.setCell ?_ (by first | omega | (simp <;> omega)) _ | refine Below.alloc ?_ (by first | omega | (simp <;> omega)) _ | refine Below.drew ?_ | refine Below.trans ?_ (Below.mono (by assumption) (by first | omega | (simp <;> omega)))))⟩
end Go.Proofs.YtboknfppecgjmaaGreat
