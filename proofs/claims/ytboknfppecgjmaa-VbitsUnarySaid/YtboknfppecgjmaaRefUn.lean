/- The reference's unary operations, walked. -/
import Derived.Test.YtboknfppecgjmaaRefLaneB
import Derived.Test.YtboknfppecgjmaaExpr
namespace Go.Proofs.Ytboknfppecgjmaa
set_option linter.unusedVariables false
set_option linter.unusedSimpArgs false
open Go.RowKit Go.Shelf
def Rf.maskTo (x : V) : Nat → BitVec 32
  | 0 => 0#32
  | n + 1 => Rf.maskTo x n ||| ((Rf.lane x 8 n >>> 7) <<< n)
def Rf.signed (x : BitVec 32) (n : Nat) : BitVec 32 := if (x >>> (n - 1)) &&& 1#32 = 1#32 then x ||| (4294967295#32 <<< n) else x
set_option maxRecDepth 100000 in
set_option maxHeartbeats 4000000 in
theorem rmask_c (x : V) (w : World) : Calls Try.prog 61 #[vv x] w fun e w' => e = .returned (uv (Rf.maskTo x 16)) ∧ Below w.heap.size w w' := by
  have X0 := heap_alloc_new w (vcell x)
  have B0 : Below w.heap.size w (w.alloc (vcell x)) := by (repeat (first | exact Below.refl _ _ | refine Below.setCell ?_ (by first | omega | (simp <;> omega)) _ | refine Below.alloc ?_ (by first | omega | (simp <;> omega)) _ | refine Below.drew ?_ | refine Below.trans ?_ (Below.mono (by assumption) (by first | omega | (simp <;> omega)))))
  have Z0 : (w.alloc (vcell x)).heap.size = w.heap.size + 1 := by simp
  go_enter Try.func61, Try.ntmps61
  go_wp2_with fail
  generalize hu : World.alloc _ _ = u
  have X : u.heap[w.heap.size]? = some (vcell x) := by rw [← hu]; exact X0
  have B : Below w.heap.size w u := by rw [← hu]; exact B0
  have Z : w.heap.size + 1 ≤ u.heap.size := by rw [← hu]; exact Nat.le_of_eq Z0.symm
  clear hu X0 B0 Z0
  go_loopg [3, 4] 16 (fun k m p wr => ∃ i : Nat, i + k = 16 ∧ m = uv (Rf.maskTo x i) ∧ p = .int .i64 (i : Int) ∧ wr.heap[w.heap.size]? = some (vcell x) ∧ Below w.heap.size w wr ∧ w.heap.size + 1 ≤ wr.heap.size)
  case atStart => exact ⟨0, by omega, rfl, rfl, X, B, Z⟩
  case round =>
    clear X B Z
    obtain ⟨i, hik, rfl, rfl, X, B, Z⟩ := hrel
    by_cases hlt : i < 16
    · obtain ⟨xc, xf, xl⟩ := block_cells X
      have hm : min i 32 = i := by omega
      go_wp2_with fail
      (refine (lane8_c x i hlt _ ).mono ?_; rintro e u2 ⟨rfl, hb⟩; obtain ⟨hc, hf⟩ := Flow.bcell hb; have hz := hb.size; (try simp only [World.size_alloc, World.size_setCell, World.size_drew] at hz); obtain z0 := Flow.zs1 (show w.heap.size + 1 ≤ u2.heap.size by omega))
      have X2 := (hb.block _ (by omega)).trans X
      have B2 : Below w.heap.size w u2 := B.trans (hb.mono (by omega))
      have zz2 : w.heap.size + 1 ≤ u2.heap.size := by omega
      clear hb hc hf
      go_wp2_with fail
      go_roundg (gk - 1)
      case measure => omega
      case rel => exact ⟨i + 1, by omega, rfl, by simp, X2, B2, zz2⟩
    · have hin : i = 16 := by omega
      subst hin
      go_wp2_with fail
      go_ret
      exact ⟨rfl, B⟩
set_option maxHeartbeats 400000 in
theorem signed1_c (x : BitVec 32) (w : World) : Calls Try.prog 55 #[uv x, iv (1 : Int)] w fun e w' => e = .returned (uv (Rf.signed x 1)) ∧ Below w.heap.size w w' := by
  go_enter Try.func55, Try.ntmps55
  go_wp2_with fail
  all_goals go_ret
  all_goals (refine ⟨?_, by (repeat (first | exact Below.refl _ _ | refine Below.setCell ?_ (by first | omega | (simp <;> omega)) _ | refine Below.alloc ?_ (by first | omega | (simp <;> omega)) _ | refine Below.drew ?_ | refine Below.trans ?_ (Below.mono (by assumption) (by first | omega | (simp <;> omega)))))⟩)
  all_goals (apply ret_uv; simp_all [Rf.signed])
set_option maxHeartbeats 400000 in
theorem signed8_c (x : BitVec 32) (w : World) : Calls Try.prog 55 #[uv x, iv (8 : Int)] w fun e w' => e = .returned (uv (Rf.signed x 8)) ∧ Below w.heap.size w w' := by
  go_enter Try.func55, Try.ntmps55
  go_wp2_with fail
  all_goals go_ret
  all_goals (refine ⟨?_, by (repeat (first | exact Below.refl _ _ | refine Below.setCell ?_ (by first | omega | (simp <;> omega)) _ | refine Below.alloc ?_ (by first | omega | (simp <;> omega)) _ | refine Below.drew ?_ | refine Below.trans ?_ (Below.mono (by assumption) (by first | omega | (simp <;> omega)))))⟩)
  all_goals (apply ret_uv; simp_all [Rf.signed])
set_option maxHeartbeats 400000 in
theorem signed16_c (x : BitVec 32) (w : World) : Calls Try.prog 55 #[uv x, iv (16 : Int)] w fun e w' => e = .returned (uv (Rf.signed x 16)) ∧ Below w.heap.size w w' := by
  go_enter Try.func55, Try.ntmps55
  go_wp2_with fail
  all_goals go_ret
  all_goals (refine ⟨?_, by (repeat (first | exact Below.refl _ _ | refine Below.setCell ?_ (by first | omega | (simp <;> omega)) _ | refine Below.alloc ?_ (by first | omega | (simp <;> omega)) _ | refine Below.drew ?_ | refine Below.trans ?_ (Below.mono (by assumption) (by first | omega | (simp <;> omega)))))⟩)
  all_goals (apply ret_uv; simp_all [Rf.signed])
set_option maxHeartbeats 400000 in
theorem bits_c (n : Int) (w : World) : Calls Try.prog 56 #[iv n] w fun e w' => e = .returned (iv n) ∧ Below w.heap.size w w' := by
  go_enter Try.func56, Try.ntmps56
  go_wp2
  go_ret
  exact ⟨rfl, by (repeat (first | exact Below.refl _ _ | refine Below.setCell ?_ (by first | omega | (simp <;> omega)) _ | refine Below.alloc ?_ (by first | omega | (simp <;> omega)) _ | refine Below.drew ?_ | refine Below.trans ?_ (Below.mono (by assumption) (by first | omega | (simp <;> omega)))))⟩
set_option maxHeartbeats 400000 in
theorem bit_c (b : Bool) (w : World) : Calls Try.prog 57 #[.bool b] w fun e w' => e = .returned (uv (if b = true then 1#32 else 0#32)) ∧ Below w.heap.size w w' := by
  cases b
  · go_enter Try.func57, Try.ntmps57
    go_wp2
    go_ret
    exact ⟨rfl, by (repeat (first | exact Below.refl _ _ | refine Below.setCell ?_ (by first | omega | (simp <;> omega)) _ | refine Below.alloc ?_ (by first | omega | (simp <;> omega)) _ | refine Below.drew ?_ | refine Below.trans ?_ (Below.mono (by assumption) (by first | omega | (simp <;> omega)))))⟩
  · go_enter Try.func57, Try.ntmps57
    go_wp2
    go_ret
    exact ⟨rfl, by (repeat (first | exact Below.refl _ _ | refine Below.setCell ?_ (by first | omega | (simp <;> omega)) _ | refine Below.alloc ?_ (by first | omega | (simp <;> omega)) _ | refine Below.drew ?_ | refine Below.trans ?_ (Below.mono (by assumption) (by first | omega | (simp <;> omega)))))⟩
set_option maxHeartbeats 400000 in
theorem rleft_c (z : BitVec 32) (w : World) : Calls Try.prog 59 #[uv z] w fun e w' => e = .returned (uv (Vb.left z)) ∧ Below w.heap.size w w' := by
  go_enter Try.func59, Try.ntmps59
  go_wp2
  go_ret
  exact ⟨rfl, by (repeat (first | exact Below.refl _ _ | refine Below.setCell ?_ (by first | omega | (simp <;> omega)) _ | refine Below.alloc ?_ (by first | omega | (simp <;> omega)) _ | refine Below.drew ?_ | refine Below.trans ?_ (Below.mono (by assumption) (by first | omega | (simp <;> omega)))))⟩
set_option maxRecDepth 100000 in
set_option maxHeartbeats 4000000 in
theorem validUn_c (op p to off : Int) (b o cap B O C : Nat) (w : World) (c0 : w.cell? ⟨b, o, none⟩ = some (iv p))
    (a0 : w.cell? ⟨B, O, none⟩ = some (iv 0)) (a1 : w.cell? ⟨B, O + 1, none⟩ = some (iv 0)) (a2 : w.cell? ⟨B, O + 2, none⟩ = some (uv 0#32)) (a3 : w.cell? ⟨B, O + 3, none⟩ = some (uv 0#32)) (a4 : w.cell? ⟨B, O + 4, none⟩ = some (uv 0#32)) (a5 : w.cell? ⟨B, O + 5, none⟩ = some (uv 0#32)) :
    Calls Try.prog 54 #[.slice (some ⟨b, o, none⟩) 1 cap, .agg #[iv 3, iv to, iv op, iv off, .slice (some ⟨B, O, none⟩) 1 C]] w fun e w' => e = .returned (.bool (Rf.exUn op p to off != 0)) ∧ Below w.heap.size w w' := by
  have l0 := block_lt_of_cell c0
  have l1 := block_lt_of_cell a0
  simp only [] at l0 l1
  have m0 : b < w.heap.size + 1 := by omega
  have m1 : B < w.heap.size + 1 := by omega
  go_enter Try.func54, Try.ntmps54
  go_wp2_with fail
  (refine (exun_c op p to off b o cap B O C _ (by go_simp) (by go_simp) (by go_simp) (by go_simp) (by go_simp) (by go_simp) (by go_simp) ).mono ?_; rintro e u1 ⟨rfl, hb⟩; obtain ⟨hc, hf⟩ := Flow.bcell hb; have hz := hb.size; (try simp only [World.size_alloc, World.size_setCell, World.size_drew] at hz); obtain z0 := Flow.zs1 (show w.heap.size + 1 ≤ u1.heap.size by omega))
  go_wp2_with fail
  go_ret
  exact ⟨rfl, by (repeat (first | exact Below.refl _ _ | refine Below.setCell ?_ (by first | omega | (simp <;> omega)) _ | refine Below.alloc ?_ (by first | omega | (simp <;> omega)) _ | refine Below.drew ?_ | refine Below.trans ?_ (Below.mono (by assumption) (by first | omega | (simp <;> omega)))))⟩
theorem ret_un {x : V} {n : Int} {p : V × Int} (h : p = (x, n)) : Ending.returned (.tuple #[vv x, iv n]) = .returned (.tuple #[vv p.1, iv p.2]) := by rw [h]

end Go.Proofs.Ytboknfppecgjmaa
