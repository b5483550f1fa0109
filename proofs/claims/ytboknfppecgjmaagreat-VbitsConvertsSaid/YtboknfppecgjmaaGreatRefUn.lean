/- The reference's unary operations, walked. -/
import Derived.Test.YtboknfppecgjmaaGreatRefLaneB
import Derived.Test.YtboknfppecgjmaaGreatExpr
namespace Go.Proofs.YtboknfppecgjmaaGreat
set_option linter.unusedVariables false
set_option linter.unusedSimpArgs false
open Go.RowKit Go.Shelf
def Rf.maskTo (x : V) : Nat → BitVec 32
  | 0 => 0#32
  | n + 1 => Rf.maskTo x n ||| ((Rf.lane x 8 n >>> 7) <<< n)
def Rf.signed (x : BitVec 32) (n : Nat) : BitVec 32 := if (x >>> (n - 1)) &&& 1#32 = 1#32 then x ||| (4294967295#32 <<< n) else x
set_option maxHeartbeats 400000 in
theorem bit_c (b : Bool) (w : World) : Calls Tryz.prog 60 #[.bool b] w fun e w' => e = .returned (uv (if b = true then 1#32 else 0#32)) ∧ Below w.heap.size w w' := by
  cases b
  · go_enter Tryz.func60, Tryz.ntmps60
    go_wp2
    go_ret
    exact ⟨rfl, by (repeat (first | exact Below.refl _ _ | refine Below.setCell ?_ (by first | omega | (simp <;> omega)) _ | refine Below.alloc ?_ (by first | omega | (simp <;> omega)) _ | refine Below.drew ?_ | refine Below.trans ?_ (Below.mono (by assumption) (by first | omega | (simp <;> omega)))))⟩
  · go_enter Tryz.func60, Tryz.ntmps60
    go_wp2
    go_ret
    exact ⟨rfl, by (repeat (first | exact Below.refl _ _ | refine Below.setCell ?_ (by first | omega | (simp <;> omega)) _ | refine Below.alloc ?_ (by first | omega | (simp <;> omega)) _ | refine Below.drew ?_ | refine Below.trans ?_ (Below.mono (by assumption) (by first | omega | (simp <;> omega)))))⟩
set_option maxHeartbeats 400000 in
theorem rleft_c (z : BitVec 32) (w : World) : Calls Tryz.prog 120 #[uv z] w fun e w' => e = .returned (uv (Vb.left z)) ∧ Below w.heap.size w w' := by
  go_enter Tryz.func120, Tryz.ntmps120
  go_wp2
  go_ret
  exact ⟨rfl, by (repeat (first | exact Below.refl _ _ | refine Below.setCell ?_ (by first | omega | (simp <;> omega)) _ | refine Below.alloc ?_ (by first | omega | (simp <;> omega)) _ | refine Below.drew ?_ | refine Below.trans ?_ (Below.mono (by assumption) (by first | omega | (simp <;> omega)))))⟩
set_option maxRecDepth 100000 in
set_option maxHeartbeats 4000000 in
theorem validUn_c (op p to off : Int) (b o cap B O C : Nat) (w : World) (c0 : w.cell? ⟨b, o, none⟩ = some (iv p))
    (a0 : w.cell? ⟨B, O, none⟩ = some (iv 0)) (a1 : w.cell? ⟨B, O + 1, none⟩ = some (iv 0)) (a2 : w.cell? ⟨B, O + 2, none⟩ = some (uv 0#32)) (a3 : w.cell? ⟨B, O + 3, none⟩ = some (uv 0#32)) (a4 : w.cell? ⟨B, O + 4, none⟩ = some (uv 0#32)) (a5 : w.cell? ⟨B, O + 5, none⟩ = some (uv 0#32)) :
    Calls Tryz.prog 59 #[.slice (some ⟨b, o, none⟩) 1 cap, .agg #[iv 3, iv to, iv op, iv off, .slice (some ⟨B, O, none⟩) 1 C]] w fun e w' => e = .returned (.bool (Rf.exUn op p to off != 0)) ∧ Below w.heap.size w w' := by
  have l0 := block_lt_of_cell c0
  have l1 := block_lt_of_cell a0
  simp only [] at l0 l1
  have m0 : b < w.heap.size + 1 := by omega
  have m1 : B < w.heap.size + 1 := by omega
  go_enter Tryz.func59, Tryz.ntmps59
  go_wp2_with fail
  (refine (exun_c op p to off b o cap B O C _ (by go_simp) (by go_simp) (by go_simp) (by go_simp) (by go_simp) (by go_simp) (by go_simp) ).mono ?_; rintro e u1 ⟨rfl, hb⟩; obtain ⟨hc, hf⟩ := Flow.bcell hb; have hz := hb.size; (try simp only [World.size_alloc, World.size_setCell, World.size_drew] at hz); obtain z0 := Flow.zs1 (show w.heap.size + 1 ≤ u1.heap.size by omega))
  go_wp2_with fail
  go_ret
  exact ⟨rfl, by (repeat (first | exact Below.refl _ _ | refine Below.setCell ?_ (by first | omega | (simp <;> omega)) _ | refine Below.alloc ?_ (by first | omega | (simp <;> omega)) _ | refine Below.drew ?_ | refine Below.trans ?_ (Below.mono (by assumption) (by first | omega | (simp <;> omega)))))⟩
theorem ret_un {x : V} {n : Int} {p : V × Int} (h : p = (x, n)) : Ending.returned (.tuple #[vv x, iv n]) = .returned (.tuple #[vv p.1, iv p.2]) := by rw [h]

end Go.Proofs.YtboknfppecgjmaaGreat
