/- The types of atoms that are constants, by the reference candlingref10, walked. -/
import Derived.Test.YtboknfppecgjmaaGreatExTypes
namespace Go.Proofs.YtboknfppecgjmaaGreat
set_option linter.unusedVariables false
set_option linter.unusedSimpArgs false
open Go.RowKit Go.Shelf
/-- An atom that is a constant of a type: zero. -/
abbrev atk (p : Int) : Value := .agg #[.int .i64 (-1), iv p, uv 0#32, uv 0#32, uv 0#32, uv 0#32]
set_option maxRecDepth 100000 in
set_option maxHeartbeats 4000000 in
theorem typek_c (p : Int) (w : World) : Calls Tryz.prog 130 #[.slice none 0 0, atk p] w fun e w' => e = .returned (iv (Rf.tmpTy p)) ∧ Below w.heap.size w w' := by
  have hzv : Vb.is p ⟨0#32, 0#32, 0#32, 0#32⟩ = Vb.isType p := by
    cases h : Vb.isType p
    · unfold Vb.is; rw [h]; rfl
    · exact is_mk h (by simp) (by simp) (by simp) (by simp)
  cases h : Vb.isType p
  · have HV := Lib.hid (show Rf.tmpTy p = 0 by rw [tmpTy_eq, h]; rfl)
    rw [h] at hzv
    go_enter Tryz.func130, Tryz.ntmps130
    go_wp2_with fail
    (refine (fits_c p V.zero _ ).mono ?_; rintro e u1 ⟨rfl, hb⟩; obtain ⟨hc, hf⟩ := Flow.bcell hb; have hz := hb.size; (try simp only [World.size_alloc, World.size_setCell, World.size_drew] at hz); obtain z0 := Flow.zs1 (show w.heap.size + 1 ≤ u1.heap.size by omega))
    go_wp2_with fail
    go_ret
    exact ⟨by rw [HV.out]; rfl, by (repeat (first | exact Below.refl _ _ | refine Below.setCell ?_ (by first | omega | (simp <;> omega)) _ | refine Below.alloc ?_ (by first | omega | (simp <;> omega)) _ | refine Below.drew ?_ | refine Below.trans ?_ (Below.mono (by assumption) (by first | omega | (simp <;> omega)))))⟩
  · have HV := Lib.hid (show Rf.tmpTy p = p by rw [tmpTy_eq, h]; rfl)
    rw [h] at hzv
    go_enter Tryz.func130, Tryz.ntmps130
    go_wp2_with fail
    (refine (fits_c p V.zero _ ).mono ?_; rintro e u1 ⟨rfl, hb⟩; obtain ⟨hc, hf⟩ := Flow.bcell hb; have hz := hb.size; (try simp only [World.size_alloc, World.size_setCell, World.size_drew] at hz); obtain z0 := Flow.zs1 (show w.heap.size + 1 ≤ u1.heap.size by omega))
    go_wp2_with fail
    go_ret
    exact ⟨by rw [HV.out]; rfl, by (repeat (first | exact Below.refl _ _ | refine Below.setCell ?_ (by first | omega | (simp <;> omega)) _ | refine Below.alloc ?_ (by first | omega | (simp <;> omega)) _ | refine Below.drew ?_ | refine Below.trans ?_ (Below.mono (by assumption) (by first | omega | (simp <;> omega)))))⟩
set_option maxRecDepth 100000 in
set_option maxHeartbeats 4000000 in
theorem types1k_c (p : Int) (B O C : Nat) (w : World)
    (a0 : w.cell? ⟨B, O, none⟩ = some (.int .i64 (-1))) (a1 : w.cell? ⟨B, O + 1, none⟩ = some (iv p)) (a2 : w.cell? ⟨B, O + 2, none⟩ = some (uv 0#32)) (a3 : w.cell? ⟨B, O + 3, none⟩ = some (uv 0#32)) (a4 : w.cell? ⟨B, O + 4, none⟩ = some (uv 0#32)) (a5 : w.cell? ⟨B, O + 5, none⟩ = some (uv 0#32)) :
    Calls Tryz.prog 69 #[.slice none 0 0, .slice (some ⟨B, O, none⟩) 1 C] w (TypesOut w [Rf.tmpTy p]) := by
  have l1 := block_lt_of_cell a0
  simp only [] at l1
  obtain ⟨i0, hi, hz0, hz1, hz2⟩ := info_parts info_int
  go_enter Tryz.func69, Tryz.ntmps69
  go_wp2_with fail
  refine wp_loop_rounds 2 ?_
  rw [rounds_succ]
  go_wp2_with fail
  (refine (typek_c p _ ).mono ?_; rintro e u1 ⟨rfl, hb⟩; obtain ⟨hc, hf⟩ := Flow.bcell hb; have hz := hb.size; (try simp only [World.size_alloc, World.size_setCell, World.size_drew] at hz))
  go_wp2_with (at_builtin; refine wpList_append_own _ rfl _ _ 39 rfl w.heap.size 3 i0 (.int .i64 0) 1 8 Tryz.underlying39 hi hz0 hz1 hz2 rfl (by decide) _ _ _ rfl (World.ownsRow_nil _ _ _ _) ⟨u1.heap.size, 0, none⟩ 1 1 [iv (Rf.tmpTy p)] rfl rfl ?c1 ?c2 ?c3 ?c4 ?c5 ?_)
  case c1 =>
    intro j u hj
    match j, hj with
    | 0, hj => simp at hj; subst hj; simp [Addr.add]
  case c2 => intro u hu; simp at hu; subst hu; rfl
  case c3 => unfold maxLen; omega
  case c4 => omega
  case c5 => simp; omega
  intro v' w2 hown hgrow _
  have hb2 : Below w.heap.size w w2 := ((hb.alloc (by omega) _).grown hgrow (by simp; omega) (by intro k hk; cases hk))
  obtain ⟨g, cp, rfl, hg, hcells⟩ := own_cells (ts := [Rf.tmpTy p]) (by omega) hown
  clear hown hgrow
  go_wp2_with fail
  rw [rounds_succ]
  go_wp2_with fail
  go_ret
  exact ⟨g, cp, rfl, hcells, hg, hb2⟩
/-- A slice of constants, as it lies. -/
structure Atoms2K (p q : Int) (B O : Nat) (w : World) : Prop where
  a0 : w.cell? ⟨B, O, none⟩ = some (.int .i64 (-1))
  a1 : w.cell? ⟨B, O + 1, none⟩ = some (iv p)
  a2 : w.cell? ⟨B, O + 2, none⟩ = some (uv 0#32)
  a3 : w.cell? ⟨B, O + 3, none⟩ = some (uv 0#32)
  a4 : w.cell? ⟨B, O + 4, none⟩ = some (uv 0#32)
  a5 : w.cell? ⟨B, O + 5, none⟩ = some (uv 0#32)
  b0 : w.cell? ⟨B, O + 6, none⟩ = some (.int .i64 (-1))
  b1 : w.cell? ⟨B, O + 7, none⟩ = some (iv q)
  b2 : w.cell? ⟨B, O + 8, none⟩ = some (uv 0#32)
  b3 : w.cell? ⟨B, O + 9, none⟩ = some (uv 0#32)
  b4 : w.cell? ⟨B, O + 10, none⟩ = some (uv 0#32)
  b5 : w.cell? ⟨B, O + 11, none⟩ = some (uv 0#32)
set_option maxRecDepth 100000 in
set_option maxHeartbeats 8000000 in
theorem types2k_c (p q : Int) (B O C : Nat) (w : World) (H : Atoms2K p q B O w) :
    Calls Tryz.prog 69 #[.slice none 0 0, .slice (some ⟨B, O, none⟩) 2 C] w (TypesOut w [Rf.tmpTy p, Rf.tmpTy q]) := by
  obtain ⟨a0, a1, a2, a3, a4, a5, b0, b1, b2, b3, b4, b5⟩ := H
  have l1 := block_lt_of_cell a0
  simp only [] at l1
  obtain ⟨i0, hi, hz0, hz1, hz2⟩ := info_parts info_int
  go_enter Tryz.func69, Tryz.ntmps69
  go_wp2_with fail
  refine wp_loop_rounds 3 ?_
  rw [rounds_succ]
  go_wp2_with fail
  (refine (typek_c p _ ).mono ?_; rintro e u1 ⟨rfl, hb⟩; obtain ⟨hc, hf⟩ := Flow.bcell hb; have hz := hb.size; (try simp only [World.size_alloc, World.size_setCell, World.size_drew] at hz))
  go_wp2_with (at_builtin; refine wpList_append_own _ rfl _ _ 39 rfl w.heap.size 3 i0 (.int .i64 0) 1 8 Tryz.underlying39 hi hz0 hz1 hz2 rfl (by decide) _ _ _ rfl (World.ownsRow_nil _ _ _ _) ⟨u1.heap.size, 0, none⟩ 1 1 [iv (Rf.tmpTy p)] rfl rfl ?c1 ?c2 ?c3 ?c4 ?c5 ?_)
  case c1 =>
    intro j u hj
    match j, hj with
    | 0, hj => simp at hj; subst hj; simp [Addr.add]
  case c2 => intro u hu; simp at hu; subst hu; rfl
  case c3 => unfold maxLen; omega
  case c4 => omega
  case c5 => simp; omega
  intro v' w2 hown hgrow _
  have hb2 : Below w.heap.size w w2 := ((hb.alloc (by omega) _).grown hgrow (by simp; omega) (by intro k hk; cases hk))
  obtain ⟨hc2, hf2⟩ := Flow.bcell hb2
  have hz' := hb2.size
  have HO := Lib.hid hown
  clear hown hgrow hc hf hz
  have l3 := Nat.lt_of_lt_of_le l1 hz'
  go_wp2_with fail
  rw [rounds_succ]
  go_wp2_with fail
  (refine (typek_c q _ ).mono ?_; rintro e u3 ⟨rfl, hb⟩; obtain ⟨hc, hf⟩ := Flow.bcell hb; have hz := hb.size; (try simp only [World.size_alloc, World.size_setCell, World.size_drew] at hz))
  have hown3 := own_below HO.out hb
  have hown4 := hown3.alloc (.cells #[iv (Rf.tmpTy q)] 3)
  have HO4 := Lib.hid hown4
  clear hown3 hown4 HO
  go_wp2_with (at_builtin; refine wpList_append_own _ rfl _ _ 39 rfl w.heap.size 3 i0 (.int .i64 0) 1 8 Tryz.underlying39 hi hz0 hz1 hz2 rfl (by decide) _ _ _ rfl HO4.out ⟨u3.heap.size, 0, none⟩ 1 1 [iv (Rf.tmpTy q)] rfl rfl ?d1 ?d2 ?d3 ?d4 ?d5 ?_)
  case d1 =>
    intro j u hj
    match j, hj with
    | 0, hj => simp at hj; subst hj; simp [Addr.add]
  case d2 => intro u hu; simp at hu; subst hu; rfl
  case d3 => unfold maxLen; omega
  case d4 => omega
  case d5 => simp; omega
  intro v2 w4 hown hgrow _
  have hvb : ∀ k, v'.ownBlock = some k → w.heap.size ≤ k := by
    intro k hk
    obtain ⟨_, h0 | ⟨g, cp, cur, rfl, hg, _⟩⟩ := HO4.out
    · omega
    · simp [Value.ownBlock] at hk; omega
  have hb4 : Below w.heap.size w w4 := (((hb2.trans (hb.mono (by omega))).alloc (by omega) _).grown hgrow (by simp; omega) hvb)
  obtain ⟨g, cp, rfl, hg, hcells⟩ := own_cells (ts := [Rf.tmpTy p, Rf.tmpTy q]) (by omega) hown
  clear hown hgrow
  go_wp2_with fail
  rw [rounds_succ]
  go_wp2_with fail
  go_ret
  exact ⟨g, cp, rfl, hcells, hg, hb4⟩
end Go.Proofs.YtboknfppecgjmaaGreat
