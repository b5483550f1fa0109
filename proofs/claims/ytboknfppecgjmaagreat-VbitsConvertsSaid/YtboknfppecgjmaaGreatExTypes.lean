/- The types of atoms, by the reference candlingref10: walked for one and two temporaries. -/
import Derived.Test.YtboknfppecgjmaaGreatExWalk
import Derived.OwnWalk
namespace Go.Proofs.YtboknfppecgjmaaGreat
set_option linter.unusedVariables false
set_option linter.unusedSimpArgs false
open Go.RowKit Go.Shelf
theorem info_int : (Tryz.prog.info? 3).map (fun i => (i.zero, i.size, i.bytes)) = some (some (.int .i64 0), 1, 8) := by kernel_rfl
/-- An atom that is a temporary. -/
abbrev atv (k : Int) : Value := .agg #[iv k, iv 0, uv 0#32, uv 0#32, uv 0#32, uv 0#32]
set_option maxRecDepth 100000 in
set_option maxHeartbeats 4000000 in
theorem type10_c (p : Int) (b off cap : Nat) (w : World) (c0 : w.cell? ⟨b, off, none⟩ = some (iv p)) :
    Calls Tryz.prog 130 #[.slice (some ⟨b, off, none⟩) 1 cap, atv 0] w fun e w' => e = .returned (iv (Rf.tmpTy p)) ∧ Below w.heap.size w w' := by
  have l0 := block_lt_of_cell c0
  simp only [] at l0
  have l1 : b < w.heap.size + 1 := by omega
  cases h : (Rf.bytes p == 0)
  · have HV := Lib.hid (show Rf.tmpTy p = p by simp at h; simp [Rf.tmpTy, h])
    go_enter Tryz.func130, Tryz.ntmps130
    go_wp2_with (go_at_call 37; refine (bytes_c _ _).mono ?_; rintro e w1 ⟨rfl, rfl⟩)
    go_ret
    exact ⟨by rw [HV.out]; rfl, by (repeat (first | exact Below.refl _ _ | refine Below.setCell ?_ (by first | omega | (simp <;> omega)) _ | refine Below.alloc ?_ (by first | omega | (simp <;> omega)) _ | refine Below.drew ?_ | refine Below.trans ?_ (Below.mono (by assumption) (by first | omega | (simp <;> omega)))))⟩
  · have HV := Lib.hid (show Rf.tmpTy p = 0 by simp at h; simp [Rf.tmpTy, h])
    go_enter Tryz.func130, Tryz.ntmps130
    go_wp2_with (go_at_call 37; refine (bytes_c _ _).mono ?_; rintro e w1 ⟨rfl, rfl⟩)
    go_ret
    exact ⟨by rw [HV.out]; rfl, by (repeat (first | exact Below.refl _ _ | refine Below.setCell ?_ (by first | omega | (simp <;> omega)) _ | refine Below.alloc ?_ (by first | omega | (simp <;> omega)) _ | refine Below.drew ?_ | refine Below.trans ?_ (Below.mono (by assumption) (by first | omega | (simp <;> omega)))))⟩
set_option maxRecDepth 100000 in
set_option maxHeartbeats 4000000 in
theorem type20_c (p q : Int) (b off cap : Nat) (w : World) (c0 : w.cell? ⟨b, off, none⟩ = some (iv p)) (c1 : w.cell? ⟨b, off + 1, none⟩ = some (iv q)) :
    Calls Tryz.prog 130 #[.slice (some ⟨b, off, none⟩) 2 cap, atv 0] w fun e w' => e = .returned (iv (Rf.tmpTy p)) ∧ Below w.heap.size w w' := by
  have l0 := block_lt_of_cell c0
  simp only [] at l0
  have l1 : b < w.heap.size + 1 := by omega
  cases h : (Rf.bytes p == 0)
  · have HV := Lib.hid (show Rf.tmpTy p = p by simp at h; simp [Rf.tmpTy, h])
    go_enter Tryz.func130, Tryz.ntmps130
    go_wp2_with (go_at_call 37; refine (bytes_c _ _).mono ?_; rintro e w1 ⟨rfl, rfl⟩)
    go_ret
    exact ⟨by rw [HV.out]; rfl, by (repeat (first | exact Below.refl _ _ | refine Below.setCell ?_ (by first | omega | (simp <;> omega)) _ | refine Below.alloc ?_ (by first | omega | (simp <;> omega)) _ | refine Below.drew ?_ | refine Below.trans ?_ (Below.mono (by assumption) (by first | omega | (simp <;> omega)))))⟩
  · have HV := Lib.hid (show Rf.tmpTy p = 0 by simp at h; simp [Rf.tmpTy, h])
    go_enter Tryz.func130, Tryz.ntmps130
    go_wp2_with (go_at_call 37; refine (bytes_c _ _).mono ?_; rintro e w1 ⟨rfl, rfl⟩)
    go_ret
    exact ⟨by rw [HV.out]; rfl, by (repeat (first | exact Below.refl _ _ | refine Below.setCell ?_ (by first | omega | (simp <;> omega)) _ | refine Below.alloc ?_ (by first | omega | (simp <;> omega)) _ | refine Below.drew ?_ | refine Below.trans ?_ (Below.mono (by assumption) (by first | omega | (simp <;> omega)))))⟩
set_option maxRecDepth 100000 in
set_option maxHeartbeats 4000000 in
theorem type21_c (p q : Int) (b off cap : Nat) (w : World) (c0 : w.cell? ⟨b, off, none⟩ = some (iv p)) (c1 : w.cell? ⟨b, off + 1, none⟩ = some (iv q)) :
    Calls Tryz.prog 130 #[.slice (some ⟨b, off, none⟩) 2 cap, atv 1] w fun e w' => e = .returned (iv (Rf.tmpTy q)) ∧ Below w.heap.size w w' := by
  have l0 := block_lt_of_cell c0
  simp only [] at l0
  have l1 : b < w.heap.size + 1 := by omega
  cases h : (Rf.bytes q == 0)
  · have HV := Lib.hid (show Rf.tmpTy q = q by simp at h; simp [Rf.tmpTy, h])
    go_enter Tryz.func130, Tryz.ntmps130
    go_wp2_with (go_at_call 37; refine (bytes_c _ _).mono ?_; rintro e w1 ⟨rfl, rfl⟩)
    go_ret
    exact ⟨by rw [HV.out]; rfl, by (repeat (first | exact Below.refl _ _ | refine Below.setCell ?_ (by first | omega | (simp <;> omega)) _ | refine Below.alloc ?_ (by first | omega | (simp <;> omega)) _ | refine Below.drew ?_ | refine Below.trans ?_ (Below.mono (by assumption) (by first | omega | (simp <;> omega)))))⟩
  · have HV := Lib.hid (show Rf.tmpTy q = 0 by simp at h; simp [Rf.tmpTy, h])
    go_enter Tryz.func130, Tryz.ntmps130
    go_wp2_with (go_at_call 37; refine (bytes_c _ _).mono ?_; rintro e w1 ⟨rfl, rfl⟩)
    go_ret
    exact ⟨by rw [HV.out]; rfl, by (repeat (first | exact Below.refl _ _ | refine Below.setCell ?_ (by first | omega | (simp <;> omega)) _ | refine Below.alloc ?_ (by first | omega | (simp <;> omega)) _ | refine Below.drew ?_ | refine Below.trans ?_ (Below.mono (by assumption) (by first | omega | (simp <;> omega)))))⟩
/-- What 'types' hands back: new memory that reads as these types. -/
def TypesOut (w : World) (ts : List Int) (e : Ending) (w' : World) : Prop :=
  ∃ g cap, e = .returned (.slice (some ⟨g, 0, none⟩) ts.length cap) ∧ (∀ i t, ts[i]? = some t → w'.cell? ⟨g, i, none⟩ = some (iv t)) ∧ w.heap.size ≤ g ∧ Below w.heap.size w w'
theorem own_cells {w : World} {base : Nat} {v : Value} {n : Nat} {ts : List Int} (hn : 0 < n) (h : w.ownsRow base 3 1 v n (ts.map fun t => iv t)) :
    ∃ g cap, v = .slice (some ⟨g, 0, none⟩) n cap ∧ base ≤ g ∧ ∀ i t, ts[i]? = some t → w.cell? ⟨g, i, none⟩ = some (iv t) := by
  obtain ⟨hl, h0 | ⟨g, cap, cur, rfl, hg, hh, h1, h2, h3, h4⟩⟩ := h
  · omega
  · refine ⟨g, cap, rfl, hg, fun i t hi => ?_⟩
    have hil : i < ts.length := (List.getElem?_eq_some_iff.1 hi).1
    simp only [List.length_map] at hl
    have h5 : (cur.toList.take (n * 1))[i]? = some (iv t) := by rw [h4, List.getElem?_map, hi]; rfl
    rw [List.getElem?_take, if_pos (by omega)] at h5
    unfold World.cell?
    simp only [hh]
    simpa using h5
theorem own_below {w w' : World} {base : Nat} {e : TypeId} {size : Nat} {v : Value} {n : Nat} {xs : List Value} (h : w.ownsRow base e size v n xs) (hb : Below w.heap.size w w') : w'.ownsRow base e size v n xs := by
  obtain ⟨hl, h0 | ⟨g, cap, cur, rfl, hg, hh, h1, h2, h3, h4⟩⟩ := h
  · exact ⟨hl, .inl h0⟩
  · exact ⟨hl, .inr ⟨g, cap, cur, rfl, hg, by rw [hb.block _ (Array.getElem?_eq_some_iff.1 hh).1]; exact hh, h1, h2, h3, h4⟩⟩
set_option maxRecDepth 100000 in
set_option maxHeartbeats 4000000 in
theorem types1_c (p : Int) (b off cap : Nat) (B O C : Nat) (w : World) (c0 : w.cell? ⟨b, off, none⟩ = some (iv p))
    (a0 : w.cell? ⟨B, O, none⟩ = some (iv 0)) (a1 : w.cell? ⟨B, O + 1, none⟩ = some (iv 0)) (a2 : w.cell? ⟨B, O + 2, none⟩ = some (uv 0#32)) (a3 : w.cell? ⟨B, O + 3, none⟩ = some (uv 0#32)) (a4 : w.cell? ⟨B, O + 4, none⟩ = some (uv 0#32)) (a5 : w.cell? ⟨B, O + 5, none⟩ = some (uv 0#32)) :
    Calls Tryz.prog 69 #[.slice (some ⟨b, off, none⟩) 1 cap, .slice (some ⟨B, O, none⟩) 1 C] w (TypesOut w [Rf.tmpTy p]) := by
  have l0 := block_lt_of_cell c0
  have l1 := block_lt_of_cell a0
  simp only [] at l0 l1
  obtain ⟨i0, hi, hz0, hz1, hz2⟩ := info_parts info_int
  go_enter Tryz.func69, Tryz.ntmps69
  go_wp2_with fail
  refine wp_loop_rounds 2 ?_
  rw [rounds_succ]
  go_wp2_with fail
  (refine (type10_c p b off cap _ (by go_simp) ).mono ?_; rintro e u1 ⟨rfl, hb⟩; obtain ⟨hc, hf⟩ := Flow.bcell hb; have hz := hb.size; (try simp only [World.size_alloc, World.size_setCell, World.size_drew] at hz))
  go_wp2_with (at_builtin; refine wpList_append_own _ rfl _ _ 39 rfl w.heap.size 3 i0 (.int .i64 0) 1 8 Tryz.underlying39 hi hz0 hz1 hz2 rfl (by decide) _ _ _ rfl (World.ownsRow_nil _ _ _ _) ⟨u1.heap.size, 0, none⟩ 1 1 [iv (Rf.tmpTy p)] rfl rfl ?c1 ?c2 ?c3 ?c4 ?c5 ?_)
  case c1 =>
    intro j u hj
    match j, hj with
    | 0, hj => simp at hj; subst hj; simp [Addr.add]
  case c2 => intro u hu; simp at hu; subst hu; rfl
  case c3 => unfold maxLen; omega
  case c4 => omega
  case c5 => simp; omega
  intro v' w2 hown hgrow _
  have hb2 : Below w.heap.size w w2 := ((hb.alloc (by omega) _).grown hgrow (by simp; omega) (by intro k hk; cases hk))
  obtain ⟨g, cp, rfl, hg, hcells⟩ := own_cells (ts := [Rf.tmpTy p]) (by omega) hown
  clear hown hgrow
  go_wp2_with fail
  rw [rounds_succ]
  go_wp2_with fail
  go_ret
  exact ⟨g, cp, rfl, hcells, hg, hb2⟩
/-- A slice of temporaries, as it lies. -/
structure Atoms2 (B O : Nat) (w : World) : Prop where
  a0 : w.cell? ⟨B, O, none⟩ = some (iv 0)
  a1 : w.cell? ⟨B, O + 1, none⟩ = some (iv 0)
  a2 : w.cell? ⟨B, O + 2, none⟩ = some (uv 0#32)
  a3 : w.cell? ⟨B, O + 3, none⟩ = some (uv 0#32)
  a4 : w.cell? ⟨B, O + 4, none⟩ = some (uv 0#32)
  a5 : w.cell? ⟨B, O + 5, none⟩ = some (uv 0#32)
  b0 : w.cell? ⟨B, O + 6, none⟩ = some (iv 1)
  b1 : w.cell? ⟨B, O + 7, none⟩ = some (iv 0)
  b2 : w.cell? ⟨B, O + 8, none⟩ = some (uv 0#32)
  b3 : w.cell? ⟨B, O + 9, none⟩ = some (uv 0#32)
  b4 : w.cell? ⟨B, O + 10, none⟩ = some (uv 0#32)
  b5 : w.cell? ⟨B, O + 11, none⟩ = some (uv 0#32)
set_option maxRecDepth 100000 in
set_option maxHeartbeats 8000000 in
theorem types2_c (p q : Int) (b off cap : Nat) (B O C : Nat) (w : World) (c0 : w.cell? ⟨b, off, none⟩ = some (iv p)) (c1 : w.cell? ⟨b, off + 1, none⟩ = some (iv q)) (H : Atoms2 B O w) :
    Calls Tryz.prog 69 #[.slice (some ⟨b, off, none⟩) 2 cap, .slice (some ⟨B, O, none⟩) 2 C] w (TypesOut w [Rf.tmpTy p, Rf.tmpTy q]) := by
  obtain ⟨a0, a1, a2, a3, a4, a5, b0, b1, b2, b3, b4, b5⟩ := H
  have l0 := block_lt_of_cell c0
  have l1 := block_lt_of_cell a0
  simp only [] at l0 l1
  obtain ⟨i0, hi, hz0, hz1, hz2⟩ := info_parts info_int
  go_enter Tryz.func69, Tryz.ntmps69
  go_wp2_with fail
  refine wp_loop_rounds 3 ?_
  rw [rounds_succ]
  go_wp2_with fail
  (refine (type20_c p q b off cap _ (by go_simp) (by go_simp) ).mono ?_; rintro e u1 ⟨rfl, hb⟩; obtain ⟨hc, hf⟩ := Flow.bcell hb; have hz := hb.size; (try simp only [World.size_alloc, World.size_setCell, World.size_drew] at hz))
  go_wp2_with (at_builtin; refine wpList_append_own _ rfl _ _ 39 rfl w.heap.size 3 i0 (.int .i64 0) 1 8 Tryz.underlying39 hi hz0 hz1 hz2 rfl (by decide) _ _ _ rfl (World.ownsRow_nil _ _ _ _) ⟨u1.heap.size, 0, none⟩ 1 1 [iv (Rf.tmpTy p)] rfl rfl ?c1 ?c2 ?c3 ?c4 ?c5 ?_)
  case c1 =>
    intro j u hj
    match j, hj with
    | 0, hj => simp at hj; subst hj; simp [Addr.add]
  case c2 => intro u hu; simp at hu; subst hu; rfl
  case c3 => unfold maxLen; omega
  case c4 => omega
  case c5 => simp; omega
  intro v' w2 hown hgrow _
  have hb2 : Below w.heap.size w w2 := ((hb.alloc (by omega) _).grown hgrow (by simp; omega) (by intro k hk; cases hk))
  obtain ⟨hc2, hf2⟩ := Flow.bcell hb2
  have hz' := hb2.size
  have HO := Lib.hid hown
  clear hown hgrow hc hf hz
  have l2 := Nat.lt_of_lt_of_le l0 hz'
  have l3 := Nat.lt_of_lt_of_le l1 hz'
  go_wp2_with fail
  rw [rounds_succ]
  go_wp2_with fail
  (refine (type21_c p q b off cap _ (by go_simp) (by go_simp) ).mono ?_; rintro e u3 ⟨rfl, hb⟩; obtain ⟨hc, hf⟩ := Flow.bcell hb; have hz := hb.size; (try simp only [World.size_alloc, World.size_setCell, World.size_drew] at hz))
  have hown3 := own_below HO.out hb
  have hown4 := hown3.alloc (.cells #[iv (Rf.tmpTy q)] 3)
  have HO4 := Lib.hid hown4
  clear hown3 hown4 HO
  go_wp2_with (at_builtin; refine wpList_append_own _ rfl _ _ 39 rfl w.heap.size 3 i0 (.int .i64 0) 1 8 Tryz.underlying39 hi hz0 hz1 hz2 rfl (by decide) _ _ _ rfl HO4.out ⟨u3.heap.size, 0, none⟩ 1 1 [iv (Rf.tmpTy q)] rfl rfl ?d1 ?d2 ?d3 ?d4 ?d5 ?_)
  case d1 =>
    intro j u hj
    match j, hj with
    | 0, hj => simp at hj; subst hj; simp [Addr.add]
  case d2 => intro u hu; simp at hu; subst hu; rfl
  case d3 => unfold maxLen; omega
  case d4 => omega
  case d5 => simp; omega
  intro v2 w4 hown hgrow _
  have hvb : ∀ k, v'.ownBlock = some k → w.heap.size ≤ k := by
    intro k hk
    obtain ⟨_, h0 | ⟨g, cp, cur, rfl, hg, _⟩⟩ := HO4.out
    · omega
    · simp [Value.ownBlock] at hk; omega
  have hb4 : Below w.heap.size w w4 := (((hb2.trans (hb.mono (by omega))).alloc (by omega) _).grown hgrow (by simp; omega) hvb)
  obtain ⟨g, cp, rfl, hg, hcells⟩ := own_cells (ts := [Rf.tmpTy p, Rf.tmpTy q]) (by omega) hown
  clear hown hgrow
  go_wp2_with fail
  rw [rounds_succ]
  go_wp2_with fail
  go_ret
  exact ⟨g, cp, rfl, hcells, hg, hb4⟩
end Go.Proofs.YtboknfppecgjmaaGreat
