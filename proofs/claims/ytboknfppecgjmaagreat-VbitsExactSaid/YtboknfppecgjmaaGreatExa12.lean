/- Part 12 of the proof's texts: ExTypes, ExBin, Expr. -/
import Derived.OwnWalk
import Derived.Test.YtboknfppecgjmaaGreatExa11
set_option maxHeartbeats 16000000
namespace Go.Proofs.YtboknfppecgjmaaGreat
set_option linter.unusedVariables false
set_option linter.unusedSimpArgs false
open Go.RowKit Go.Shelf
theorem info_int : (Tryz.prog.info? 3).map (fun i => (i.zero, i.size, i.bytes)) = some (some (.int .i64 0), 1, 8) := by kernel_rfl
abbrev atv (k : Int) : Value := .agg #[iv k, iv 0, uv 0#32, uv 0#32, uv 0#32, uv 0#32]
set_option maxRecDepth 100000 in
theorem type10_c (p : Int) (b off cap : Nat) (w : World) (c0 : w.cell? ⟨b, off, none⟩ = some (iv p)) :
    Calls Tryz.prog 130 #[.slice (some ⟨b, off, none⟩) 1 cap, atv 0] w fun e w' => e = .returned (iv (Rf.tmpTy p)) ∧ Below w.heap.size w w' := by
  have l0 := block_lt_of_cell c0
  simp only [] at l0
  have l1 : b < w.heap.size + 1 := by omega
  cases h : (Rf.bytes p == 0)
  · have HV := Lib.hid (show Rf.tmpTy p = p by simp at h; simp [Rf.tmpTy, h])
    go_enter Tryz.func130, Tryz.ntmps130
    go_wp2_with (go_at_call 37; refine (bytes_c _ _).mono ?_; rintro e w1 ⟨rfl, rfl⟩)
    go_ret
    exact ⟨by rw [HV.out]; rfl, by (repeat (first | exact Below.refl _ _ | refine Below.setCell ?_ (by first | omega | (simp <;> omega)) _ | refine Below.alloc ?_ (by first | omega | (simp <;> omega)) _ | refine Below.drew ?_ | refine Below.trans ?_ (Below.mono (by assumption) (by first | omega | (simp <;> omega)))))⟩
  · have HV := Lib.hid (show Rf.tmpTy p = 0 by simp at h; simp [Rf.tmpTy, h])
    go_enter Tryz.func130, Tryz.ntmps130
    go_wp2_with (go_at_call 37; refine (bytes_c _ _).mono ?_; rintro e w1 ⟨rfl, rfl⟩)
    go_ret
    exact ⟨by rw [HV.out]; rfl, by (repeat (first | exact Below.refl _ _ | refine Below.setCell ?_ (by first | omega | (simp <;> omega)) _ | refine Below.alloc ?_ (by first | omega | (simp <;> omega)) _ | refine Below.drew ?_ | refine Below.trans ?_ (Below.mono (by assumption) (by first | omega | (simp <;> omega)))))⟩
set_option maxRecDepth 100000 in
theorem type20_c (p q : Int) (b off cap : Nat) (w : World) (c0 : w.cell? ⟨b, off, none⟩ = some (iv p)) (c1 : w.cell? ⟨b, off + 1, none⟩ = some (iv q)) :
    Calls Tryz.prog 130 #[.slice (some ⟨b, off, none⟩) 2 cap, atv 0] w fun e w' => e = .returned (iv (Rf.tmpTy p)) ∧ Below w.heap.size w w' := by
  have l0 := block_lt_of_cell c0
  simp only [] at l0
  have l1 : b < w.heap.size + 1 := by omega
  cases h : (Rf.bytes p == 0)
  · have HV := Lib.hid (show Rf.tmpTy p = p by simp at h; simp [Rf.tmpTy, h])
    go_enter Tryz.func130, Tryz.ntmps130
    go_wp2_with (go_at_call 37; refine (bytes_c _ _).mono ?_; rintro e w1 ⟨rfl, rfl⟩)
    go_ret
    exact ⟨by rw [HV.out]; rfl, by (repeat (first | exact Below.refl _ _ | refine Below.setCell ?_ (by first | omega | (simp <;> omega)) _ | refine Below.alloc ?_ (by first | omega | (simp <;> omega)) _ | refine Below.drew ?_ | refine Below.trans ?_ (Below.mono (by assumption) (by first | omega | (simp <;> omega)))))⟩
  · have HV := Lib.hid (show Rf.tmpTy p = 0 by simp at h; simp [Rf.tmpTy, h])
    go_enter Tryz.func130, Tryz.ntmps130
    go_wp2_with (go_at_call 37; refine (bytes_c _ _).mono ?_; rintro e w1 ⟨rfl, rfl⟩)
    go_ret
    exact ⟨by rw [HV.out]; rfl, by (repeat (first | exact Below.refl _ _ | refine Below.setCell ?_ (by first | omega | (simp <;> omega)) _ | refine Below.alloc ?_ (by first | omega | (simp <;> omega)) _ | refine Below.drew ?_ | refine Below.trans ?_ (Below.mono (by assumption) (by first | omega | (simp <;> omega)))))⟩
set_option maxRecDepth 100000 in
theorem type21_c (p q : Int) (b off cap : Nat) (w : World) (c0 : w.cell? ⟨b, off, none⟩ = some (iv p)) (c1 : w.cell? ⟨b, off + 1, none⟩ = some (iv q)) :
    Calls Tryz.prog 130 #[.slice (some ⟨b, off, none⟩) 2 cap, atv 1] w fun e w' => e = .returned (iv (Rf.tmpTy q)) ∧ Below w.heap.size w w' := by
  have l0 := block_lt_of_cell c0
  simp only [] at l0
  have l1 : b < w.heap.size + 1 := by omega
  cases h : (Rf.bytes q == 0)
  · have HV := Lib.hid (show Rf.tmpTy q = q by simp at h; simp [Rf.tmpTy, h])
    go_enter Tryz.func130, Tryz.ntmps130
    go_wp2_with (go_at_call 37; refine (bytes_c _ _).mono ?_; rintro e w1 ⟨rfl, rfl⟩)
    go_ret
    exact ⟨by rw [HV.out]; rfl, by (repeat (first | exact Below.refl _ _ | refine Below.setCell ?_ (by first | omega | (simp <;> omega)) _ | refine Below.alloc ?_ (by first | omega | (simp <;> omega)) _ | refine Below.drew ?_ | refine Below.trans ?_ (Below.mono (by assumption) (by first | omega | (simp <;> omega)))))⟩
  · have HV := Lib.hid (show Rf.tmpTy q = 0 by simp at h; simp [Rf.tmpTy, h])
    go_enter Tryz.func130, Tryz.ntmps130
    go_wp2_with (go_at_call 37; refine (bytes_c _ _).mono ?_; rintro e w1 ⟨rfl, rfl⟩)
    go_ret
    exact ⟨by rw [HV.out]; rfl, by (repeat (first | exact Below.refl _ _ | refine Below.setCell ?_ (by first | omega | (simp <;> omega)) _ | refine Below.alloc ?_ (by first | omega | (simp <;> omega)) _ | refine Below.drew ?_ | refine Below.trans ?_ (Below.mono (by assumption) (by first | omega | (simp <;> omega)))))⟩
def TypesOut (w : World) (ts : List Int) (e : Ending) (w' : World) : Prop :=
  ∃ g cap, e = .returned (.slice (some ⟨g, 0, none⟩) ts.length cap) ∧ (∀ i t, ts[i]? = some t → w'.cell? ⟨g, i, none⟩ = some (iv t)) ∧ w.heap.size ≤ g ∧ Below w.heap.size w w'
theorem own_cells {w : World} {base : Nat} {v : Value} {n : Nat} {ts : List Int} (hn : 0 < n) (h : w.ownsRow base 3 1 v n (ts.map fun t => iv t)) :
    ∃ g cap, v = .slice (some ⟨g, 0, none⟩) n cap ∧ base ≤ g ∧ ∀ i t, ts[i]? = some t → w.cell? ⟨g, i, none⟩ = some (iv t) := by
  obtain ⟨hl, h0 | ⟨g, cap, cur, rfl, hg, hh, h1, h2, h3, h4⟩⟩ := h
  · omega
  · refine ⟨g, cap, rfl, hg, fun i t hi => ?_⟩
    have hil : i < ts.length := (List.getElem?_eq_some_iff.1 hi).1
    simp only [List.length_map] at hl
    have h5 : (cur.toList.take (n * 1))[i]? = some (iv t) := by rw [h4, List.getElem?_map, hi]; rfl
    rw [List.getElem?_take, if_pos (by omega)] at h5
    unfold World.cell?
    simp only [hh]
    simpa using h5
theorem own_below {w w' : World} {base : Nat} {e : TypeId} {size : Nat} {v : Value} {n : Nat} {xs : List Value} (h : w.ownsRow base e size v n xs) (hb : Below w.heap.size w w') : w'.ownsRow base e size v n xs := by
  obtain ⟨hl, h0 | ⟨g, cap, cur, rfl, hg, hh, h1, h2, h3, h4⟩⟩ := h
  · exact ⟨hl, .inl h0⟩
  · exact ⟨hl, .inr ⟨g, cap, cur, rfl, hg, by rw [hb.block _ (Array.getElem?_eq_some_iff.1 hh).1]; exact hh, h1, h2, h3, h4⟩⟩
set_option maxRecDepth 100000 in
theorem types1_c (p : Int) (b off cap : Nat) (B O C : Nat) (w : World) (c0 : w.cell? ⟨b, off, none⟩ = some (iv p))
    (a0 : w.cell? ⟨B, O, none⟩ = some (iv 0)) (a1 : w.cell? ⟨B, O + 1, none⟩ = some (iv 0)) (a2 : w.cell? ⟨B, O + 2, none⟩ = some (uv 0#32)) (a3 : w.cell? ⟨B, O + 3, none⟩ = some (uv 0#32)) (a4 : w.cell? ⟨B, O + 4, none⟩ = some (uv 0#32)) (a5 : w.cell? ⟨B, O + 5, none⟩ = some (uv 0#32)) :
    Calls Tryz.prog 69 #[.slice (some ⟨b, off, none⟩) 1 cap, .slice (some ⟨B, O, none⟩) 1 C] w (TypesOut w [Rf.tmpTy p]) := by
  have l0 := block_lt_of_cell c0
  have l1 := block_lt_of_cell a0
  simp only [] at l0 l1
  obtain ⟨i0, hi, hz0, hz1, hz2⟩ := info_parts info_int
  go_enter Tryz.func69, Tryz.ntmps69
  go_wp2_with fail
  refine wp_loop_rounds 2 ?_
  rw [rounds_succ]
  go_wp2_with fail
  (refine (type10_c p b off cap _ (by go_simp) ).mono ?_; rintro e u1 ⟨rfl, hb⟩; obtain ⟨hc, hf⟩ := Flow.bcell hb; have hz := hb.size; (try simp only [World.size_alloc, World.size_setCell, World.size_drew] at hz))
  go_wp2_with (at_builtin; refine wpList_append_own _ rfl _ _ 39 rfl w.heap.size 3 i0 (.int .i64 0) 1 8 Tryz.underlying39 hi hz0 hz1 hz2 rfl (by decide) _ _ _ rfl (World.ownsRow_nil _ _ _ _) ⟨u1.heap.size, 0, none⟩ 1 1 [iv (Rf.tmpTy p)] rfl rfl ?c1 ?c2 ?c3 ?c4 ?c5 ?_)
  case c1 =>
    intro j u hj
    match j, hj with
    | 0, hj => simp at hj; subst hj; simp [Addr.add]
  case c2 => intro u hu; simp at hu; subst hu; rfl
  case c3 => unfold maxLen; omega
  case c4 => omega
  case c5 => simp; omega
  intro v' w2 hown hgrow _
  have hb2 : Below w.heap.size w w2 := ((hb.alloc (by omega) _).grown hgrow (by simp; omega) (by intro k hk; cases hk))
  obtain ⟨g, cp, rfl, hg, hcells⟩ := own_cells (ts := [Rf.tmpTy p]) (by omega) hown
  clear hown hgrow
  go_wp2_with fail
  rw [rounds_succ]
  go_wp2_with fail
  go_ret
  exact ⟨g, cp, rfl, hcells, hg, hb2⟩
structure Atoms2 (B O : Nat) (w : World) : Prop where
  a0 : w.cell? ⟨B, O, none⟩ = some (iv 0)
  a1 : w.cell? ⟨B, O + 1, none⟩ = some (iv 0)
  a2 : w.cell? ⟨B, O + 2, none⟩ = some (uv 0#32)
  a3 : w.cell? ⟨B, O + 3, none⟩ = some (uv 0#32)
  a4 : w.cell? ⟨B, O + 4, none⟩ = some (uv 0#32)
  a5 : w.cell? ⟨B, O + 5, none⟩ = some (uv 0#32)
  b0 : w.cell? ⟨B, O + 6, none⟩ = some (iv 1)
  b1 : w.cell? ⟨B, O + 7, none⟩ = some (iv 0)
  b2 : w.cell? ⟨B, O + 8, none⟩ = some (uv 0#32)
  b3 : w.cell? ⟨B, O + 9, none⟩ = some (uv 0#32)
  b4 : w.cell? ⟨B, O + 10, none⟩ = some (uv 0#32)
  b5 : w.cell? ⟨B, O + 11, none⟩ = some (uv 0#32)
set_option maxRecDepth 100000 in
theorem types2_c (p q : Int) (b off cap : Nat) (B O C : Nat) (w : World) (c0 : w.cell? ⟨b, off, none⟩ = some (iv p)) (c1 : w.cell? ⟨b, off + 1, none⟩ = some (iv q)) (H : Atoms2 B O w) :
    Calls Tryz.prog 69 #[.slice (some ⟨b, off, none⟩) 2 cap, .slice (some ⟨B, O, none⟩) 2 C] w (TypesOut w [Rf.tmpTy p, Rf.tmpTy q]) := by
  obtain ⟨a0, a1, a2, a3, a4, a5, b0, b1, b2, b3, b4, b5⟩ := H
  have l0 := block_lt_of_cell c0
  have l1 := block_lt_of_cell a0
  simp only [] at l0 l1
  obtain ⟨i0, hi, hz0, hz1, hz2⟩ := info_parts info_int
  go_enter Tryz.func69, Tryz.ntmps69
  go_wp2_with fail
  refine wp_loop_rounds 3 ?_
  rw [rounds_succ]
  go_wp2_with fail
  (refine (type20_c p q b off cap _ (by go_simp) (by go_simp) ).mono ?_; rintro e u1 ⟨rfl, hb⟩; obtain ⟨hc, hf⟩ := Flow.bcell hb; have hz := hb.size; (try simp only [World.size_alloc, World.size_setCell, World.size_drew] at hz))
  go_wp2_with (at_builtin; refine wpList_append_own _ rfl _ _ 39 rfl w.heap.size 3 i0 (.int .i64 0) 1 8 Tryz.underlying39 hi hz0 hz1 hz2 rfl (by decide) _ _ _ rfl (World.ownsRow_nil _ _ _ _) ⟨u1.heap.size, 0, none⟩ 1 1 [iv (Rf.tmpTy p)] rfl rfl ?c1 ?c2 ?c3 ?c4 ?c5 ?_)
  case c1 =>
    intro j u hj
    match j, hj with
    | 0, hj => simp at hj; subst hj; simp [Addr.add]
  case c2 => intro u hu; simp at hu; subst hu; rfl
  case c3 => unfold maxLen; omega
  case c4 => omega
  case c5 => simp; omega
  intro v' w2 hown hgrow _
  have hb2 : Below w.heap.size w w2 := ((hb.alloc (by omega) _).grown hgrow (by simp; omega) (by intro k hk; cases hk))
  obtain ⟨hc2, hf2⟩ := Flow.bcell hb2
  have hz' := hb2.size
  have HO := Lib.hid hown
  clear hown hgrow hc hf hz
  have l2 := Nat.lt_of_lt_of_le l0 hz'
  have l3 := Nat.lt_of_lt_of_le l1 hz'
  go_wp2_with fail
  rw [rounds_succ]
  go_wp2_with fail
  (refine (type21_c p q b off cap _ (by go_simp) (by go_simp) ).mono ?_; rintro e u3 ⟨rfl, hb⟩; obtain ⟨hc, hf⟩ := Flow.bcell hb; have hz := hb.size; (try simp only [World.size_alloc, World.size_setCell, World.size_drew] at hz))
  have hown3 := own_below HO.out hb
  have hown4 := hown3.alloc (.cells #[iv (Rf.tmpTy q)] 3)
  have HO4 := Lib.hid hown4
  clear hown3 hown4 HO
  go_wp2_with (at_builtin; refine wpList_append_own _ rfl _ _ 39 rfl w.heap.size 3 i0 (.int .i64 0) 1 8 Tryz.underlying39 hi hz0 hz1 hz2 rfl (by decide) _ _ _ rfl HO4.out ⟨u3.heap.size, 0, none⟩ 1 1 [iv (Rf.tmpTy q)] rfl rfl ?d1 ?d2 ?d3 ?d4 ?d5 ?_)
  case d1 =>
    intro j u hj
    match j, hj with
    | 0, hj => simp at hj; subst hj; simp [Addr.add]
  case d2 => intro u hu; simp at hu; subst hu; rfl
  case d3 => unfold maxLen; omega
  case d4 => omega
  case d5 => simp; omega
  intro v2 w4 hown hgrow _
  have hvb : ∀ k, v'.ownBlock = some k → w.heap.size ≤ k := by
    intro k hk
    obtain ⟨_, h0 | ⟨g, cp, cur, rfl, hg, _⟩⟩ := HO4.out
    · omega
    · simp [Value.ownBlock] at hk; omega
  have hb4 : Below w.heap.size w w4 := (((hb2.trans (hb.mono (by omega))).alloc (by omega) _).grown hgrow (by simp; omega) hvb)
  obtain ⟨g, cp, rfl, hg, hcells⟩ := own_cells (ts := [Rf.tmpTy p, Rf.tmpTy q]) (by omega) hown
  clear hown hgrow
  go_wp2_with fail
  rw [rounds_succ]
  go_wp2_with fail
  go_ret
  exact ⟨g, cp, rfl, hcells, hg, hb4⟩
end Go.Proofs.YtboknfppecgjmaaGreat
namespace Go.Proofs.YtboknfppecgjmaaGreat
set_option linter.unusedVariables false
set_option linter.unusedSimpArgs false
open Go.RowKit Go.Shelf
set_option maxRecDepth 100000 in
theorem rbinary_c (op to p q : Int) (b off cap : Nat) (w : World) (c0 : w.cell? ⟨b, off, none⟩ = some (iv p)) (c1 : w.cell? ⟨b, off + 1, none⟩ = some (iv q)) :
    Calls Tryz.prog 73 #[iv op, .slice (some ⟨b, off, none⟩) 2 cap, iv to] w fun e w' => e = .returned (.bool (Rf.binary op p q to)) ∧ Below w.heap.size w w' := by
  have l0 := block_lt_of_cell c0
  simp only [] at l0
  go_enter Tryz.func73, Tryz.ntmps73
  go_wp2_with fail
  (refine (are2_c p q 32 32 b off cap _ 0 _ _ (by go_simp) (by go_simp) (by go_simp) (by go_simp) ).mono ?_; rintro e u1 ⟨rfl, hb⟩; obtain ⟨hc, hf⟩ := Flow.bcell hb; have hz := hb.size; (try simp only [World.size_alloc, World.size_setCell, World.size_drew] at hz))
  have l1 := Nat.lt_of_lt_of_le l0 (show w.heap.size ≤ u1.heap.size by omega)
  go_wp2_with fail
  (refine (are2_c p q 128 128 b off cap _ 0 _ _ (by go_simp) (by go_simp) (by go_simp) (by go_simp) ).mono ?_; rintro e u2 ⟨rfl, hb⟩; obtain ⟨hc, hf⟩ := Flow.bcell hb; have hz := hb.size; (try simp only [World.size_alloc, World.size_setCell, World.size_drew] at hz))
  have l2 := Nat.lt_of_lt_of_le l1 (show u1.heap.size ≤ u2.heap.size by omega)
  go_wp2_with (first | (go_at_call 76; refine (same2_c p q b off cap _ (by go_simp) (by go_simp) ).mono ?_; rintro e w1 ⟨rfl, hb⟩; obtain ⟨hc, hf⟩ := Flow.bcell hb; have hz := hb.size; (try simp only [World.size_alloc, World.size_setCell, World.size_drew] at hz)) | (go_at_call 74; refine (are2_c p q 128 32 b off cap _ 0 _ _ (by go_simp) (by go_simp) (by go_simp) (by go_simp) ).mono ?_; rintro e w1 ⟨rfl, hb⟩; obtain ⟨hc, hf⟩ := Flow.bcell hb; have hz := hb.size; (try simp only [World.size_alloc, World.size_setCell, World.size_drew] at hz)))
  all_goals go_ret
  all_goals (refine ⟨?_, by (repeat (first | exact Below.refl _ _ | refine Below.setCell ?_ (by first | omega | (simp <;> omega)) _ | refine Below.alloc ?_ (by first | omega | (simp <;> omega)) _ | refine Below.drew ?_ | refine Below.trans ?_ (Below.mono (by assumption) (by first | omega | (simp <;> omega)))))⟩)
  all_goals (go_tidy; first | (simp_all [Rf.binary]; done) | (simp_all [Rf.binary]; first | omega | grind))
end Go.Proofs.YtboknfppecgjmaaGreat
namespace Go.Proofs.YtboknfppecgjmaaGreat
set_option linter.unusedVariables false
set_option linter.unusedSimpArgs false
open Go.RowKit Go.Shelf
set_option maxRecDepth 100000 in
theorem exun_c (op p to off : Int) (b o cap B O C : Nat) (w : World) (c0 : w.cell? ⟨b, o, none⟩ = some (iv p))
    (a0 : w.cell? ⟨B, O, none⟩ = some (iv 0)) (a1 : w.cell? ⟨B, O + 1, none⟩ = some (iv 0)) (a2 : w.cell? ⟨B, O + 2, none⟩ = some (uv 0#32)) (a3 : w.cell? ⟨B, O + 3, none⟩ = some (uv 0#32)) (a4 : w.cell? ⟨B, O + 4, none⟩ = some (uv 0#32)) (a5 : w.cell? ⟨B, O + 5, none⟩ = some (uv 0#32)) :
    Calls Tryz.prog 36 #[.slice (some ⟨b, o, none⟩) 1 cap, .agg #[iv 3, iv to, iv op, iv off, .slice (some ⟨B, O, none⟩) 1 C]] w fun e w' => e = .returned (iv (Rf.exUn op p to off)) ∧ Below w.heap.size w w' := by
  have l0 := block_lt_of_cell c0
  have l1 := block_lt_of_cell a0
  simp only [] at l0 l1
  have m0 : b < w.heap.size + 1 := by omega
  have m1 : B < w.heap.size + 1 := by omega
  cases hu : Rf.unary op (Rf.tmpTy p) to
  · have HV := Lib.hid (show Rf.exUn op p to off = 0 by simp [Rf.exUn, hu])
    go_enter Tryz.func36, Tryz.ntmps36
    go_wp2_with fail
    refine (types1_c p b o cap B O C _ (by go_simp) (by go_simp) (by go_simp) (by go_simp) (by go_simp) (by go_simp) (by go_simp)).mono ?_
    rintro e w1 ⟨g, cp, rfl, hcells, hg, hb⟩
    obtain ⟨hc, hf⟩ := Flow.bcell hb
    have hz := hb.size
    simp only [World.size_alloc] at hz hg
    have z0 : w.heap.size < w1.heap.size := by omega
    have k0 := hcells 0 _ rfl
    clear hcells
    have lg := block_lt_of_cell k0
    simp only [] at lg
    go_wp2_with fail
    refine Flow.wp_region_below 20 (by kernel_rfl) (by kernel_rfl) (fun R hRc hRt => ?_)
    simp only [List.take_succ_cons, List.take_zero, List.drop_succ_cons, List.drop_zero]
    iterate 20
      first
        | refine Flow.flow_skip rfl ?_
        | (apply Flow.flow_step; rfl; (intro w1 hb; have hc := hRc.out w1 hb; go_simp; (first | with_reducible exact ⟨rfl, hb⟩ | (go_at_call 71; refine (runary_c _ _ _ _).mono ?_; rintro e w2 ⟨rfl, rfl⟩; exact ⟨_, rfl, rfl, hb⟩) | (go_at_call 72; refine (rword_c _ _ _).mono ?_; rintro e w2 ⟨rfl, rfl⟩; exact ⟨_, rfl, rfl, hb⟩))))
        | (apply Flow.flow_guardT rfl rfl rfl; (intro hg w1 hb; have hc := hRc.out w1 hb; go_simp; (first | with_reducible exact ⟨rfl, hb⟩ | (go_at_call 71; refine (runary_c _ _ _ _).mono ?_; rintro e w2 ⟨rfl, rfl⟩; exact ⟨_, rfl, rfl, hb⟩) | (go_at_call 72; refine (rword_c _ _ _).mono ?_; rintro e w2 ⟨rfl, rfl⟩; exact ⟨_, rfl, rfl, hb⟩))))
        | (apply Flow.flow_guardF rfl rfl rfl; (intro hg w1 hb; have hc := hRc.out w1 hb; go_simp; (first | with_reducible exact ⟨rfl, hb⟩ | (go_at_call 71; refine (runary_c _ _ _ _).mono ?_; rintro e w2 ⟨rfl, rfl⟩; exact ⟨_, rfl, rfl, hb⟩) | (go_at_call 72; refine (rword_c _ _ _).mono ?_; rintro e w2 ⟨rfl, rfl⟩; exact ⟨_, rfl, rfl, hb⟩))))
        | (apply Flow.flow_guardT2 rfl rfl rfl; (intro hp hg w1 hb; have hc := hRc.out w1 hb; go_simp; (first | with_reducible exact ⟨rfl, hb⟩ | (go_at_call 71; refine (runary_c _ _ _ _).mono ?_; rintro e w2 ⟨rfl, rfl⟩; exact ⟨_, rfl, rfl, hb⟩) | (go_at_call 72; refine (rword_c _ _ _).mono ?_; rintro e w2 ⟨rfl, rfl⟩; exact ⟨_, rfl, rfl, hb⟩))))
        | (apply Flow.flow_guardF2 rfl rfl rfl; (intro hp hg w1 hb; have hc := hRc.out w1 hb; go_simp; (first | with_reducible exact ⟨rfl, hb⟩ | (go_at_call 71; refine (runary_c _ _ _ _).mono ?_; rintro e w2 ⟨rfl, rfl⟩; exact ⟨_, rfl, rfl, hb⟩) | (go_at_call 72; refine (rword_c _ _ _).mono ?_; rintro e w2 ⟨rfl, rfl⟩; exact ⟨_, rfl, rfl, hb⟩))))
      simp only [Act.put, List.setIfInBounds_toArray, List.set_cons_zero, List.set_cons_succ]
    apply Flow.flow_nil
    clear hRc hRt
    intro w1 hb
    obtain ⟨hc, hf⟩ := Flow.bcell hb
    have hz := hb.size
    (try simp only [World.size_alloc, World.size_setCell, World.size_drew] at hz)
    obtain z0 := Flow.zs1 (show w.heap.size + 1 ≤ w1.heap.size by omega)
    go_wp2_with fail
    go_ret
    exact ⟨by rw [HV.out]; rfl, by (repeat (first | exact Below.refl _ _ | refine Below.setCell ?_ (by first | omega | (simp <;> omega)) _ | refine Below.alloc ?_ (by first | omega | (simp <;> omega)) _ | refine Below.drew ?_ | refine Below.trans ?_ (Below.mono (by assumption) (by first | omega | (simp <;> omega)))))⟩
  cases hw : Rf.word (op == 12) off
  · have HV := Lib.hid (show Rf.exUn op p to off = 0 by simp [Rf.exUn, hw])
    go_enter Tryz.func36, Tryz.ntmps36
    go_wp2_with fail
    refine (types1_c p b o cap B O C _ (by go_simp) (by go_simp) (by go_simp) (by go_simp) (by go_simp) (by go_simp) (by go_simp)).mono ?_
    rintro e w1 ⟨g, cp, rfl, hcells, hg, hb⟩
    obtain ⟨hc, hf⟩ := Flow.bcell hb
    have hz := hb.size
    simp only [World.size_alloc] at hz hg
    have z0 : w.heap.size < w1.heap.size := by omega
    have k0 := hcells 0 _ rfl
    clear hcells
    have lg := block_lt_of_cell k0
    simp only [] at lg
    go_wp2_with fail
    refine Flow.wp_region_below 20 (by kernel_rfl) (by kernel_rfl) (fun R hRc hRt => ?_)
    simp only [List.take_succ_cons, List.take_zero, List.drop_succ_cons, List.drop_zero]
    iterate 20
      first
        | refine Flow.flow_skip rfl ?_
        | (apply Flow.flow_step; rfl; (intro w1 hb; have hc := hRc.out w1 hb; go_simp; (first | with_reducible exact ⟨rfl, hb⟩ | (go_at_call 71; refine (runary_c _ _ _ _).mono ?_; rintro e w2 ⟨rfl, rfl⟩; exact ⟨_, rfl, rfl, hb⟩) | (go_at_call 72; refine (rword_c _ _ _).mono ?_; rintro e w2 ⟨rfl, rfl⟩; exact ⟨_, rfl, rfl, hb⟩))))
        | (apply Flow.flow_guardT rfl rfl rfl; (intro hg w1 hb; have hc := hRc.out w1 hb; go_simp; (first | with_reducible exact ⟨rfl, hb⟩ | (go_at_call 71; refine (runary_c _ _ _ _).mono ?_; rintro e w2 ⟨rfl, rfl⟩; exact ⟨_, rfl, rfl, hb⟩) | (go_at_call 72; refine (rword_c _ _ _).mono ?_; rintro e w2 ⟨rfl, rfl⟩; exact ⟨_, rfl, rfl, hb⟩))))
        | (apply Flow.flow_guardF rfl rfl rfl; (intro hg w1 hb; have hc := hRc.out w1 hb; go_simp; (first | with_reducible exact ⟨rfl, hb⟩ | (go_at_call 71; refine (runary_c _ _ _ _).mono ?_; rintro e w2 ⟨rfl, rfl⟩; exact ⟨_, rfl, rfl, hb⟩) | (go_at_call 72; refine (rword_c _ _ _).mono ?_; rintro e w2 ⟨rfl, rfl⟩; exact ⟨_, rfl, rfl, hb⟩))))
        | (apply Flow.flow_guardT2 rfl rfl rfl; (intro hp hg w1 hb; have hc := hRc.out w1 hb; go_simp; (first | with_reducible exact ⟨rfl, hb⟩ | (go_at_call 71; refine (runary_c _ _ _ _).mono ?_; rintro e w2 ⟨rfl, rfl⟩; exact ⟨_, rfl, rfl, hb⟩) | (go_at_call 72; refine (rword_c _ _ _).mono ?_; rintro e w2 ⟨rfl, rfl⟩; exact ⟨_, rfl, rfl, hb⟩))))
        | (apply Flow.flow_guardF2 rfl rfl rfl; (intro hp hg w1 hb; have hc := hRc.out w1 hb; go_simp; (first | with_reducible exact ⟨rfl, hb⟩ | (go_at_call 71; refine (runary_c _ _ _ _).mono ?_; rintro e w2 ⟨rfl, rfl⟩; exact ⟨_, rfl, rfl, hb⟩) | (go_at_call 72; refine (rword_c _ _ _).mono ?_; rintro e w2 ⟨rfl, rfl⟩; exact ⟨_, rfl, rfl, hb⟩))))
      simp only [Act.put, List.setIfInBounds_toArray, List.set_cons_zero, List.set_cons_succ]
    apply Flow.flow_nil
    clear hRc hRt
    intro w1 hb
    obtain ⟨hc, hf⟩ := Flow.bcell hb
    have hz := hb.size
    (try simp only [World.size_alloc, World.size_setCell, World.size_drew] at hz)
    obtain z0 := Flow.zs1 (show w.heap.size + 1 ≤ w1.heap.size by omega)
    go_wp2_with fail
    go_ret
    exact ⟨by rw [HV.out]; rfl, by (repeat (first | exact Below.refl _ _ | refine Below.setCell ?_ (by first | omega | (simp <;> omega)) _ | refine Below.alloc ?_ (by first | omega | (simp <;> omega)) _ | refine Below.drew ?_ | refine Below.trans ?_ (Below.mono (by assumption) (by first | omega | (simp <;> omega)))))⟩
  · have HV := Lib.hid (show Rf.exUn op p to off = to by simp [Rf.exUn, hu, hw])
    go_enter Tryz.func36, Tryz.ntmps36
    go_wp2_with fail
    refine (types1_c p b o cap B O C _ (by go_simp) (by go_simp) (by go_simp) (by go_simp) (by go_simp) (by go_simp) (by go_simp)).mono ?_
    rintro e w1 ⟨g, cp, rfl, hcells, hg, hb⟩
    obtain ⟨hc, hf⟩ := Flow.bcell hb
    have hz := hb.size
    simp only [World.size_alloc] at hz hg
    have z0 : w.heap.size < w1.heap.size := by omega
    have k0 := hcells 0 _ rfl
    clear hcells
    have lg := block_lt_of_cell k0
    simp only [] at lg
    go_wp2_with fail
    refine Flow.wp_region_below 20 (by kernel_rfl) (by kernel_rfl) (fun R hRc hRt => ?_)
    simp only [List.take_succ_cons, List.take_zero, List.drop_succ_cons, List.drop_zero]
    iterate 20
      first
        | refine Flow.flow_skip rfl ?_
        | (apply Flow.flow_step; rfl; (intro w1 hb; have hc := hRc.out w1 hb; go_simp; (first | with_reducible exact ⟨rfl, hb⟩ | (go_at_call 71; refine (runary_c _ _ _ _).mono ?_; rintro e w2 ⟨rfl, rfl⟩; exact ⟨_, rfl, rfl, hb⟩) | (go_at_call 72; refine (rword_c _ _ _).mono ?_; rintro e w2 ⟨rfl, rfl⟩; exact ⟨_, rfl, rfl, hb⟩))))
        | (apply Flow.flow_guardT rfl rfl rfl; (intro hg w1 hb; have hc := hRc.out w1 hb; go_simp; (first | with_reducible exact ⟨rfl, hb⟩ | (go_at_call 71; refine (runary_c _ _ _ _).mono ?_; rintro e w2 ⟨rfl, rfl⟩; exact ⟨_, rfl, rfl, hb⟩) | (go_at_call 72; refine (rword_c _ _ _).mono ?_; rintro e w2 ⟨rfl, rfl⟩; exact ⟨_, rfl, rfl, hb⟩))))
        | (apply Flow.flow_guardF rfl rfl rfl; (intro hg w1 hb; have hc := hRc.out w1 hb; go_simp; (first | with_reducible exact ⟨rfl, hb⟩ | (go_at_call 71; refine (runary_c _ _ _ _).mono ?_; rintro e w2 ⟨rfl, rfl⟩; exact ⟨_, rfl, rfl, hb⟩) | (go_at_call 72; refine (rword_c _ _ _).mono ?_; rintro e w2 ⟨rfl, rfl⟩; exact ⟨_, rfl, rfl, hb⟩))))
        | (apply Flow.flow_guardT2 rfl rfl rfl; (intro hp hg w1 hb; have hc := hRc.out w1 hb; go_simp; (first | with_reducible exact ⟨rfl, hb⟩ | (go_at_call 71; refine (runary_c _ _ _ _).mono ?_; rintro e w2 ⟨rfl, rfl⟩; exact ⟨_, rfl, rfl, hb⟩) | (go_at_call 72; refine (rword_c _ _ _).mono ?_; rintro e w2 ⟨rfl, rfl⟩; exact ⟨_, rfl, rfl, hb⟩))))
        | (apply Flow.flow_guardF2 rfl rfl rfl; (intro hp hg w1 hb; have hc := hRc.out w1 hb; go_simp; (first | with_reducible exact ⟨rfl, hb⟩ | (go_at_call 71; refine (runary_c _ _ _ _).mono ?_; rintro e w2 ⟨rfl, rfl⟩; exact ⟨_, rfl, rfl, hb⟩) | (go_at_call 72; refine (rword_c _ _ _).mono ?_; rintro e w2 ⟨rfl, rfl⟩; exact ⟨_, rfl, rfl, hb⟩))))
      simp only [Act.put, List.setIfInBounds_toArray, List.set_cons_zero, List.set_cons_succ]
    apply Flow.flow_nil
    clear hRc hRt
    intro w1 hb
    obtain ⟨hc, hf⟩ := Flow.bcell hb
    have hz := hb.size
    (try simp only [World.size_alloc, World.size_setCell, World.size_drew] at hz)
    obtain z0 := Flow.zs1 (show w.heap.size + 1 ≤ w1.heap.size by omega)
    go_wp2_with fail
    go_ret
    exact ⟨by rw [HV.out]; rfl, by (repeat (first | exact Below.refl _ _ | refine Below.setCell ?_ (by first | omega | (simp <;> omega)) _ | refine Below.alloc ?_ (by first | omega | (simp <;> omega)) _ | refine Below.drew ?_ | refine Below.trans ?_ (Below.mono (by assumption) (by first | omega | (simp <;> omega)))))⟩
set_option maxRecDepth 100000 in
theorem exbin_u (op p q to off : Int) (b o cap B O C : Nat) (w : World) (c0 : w.cell? ⟨b, o, none⟩ = some (iv p)) (c1 : w.cell? ⟨b, o + 1, none⟩ = some (iv q)) (H : Atoms2 B O w) (hu : Rf.binary op (Rf.tmpTy p) (Rf.tmpTy q) to = false) :
    Calls Tryz.prog 36 #[.slice (some ⟨b, o, none⟩) 2 cap, .agg #[iv 4, iv to, iv op, iv off, .slice (some ⟨B, O, none⟩) 2 C]] w fun e w' => e = .returned (iv (Rf.exBin op p q to off)) ∧ Below w.heap.size w w' := by
  obtain ⟨a0, a1, a2, a3, a4, a5, b0, b1, b2, b3, b4, b5⟩ := H
  have l0 := block_lt_of_cell c0
  have l1 := block_lt_of_cell a0
  simp only [] at l0 l1
  have m0 : b < w.heap.size + 1 := by omega
  have m1 : B < w.heap.size + 1 := by omega
  have HV := Lib.hid (show Rf.exBin op p q to off = 0 by simp [Rf.exBin, hu])
  go_enter Tryz.func36, Tryz.ntmps36
  go_wp2_with fail
  refine (types2_c p q b o cap B O C _ (by go_simp) (by go_simp) ⟨by go_simp, by go_simp, by go_simp, by go_simp, by go_simp, by go_simp, by go_simp, by go_simp, by go_simp, by go_simp, by go_simp, by go_simp⟩).mono ?_
  rintro e w1 ⟨g, cp, rfl, hcells, hg, hb⟩
  obtain ⟨hc, hf⟩ := Flow.bcell hb
  have hz := hb.size
  simp only [World.size_alloc] at hz hg
  have z0 : w.heap.size < w1.heap.size := by omega
  have k0 := hcells 0 _ rfl
  have k1 := hcells 1 _ rfl
  clear hcells
  have lg := block_lt_of_cell k0
  simp only [] at lg
  go_wp2_with fail
  (refine (rbinary_c _ _ (Rf.tmpTy p) (Rf.tmpTy q) g 0 cp _ (by go_simp) (by go_simp) ).mono ?_; rintro e u1 ⟨rfl, hb⟩; obtain ⟨hc, hf⟩ := Flow.bcell hb; have hz := hb.size; (try simp only [World.size_alloc, World.size_setCell, World.size_drew] at hz); obtain z0 := Flow.zs1 (show w.heap.size + 1 ≤ u1.heap.size by omega))
  have z1 : w.heap.size < u1.heap.size := by omega
  go_wp2_with (go_at_call 72; refine (rword_c _ _ _).mono ?_; rintro e w1 ⟨rfl, rfl⟩)
  go_ret
  exact ⟨by rw [HV.out]; rfl, by (repeat (first | exact Below.refl _ _ | refine Below.setCell ?_ (by first | omega | (simp <;> omega)) _ | refine Below.alloc ?_ (by first | omega | (simp <;> omega)) _ | refine Below.drew ?_ | refine Below.trans ?_ (Below.mono (by assumption) (by first | omega | (simp <;> omega)))))⟩
set_option maxRecDepth 100000 in
theorem exbin_w (op p q to off : Int) (b o cap B O C : Nat) (w : World) (c0 : w.cell? ⟨b, o, none⟩ = some (iv p)) (c1 : w.cell? ⟨b, o + 1, none⟩ = some (iv q)) (H : Atoms2 B O w) (hu : Rf.binary op (Rf.tmpTy p) (Rf.tmpTy q) to = true) (hw : Rf.word (op == 30) off = false) :
    Calls Tryz.prog 36 #[.slice (some ⟨b, o, none⟩) 2 cap, .agg #[iv 4, iv to, iv op, iv off, .slice (some ⟨B, O, none⟩) 2 C]] w fun e w' => e = .returned (iv (Rf.exBin op p q to off)) ∧ Below w.heap.size w w' := by
  obtain ⟨a0, a1, a2, a3, a4, a5, b0, b1, b2, b3, b4, b5⟩ := H
  have l0 := block_lt_of_cell c0
  have l1 := block_lt_of_cell a0
  simp only [] at l0 l1
  have m0 : b < w.heap.size + 1 := by omega
  have m1 : B < w.heap.size + 1 := by omega
  have HV := Lib.hid (show Rf.exBin op p q to off = 0 by simp [Rf.exBin, hw])
  go_enter Tryz.func36, Tryz.ntmps36
  go_wp2_with fail
  refine (types2_c p q b o cap B O C _ (by go_simp) (by go_simp) ⟨by go_simp, by go_simp, by go_simp, by go_simp, by go_simp, by go_simp, by go_simp, by go_simp, by go_simp, by go_simp, by go_simp, by go_simp⟩).mono ?_
  rintro e w1 ⟨g, cp, rfl, hcells, hg, hb⟩
  obtain ⟨hc, hf⟩ := Flow.bcell hb
  have hz := hb.size
  simp only [World.size_alloc] at hz hg
  have z0 : w.heap.size < w1.heap.size := by omega
  have k0 := hcells 0 _ rfl
  have k1 := hcells 1 _ rfl
  clear hcells
  have lg := block_lt_of_cell k0
  simp only [] at lg
  go_wp2_with fail
  (refine (rbinary_c _ _ (Rf.tmpTy p) (Rf.tmpTy q) g 0 cp _ (by go_simp) (by go_simp) ).mono ?_; rintro e u1 ⟨rfl, hb⟩; obtain ⟨hc, hf⟩ := Flow.bcell hb; have hz := hb.size; (try simp only [World.size_alloc, World.size_setCell, World.size_drew] at hz); obtain z0 := Flow.zs1 (show w.heap.size + 1 ≤ u1.heap.size by omega))
  have z1 : w.heap.size < u1.heap.size := by omega
  go_wp2_with (go_at_call 72; refine (rword_c _ _ _).mono ?_; rintro e w1 ⟨rfl, rfl⟩)
  go_ret
  exact ⟨by rw [HV.out]; rfl, by (repeat (first | exact Below.refl _ _ | refine Below.setCell ?_ (by first | omega | (simp <;> omega)) _ | refine Below.alloc ?_ (by first | omega | (simp <;> omega)) _ | refine Below.drew ?_ | refine Below.trans ?_ (Below.mono (by assumption) (by first | omega | (simp <;> omega)))))⟩
set_option maxRecDepth 100000 in
theorem exbin_y (op p q to off : Int) (b o cap B O C : Nat) (w : World) (c0 : w.cell? ⟨b, o, none⟩ = some (iv p)) (c1 : w.cell? ⟨b, o + 1, none⟩ = some (iv q)) (H : Atoms2 B O w) (hu : Rf.binary op (Rf.tmpTy p) (Rf.tmpTy q) to = true) (hw : Rf.word (op == 30) off = true) :
    Calls Tryz.prog 36 #[.slice (some ⟨b, o, none⟩) 2 cap, .agg #[iv 4, iv to, iv op, iv off, .slice (some ⟨B, O, none⟩) 2 C]] w fun e w' => e = .returned (iv (Rf.exBin op p q to off)) ∧ Below w.heap.size w w' := by
  obtain ⟨a0, a1, a2, a3, a4, a5, b0, b1, b2, b3, b4, b5⟩ := H
  have l0 := block_lt_of_cell c0
  have l1 := block_lt_of_cell a0
  simp only [] at l0 l1
  have m0 : b < w.heap.size + 1 := by omega
  have m1 : B < w.heap.size + 1 := by omega
  have HV := Lib.hid (show Rf.exBin op p q to off = to by simp [Rf.exBin, hu, hw])
  go_enter Tryz.func36, Tryz.ntmps36
  go_wp2_with fail
  refine (types2_c p q b o cap B O C _ (by go_simp) (by go_simp) ⟨by go_simp, by go_simp, by go_simp, by go_simp, by go_simp, by go_simp, by go_simp, by go_simp, by go_simp, by go_simp, by go_simp, by go_simp⟩).mono ?_
  rintro e w1 ⟨g, cp, rfl, hcells, hg, hb⟩
  obtain ⟨hc, hf⟩ := Flow.bcell hb
  have hz := hb.size
  simp only [World.size_alloc] at hz hg
  have z0 : w.heap.size < w1.heap.size := by omega
  have k0 := hcells 0 _ rfl
  have k1 := hcells 1 _ rfl
  clear hcells
  have lg := block_lt_of_cell k0
  simp only [] at lg
  go_wp2_with fail
  (refine (rbinary_c _ _ (Rf.tmpTy p) (Rf.tmpTy q) g 0 cp _ (by go_simp) (by go_simp) ).mono ?_; rintro e u1 ⟨rfl, hb⟩; obtain ⟨hc, hf⟩ := Flow.bcell hb; have hz := hb.size; (try simp only [World.size_alloc, World.size_setCell, World.size_drew] at hz); obtain z0 := Flow.zs1 (show w.heap.size + 1 ≤ u1.heap.size by omega))
  have z1 : w.heap.size < u1.heap.size := by omega
  go_wp2_with (go_at_call 72; refine (rword_c _ _ _).mono ?_; rintro e w1 ⟨rfl, rfl⟩)
  go_ret
  exact ⟨by rw [HV.out]; rfl, by (repeat (first | exact Below.refl _ _ | refine Below.setCell ?_ (by first | omega | (simp <;> omega)) _ | refine Below.alloc ?_ (by first | omega | (simp <;> omega)) _ | refine Below.drew ?_ | refine Below.trans ?_ (Below.mono (by assumption) (by first | omega | (simp <;> omega)))))⟩
theorem exbin_c (op p q to off : Int) (b o cap B O C : Nat) (w : World) (c0 : w.cell? ⟨b, o, none⟩ = some (iv p)) (c1 : w.cell? ⟨b, o + 1, none⟩ = some (iv q)) (H : Atoms2 B O w) :
    Calls Tryz.prog 36 #[.slice (some ⟨b, o, none⟩) 2 cap, .agg #[iv 4, iv to, iv op, iv off, .slice (some ⟨B, O, none⟩) 2 C]] w fun e w' => e = .returned (iv (Rf.exBin op p q to off)) ∧ Below w.heap.size w w' := by
  cases hu : Rf.binary op (Rf.tmpTy p) (Rf.tmpTy q) to
  · exact exbin_u op p q to off b o cap B O C w c0 c1 H hu
  cases hw : Rf.word (op == 30) off
  · exact exbin_w op p q to off b o cap B O C w c0 c1 H hu hw
  · exact exbin_y op p q to off b o cap B O C w c0 c1 H hu hw
end Go.Proofs.YtboknfppecgjmaaGreat
