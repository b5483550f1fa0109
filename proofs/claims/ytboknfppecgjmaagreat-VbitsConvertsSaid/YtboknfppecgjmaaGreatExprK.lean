/- ExprType of the reference candlingref10, walked for a unary and a binary expression of constants. -/
import Derived.Test.YtboknfppecgjmaaGreatExTypesK
import Derived.Test.YtboknfppecgjmaaGreatExBin
namespace Go.Proofs.YtboknfppecgjmaaGreat
set_option linter.unusedVariables false
set_option linter.unusedSimpArgs false
open Go.RowKit Go.Shelf
set_option maxRecDepth 100000 in
set_option maxHeartbeats 8000000 in
theorem exkun_c (op p to off : Int) (B O C : Nat) (w : World)
    (a0 : w.cell? ⟨B, O, none⟩ = some (.int .i64 (-1))) (a1 : w.cell? ⟨B, O + 1, none⟩ = some (iv p)) (a2 : w.cell? ⟨B, O + 2, none⟩ = some (uv 0#32)) (a3 : w.cell? ⟨B, O + 3, none⟩ = some (uv 0#32)) (a4 : w.cell? ⟨B, O + 4, none⟩ = some (uv 0#32)) (a5 : w.cell? ⟨B, O + 5, none⟩ = some (uv 0#32)) :
    Calls Tryz.prog 36 #[.slice none 0 0, .agg #[iv 3, iv to, iv op, iv off, .slice (some ⟨B, O, none⟩) 1 C]] w fun e w' => e = .returned (iv (Rf.exUn op p to off)) ∧ Below w.heap.size w w' := by
  have l1 := block_lt_of_cell a0
  simp only [] at l1
  have m1 : B < w.heap.size + 1 := by omega
  cases hu : Rf.unary op (Rf.tmpTy p) to
  · have HV := Lib.hid (show Rf.exUn op p to off = 0 by simp [Rf.exUn, hu])
    go_enter Tryz.func36, Tryz.ntmps36
    go_wp2_with fail
    refine (types1k_c p B O C _ (by go_simp) (by go_simp) (by go_simp) (by go_simp) (by go_simp) (by go_simp)).mono ?_
    rintro e w1 ⟨g, cp, rfl, hcells, hg, hb⟩
    obtain ⟨hc, hf⟩ := Flow.bcell hb
    have hz := hb.size
    simp only [World.size_alloc] at hz hg
    have z0 : w.heap.size < w1.heap.size := by omega
    have k0 := hcells 0 _ rfl
    clear hcells
    have lg := block_lt_of_cell k0
    simp only [] at lg
    go_wp2_with fail
    refine Flow.wp_region_below 20 (by kernel_rfl) (by kernel_rfl) (fun R hRc hRt => ?_)
    simp only [List.take_succ_cons, List.take_zero, List.drop_succ_cons, List.drop_zero]
    iterate 20
      first
        | refine Flow.flow_skip rfl ?_
        | (apply Flow.flow_step; rfl; (intro w1 hb; have hc := hRc.out w1 hb; go_simp; (first | with_reducible exact ⟨rfl, hb⟩ | (go_at_call 71; refine (runary_c _ _ _ _).mono ?_; rintro e w2 ⟨rfl, rfl⟩; exact ⟨_, rfl, rfl, hb⟩) | (go_at_call 72; refine (rword_c _ _ _).mono ?_; rintro e w2 ⟨rfl, rfl⟩; exact ⟨_, rfl, rfl, hb⟩))))
        | (apply Flow.flow_guardT rfl rfl rfl; (intro hg w1 hb; have hc := hRc.out w1 hb; go_simp; (first | with_reducible exact ⟨rfl, hb⟩ | (go_at_call 71; refine (runary_c _ _ _ _).mono ?_; rintro e w2 ⟨rfl, rfl⟩; exact ⟨_, rfl, rfl, hb⟩) | (go_at_call 72; refine (rword_c _ _ _).mono ?_; rintro e w2 ⟨rfl, rfl⟩; exact ⟨_, rfl, rfl, hb⟩))))
        | (apply Flow.flow_guardF rfl rfl rfl; (intro hg w1 hb; have hc := hRc.out w1 hb; go_simp; (first | with_reducible exact ⟨rfl, hb⟩ | (go_at_call 71; refine (runary_c _ _ _ _).mono ?_; rintro e w2 ⟨rfl, rfl⟩; exact ⟨_, rfl, rfl, hb⟩) | (go_at_call 72; refine (rword_c _ _ _).mono ?_; rintro e w2 ⟨rfl, rfl⟩; exact ⟨_, rfl, rfl, hb⟩))))
        | (apply Flow.flow_guardT2 rfl rfl rfl; (intro hp hg w1 hb; have hc := hRc.out w1 hb; go_simp; (first | with_reducible exact ⟨rfl, hb⟩ | (go_at_call 71; refine (runary_c _ _ _ _).mono ?_; rintro e w2 ⟨rfl, rfl⟩; exact ⟨_, rfl, rfl, hb⟩) | (go_at_call 72; refine (rword_c _ _ _).mono ?_; rintro e w2 ⟨rfl, rfl⟩; exact ⟨_, rfl, rfl, hb⟩))))
        | (apply Flow.flow_guardF2 rfl rfl rfl; (intro hp hg w1 hb; have hc := hRc.out w1 hb; go_simp; (first | with_reducible exact ⟨rfl, hb⟩ | (go_at_call 71; refine (runary_c _ _ _ _).mono ?_; rintro e w2 ⟨rfl, rfl⟩; exact ⟨_, rfl, rfl, hb⟩) | (go_at_call 72; refine (rword_c _ _ _).mono ?_; rintro e w2 ⟨rfl, rfl⟩; exact ⟨_, rfl, rfl, hb⟩))))
      simp only [Act.put, List.setIfInBounds_toArray, List.set_cons_zero, List.set_cons_succ]
    apply Flow.flow_nil
    clear hRc hRt
    intro w1 hb
    obtain ⟨hc, hf⟩ := Flow.bcell hb
    have hz := hb.size
    (try simp only [World.size_alloc, World.size_setCell, World.size_drew] at hz)
    obtain z0 := Flow.zs1 (show w.heap.size + 1 ≤ w1.heap.size by omega)
    go_wp2_with fail
    go_ret
    exact ⟨by rw [HV.out]; rfl, by (repeat (first | exact Below.refl _ _ | refine Below.setCell ?_ (by first | omega | (simp <;> omega)) _ | refine Below.alloc ?_ (by first | omega | (simp <;> omega)) _ | refine Below.drew ?_ | refine Below.trans ?_ (Below.mono (by assumption) (by first | omega | (simp <;> omega)))))⟩
  cases hw : Rf.word (op == 12) off
  · have HV := Lib.hid (show Rf.exUn op p to off = 0 by simp [Rf.exUn, hw])
    go_enter Tryz.func36, Tryz.ntmps36
    go_wp2_with fail
    refine (types1k_c p B O C _ (by go_simp) (by go_simp) (by go_simp) (by go_simp) (by go_simp) (by go_simp)).mono ?_
    rintro e w1 ⟨g, cp, rfl, hcells, hg, hb⟩
    obtain ⟨hc, hf⟩ := Flow.bcell hb
    have hz := hb.size
    simp only [World.size_alloc] at hz hg
    have z0 : w.heap.size < w1.heap.size := by omega
    have k0 := hcells 0 _ rfl
    clear hcells
    have lg := block_lt_of_cell k0
    simp only [] at lg
    go_wp2_with fail
    refine Flow.wp_region_below 20 (by kernel_rfl) (by kernel_rfl) (fun R hRc hRt => ?_)
    simp only [List.take_succ_cons, List.take_zero, List.drop_succ_cons, List.drop_zero]
    iterate 20
      first
        | refine Flow.flow_skip rfl ?_
        | (apply Flow.flow_step; rfl; (intro w1 hb; have hc := hRc.out w1 hb; go_simp; (first | with_reducible exact ⟨rfl, hb⟩ | (go_at_call 71; refine (runary_c _ _ _ _).mono ?_; rintro e w2 ⟨rfl, rfl⟩; exact ⟨_, rfl, rfl, hb⟩) | (go_at_call 72; refine (rword_c _ _ _).mono ?_; rintro e w2 ⟨rfl, rfl⟩; exact ⟨_, rfl, rfl, hb⟩))))
        | (apply Flow.flow_guardT rfl rfl rfl; (intro hg w1 hb; have hc := hRc.out w1 hb; go_simp; (first | with_reducible exact ⟨rfl, hb⟩ | (go_at_call 71; refine (runary_c _ _ _ _).mono ?_; rintro e w2 ⟨rfl, rfl⟩; exact ⟨_, rfl, rfl, hb⟩) | (go_at_call 72; refine (rword_c _ _ _).mono ?_; rintro e w2 ⟨rfl, rfl⟩; exact ⟨_, rfl, rfl, hb⟩))))
        | (apply Flow.flow_guardF rfl rfl rfl; (intro hg w1 hb; have hc := hRc.out w1 hb; go_simp; (first | with_reducible exact ⟨rfl, hb⟩ | (go_at_call 71; refine (runary_c _ _ _ _).mono ?_; rintro e w2 ⟨rfl, rfl⟩; exact ⟨_, rfl, rfl, hb⟩) | (go_at_call 72; refine (rword_c _ _ _).mono ?_; rintro e w2 ⟨rfl, rfl⟩; exact ⟨_, rfl, rfl, hb⟩))))
        | (apply Flow.flow_guardT2 rfl rfl rfl; (intro hp hg w1 hb; have hc := hRc.out w1 hb; go_simp; (first | with_reducible exact ⟨rfl, hb⟩ | (go_at_call 71; refine (runary_c _ _ _ _).mono ?_; rintro e w2 ⟨rfl, rfl⟩; exact ⟨_, rfl, rfl, hb⟩) | (go_at_call 72; refine (rword_c _ _ _).mono ?_; rintro e w2 ⟨rfl, rfl⟩; exact ⟨_, rfl, rfl, hb⟩))))
        | (apply Flow.flow_guardF2 rfl rfl rfl; (intro hp hg w1 hb; have hc := hRc.out w1 hb; go_simp; (first | with_reducible exact ⟨rfl, hb⟩ | (go_at_call 71; refine (runary_c _ _ _ _).mono ?_; rintro e w2 ⟨rfl, rfl⟩; exact ⟨_, rfl, rfl, hb⟩) | (go_at_call 72; refine (rword_c _ _ _).mono ?_; rintro e w2 ⟨rfl, rfl⟩; exact ⟨_, rfl, rfl, hb⟩))))
      simp only [Act.put, List.setIfInBounds_toArray, List.set_cons_zero, List.set_cons_succ]
    apply Flow.flow_nil
    clear hRc hRt
    intro w1 hb
    obtain ⟨hc, hf⟩ := Flow.bcell hb
    have hz := hb.size
    (try simp only [World.size_alloc, World.size_setCell, World.size_drew] at hz)
    obtain z0 := Flow.zs1 (show w.heap.size + 1 ≤ w1.heap.size by omega)
    go_wp2_with fail
    go_ret
    exact ⟨by rw [HV.out]; rfl, by (repeat (first | exact Below.refl _ _ | refine Below.setCell ?_ (by first | omega | (simp <;> omega)) _ | refine Below.alloc ?_ (by first | omega | (simp <;> omega)) _ | refine Below.drew ?_ | refine Below.trans ?_ (Below.mono (by assumption) (by first | omega | (simp <;> omega)))))⟩
  · have HV := Lib.hid (show Rf.exUn op p to off = to by simp [Rf.exUn, hu, hw])
    go_enter Tryz.func36, Tryz.ntmps36
    go_wp2_with fail
    refine (types1k_c p B O C _ (by go_simp) (by go_simp) (by go_simp) (by go_simp) (by go_simp) (by go_simp)).mono ?_
    rintro e w1 ⟨g, cp, rfl, hcells, hg, hb⟩
    obtain ⟨hc, hf⟩ := Flow.bcell hb
    have hz := hb.size
    simp only [World.size_alloc] at hz hg
    have z0 : w.heap.size < w1.heap.size := by omega
    have k0 := hcells 0 _ rfl
    clear hcells
    have lg := block_lt_of_cell k0
    simp only [] at lg
    go_wp2_with fail
    refine Flow.wp_region_below 20 (by kernel_rfl) (by kernel_rfl) (fun R hRc hRt => ?_)
    simp only [List.take_succ_cons, List.take_zero, List.drop_succ_cons, List.drop_zero]
    iterate 20
      first
        | refine Flow.flow_skip rfl ?_
        | (apply Flow.flow_step; rfl; (intro w1 hb; have hc := hRc.out w1 hb; go_simp; (first | with_reducible exact ⟨rfl, hb⟩ | (go_at_call 71; refine (runary_c _ _ _ _).mono ?_; rintro e w2 ⟨rfl, rfl⟩; exact ⟨_, rfl, rfl, hb⟩) | (go_at_call 72; refine (rword_c _ _ _).mono ?_; rintro e w2 ⟨rfl, rfl⟩; exact ⟨_, rfl, rfl, hb⟩))))
        | (apply Flow.flow_guardT rfl rfl rfl; (intro hg w1 hb; have hc := hRc.out w1 hb; go_simp; (first | with_reducible exact ⟨rfl, hb⟩ | (go_at_call 71; refine (runary_c _ _ _ _).mono ?_; rintro e w2 ⟨rfl, rfl⟩; exact ⟨_, rfl, rfl, hb⟩) | (go_at_call 72; refine (rword_c _ _ _).mono ?_; rintro e w2 ⟨rfl, rfl⟩; exact ⟨_, rfl, rfl, hb⟩))))
        | (apply Flow.flow_guardF rfl rfl rfl; (intro hg w1 hb; have hc := hRc.out w1 hb; go_simp; (first | with_reducible exact ⟨rfl, hb⟩ | (go_at_call 71; refine (runary_c _ _ _ _).mono ?_; rintro e w2 ⟨rfl, rfl⟩; exact ⟨_, rfl, rfl, hb⟩) | (go_at_call 72; refine (rword_c _ _ _).mono ?_; rintro e w2 ⟨rfl, rfl⟩; exact ⟨_, rfl, rfl, hb⟩))))
        | (apply Flow.flow_guardT2 rfl rfl rfl; (intro hp hg w1 hb; have hc := hRc.out w1 hb; go_simp; (first | with_reducible exact ⟨rfl, hb⟩ | (go_at_call 71; refine (runary_c _ _ _ _).mono ?_; rintro e w2 ⟨rfl, rfl⟩; exact ⟨_, rfl, rfl, hb⟩) | (go_at_call 72; refine (rword_c _ _ _).mono ?_; rintro e w2 ⟨rfl, rfl⟩; exact ⟨_, rfl, rfl, hb⟩))))
        | (apply Flow.flow_guardF2 rfl rfl rfl; (intro hp hg w1 hb; have hc := hRc.out w1 hb; go_simp; (first | with_reducible exact ⟨rfl, hb⟩ | (go_at_call 71; refine (runary_c _ _ _ _).mono ?_; rintro e w2 ⟨rfl, rfl⟩; exact ⟨_, rfl, rfl, hb⟩) | (go_at_call 72; refine (rword_c _ _ _).mono ?_; rintro e w2 ⟨rfl, rfl⟩; exact ⟨_, rfl, rfl, hb⟩))))
      simp only [Act.put, List.setIfInBounds_toArray, List.set_cons_zero, List.set_cons_succ]
    apply Flow.flow_nil
    clear hRc hRt
    intro w1 hb
    obtain ⟨hc, hf⟩ := Flow.bcell hb
    have hz := hb.size
    (try simp only [World.size_alloc, World.size_setCell, World.size_drew] at hz)
    obtain z0 := Flow.zs1 (show w.heap.size + 1 ≤ w1.heap.size by omega)
    go_wp2_with fail
    go_ret
    exact ⟨by rw [HV.out]; rfl, by (repeat (first | exact Below.refl _ _ | refine Below.setCell ?_ (by first | omega | (simp <;> omega)) _ | refine Below.alloc ?_ (by first | omega | (simp <;> omega)) _ | refine Below.drew ?_ | refine Below.trans ?_ (Below.mono (by assumption) (by first | omega | (simp <;> omega)))))⟩
set_option maxRecDepth 100000 in
set_option maxHeartbeats 8000000 in
theorem exkbin_u (op p q to off : Int) (B O C : Nat) (w : World) (H : Atoms2K p q B O w) (hu : Rf.binary op (Rf.tmpTy p) (Rf.tmpTy q) to = false) :
    Calls Tryz.prog 36 #[.slice none 0 0, .agg #[iv 4, iv to, iv op, iv off, .slice (some ⟨B, O, none⟩) 2 C]] w fun e w' => e = .returned (iv (Rf.exBin op p q to off)) ∧ Below w.heap.size w w' := by
  obtain ⟨a0, a1, a2, a3, a4, a5, b0, b1, b2, b3, b4, b5⟩ := H
  have l1 := block_lt_of_cell a0
  simp only [] at l1
  have m1 : B < w.heap.size + 1 := by omega
  have HV := Lib.hid (show Rf.exBin op p q to off = 0 by simp [Rf.exBin, hu])
  go_enter Tryz.func36, Tryz.ntmps36
  go_wp2_with fail
  refine (types2k_c p q B O C _ ⟨by go_simp, by go_simp, by go_simp, by go_simp, by go_simp, by go_simp, by go_simp, by go_simp, by go_simp, by go_simp, by go_simp, by go_simp⟩).mono ?_
  rintro e w1 ⟨g, cp, rfl, hcells, hg, hb⟩
  obtain ⟨hc, hf⟩ := Flow.bcell hb
  have hz := hb.size
  simp only [World.size_alloc] at hz hg
  have z0 : w.heap.size < w1.heap.size := by omega
  have k0 := hcells 0 _ rfl
  have k1 := hcells 1 _ rfl
  clear hcells
  have lg := block_lt_of_cell k0
  simp only [] at lg
  go_wp2_with fail
  (refine (rbinary_c _ _ (Rf.tmpTy p) (Rf.tmpTy q) g 0 cp _ (by go_simp) (by go_simp) ).mono ?_; rintro e u1 ⟨rfl, hb⟩; obtain ⟨hc, hf⟩ := Flow.bcell hb; have hz := hb.size; (try simp only [World.size_alloc, World.size_setCell, World.size_drew] at hz); obtain z0 := Flow.zs1 (show w.heap.size + 1 ≤ u1.heap.size by omega))
  have z1 : w.heap.size < u1.heap.size := by omega
  go_wp2_with (go_at_call 72; refine (rword_c _ _ _).mono ?_; rintro e w1 ⟨rfl, rfl⟩)
  go_ret
  exact ⟨by rw [HV.out]; rfl, by (repeat (first | exact Below.refl _ _ | refine Below.setCell ?_ (by first | omega | (simp <;> omega)) _ | refine Below.alloc ?_ (by first | omega | (simp <;> omega)) _ | refine Below.drew ?_ | refine Below.trans ?_ (Below.mono (by assumption) (by first | omega | (simp <;> omega)))))⟩
set_option maxRecDepth 100000 in
set_option maxHeartbeats 8000000 in
theorem exkbin_w (op p q to off : Int) (B O C : Nat) (w : World) (H : Atoms2K p q B O w) (hu : Rf.binary op (Rf.tmpTy p) (Rf.tmpTy q) to = true) (hw : Rf.word (op == 30) off = false) :
    Calls Tryz.prog 36 #[.slice none 0 0, .agg #[iv 4, iv to, iv op, iv off, .slice (some ⟨B, O, none⟩) 2 C]] w fun e w' => e = .returned (iv (Rf.exBin op p q to off)) ∧ Below w.heap.size w w' := by
  obtain ⟨a0, a1, a2, a3, a4, a5, b0, b1, b2, b3, b4, b5⟩ := H
  have l1 := block_lt_of_cell a0
  simp only [] at l1
  have m1 : B < w.heap.size + 1 := by omega
  have HV := Lib.hid (show Rf.exBin op p q to off = 0 by simp [Rf.exBin, hw])
  go_enter Tryz.func36, Tryz.ntmps36
  go_wp2_with fail
  refine (types2k_c p q B O C _ ⟨by go_simp, by go_simp, by go_simp, by go_simp, by go_simp, by go_simp, by go_simp, by go_simp, by go_simp, by go_simp, by go_simp, by go_simp⟩).mono ?_
  rintro e w1 ⟨g, cp, rfl, hcells, hg, hb⟩
  obtain ⟨hc, hf⟩ := Flow.bcell hb
  have hz := hb.size
  simp only [World.size_alloc] at hz hg
  have z0 : w.heap.size < w1.heap.size := by omega
  have k0 := hcells 0 _ rfl
  have k1 := hcells 1 _ rfl
  clear hcells
  have lg := block_lt_of_cell k0
  simp only [] at lg
  go_wp2_with fail
  (refine (rbinary_c _ _ (Rf.tmpTy p) (Rf.tmpTy q) g 0 cp _ (by go_simp) (by go_simp) ).mono ?_; rintro e u1 ⟨rfl, hb⟩; obtain ⟨hc, hf⟩ := Flow.bcell hb; have hz := hb.size; (try simp only [World.size_alloc, World.size_setCell, World.size_drew] at hz); obtain z0 := Flow.zs1 (show w.heap.size + 1 ≤ u1.heap.size by omega))
  have z1 : w.heap.size < u1.heap.size := by omega
  go_wp2_with (go_at_call 72; refine (rword_c _ _ _).mono ?_; rintro e w1 ⟨rfl, rfl⟩)
  go_ret
  exact ⟨by rw [HV.out]; rfl, by (repeat (first | exact Below.refl _ _ | refine Below.setCell ?_ (by first | omega | (simp <;> omega)) _ | refine Below.alloc ?_ (by first | omega | (simp <;> omega)) _ | refine Below.drew ?_ | refine Below.trans ?_ (Below.mono (by assumption) (by first | omega | (simp <;> omega)))))⟩
set_option maxRecDepth 100000 in
set_option maxHeartbeats 8000000 in
theorem exkbin_y (op p q to off : Int) (B O C : Nat) (w : World) (H : Atoms2K p q B O w) (hu : Rf.binary op (Rf.tmpTy p) (Rf.tmpTy q) to = true) (hw : Rf.word (op == 30) off = true) :
    Calls Tryz.prog 36 #[.slice none 0 0, .agg #[iv 4, iv to, iv op, iv off, .slice (some ⟨B, O, none⟩) 2 C]] w fun e w' => e = .returned (iv (Rf.exBin op p q to off)) ∧ Below w.heap.size w w' := by
  obtain ⟨a0, a1, a2, a3, a4, a5, b0, b1, b2, b3, b4, b5⟩ := H
  have l1 := block_lt_of_cell a0
  simp only [] at l1
  have m1 : B < w.heap.size + 1 := by omega
  have HV := Lib.hid (show Rf.exBin op p q to off = to by simp [Rf.exBin, hu, hw])
  go_enter Tryz.func36, Tryz.ntmps36
  go_wp2_with fail
  refine (types2k_c p q B O C _ ⟨by go_simp, by go_simp, by go_simp, by go_simp, by go_simp, by go_simp, by go_simp, by go_simp, by go_simp, by go_simp, by go_simp, by go_simp⟩).mono ?_
  rintro e w1 ⟨g, cp, rfl, hcells, hg, hb⟩
  obtain ⟨hc, hf⟩ := Flow.bcell hb
  have hz := hb.size
  simp only [World.size_alloc] at hz hg
  have z0 : w.heap.size < w1.heap.size := by omega
  have k0 := hcells 0 _ rfl
  have k1 := hcells 1 _ rfl
  clear hcells
  have lg := block_lt_of_cell k0
  simp only [] at lg
  go_wp2_with fail
  (refine (rbinary_c _ _ (Rf.tmpTy p) (Rf.tmpTy q) g 0 cp _ (by go_simp) (by go_simp) ).mono ?_; rintro e u1 ⟨rfl, hb⟩; obtain ⟨hc, hf⟩ := Flow.bcell hb; have hz := hb.size; (try simp only [World.size_alloc, World.size_setCell, World.size_drew] at hz); obtain z0 := Flow.zs1 (show w.heap.size + 1 ≤ u1.heap.size by omega))
  have z1 : w.heap.size < u1.heap.size := by omega
  go_wp2_with (go_at_call 72; refine (rword_c _ _ _).mono ?_; rintro e w1 ⟨rfl, rfl⟩)
  go_ret
  exact ⟨by rw [HV.out]; rfl, by (repeat (first | exact Below.refl _ _ | refine Below.setCell ?_ (by first | omega | (simp <;> omega)) _ | refine Below.alloc ?_ (by first | omega | (simp <;> omega)) _ | refine Below.drew ?_ | refine Below.trans ?_ (Below.mono (by assumption) (by first | omega | (simp <;> omega)))))⟩
theorem exkbin_c (op p q to off : Int) (B O C : Nat) (w : World) (H : Atoms2K p q B O w) :
    Calls Tryz.prog 36 #[.slice none 0 0, .agg #[iv 4, iv to, iv op, iv off, .slice (some ⟨B, O, none⟩) 2 C]] w fun e w' => e = .returned (iv (Rf.exBin op p q to off)) ∧ Below w.heap.size w w' := by
  cases hu : Rf.binary op (Rf.tmpTy p) (Rf.tmpTy q) to
  · exact exkbin_u op p q to off B O C w H hu
  cases hw : Rf.word (op == 30) off
  · exact exkbin_w op p q to off B O C w H hu hw
  · exact exkbin_y op p q to off B O C w H hu hw
end Go.Proofs.YtboknfppecgjmaaGreat
