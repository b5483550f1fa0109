/- Part 5 of the proof's texts: Each. -/
import Derived.Test.YtboknfppecgjmaaGreatExa4
set_option maxHeartbeats 16000000
namespace Go.Proofs.YtboknfppecgjmaaGreat
set_option linter.unusedVariables false
set_option linter.unusedSimpArgs false
open Go.RowKit Go.Shelf
attribute [local go_sem] Oper.semAt_some
theorem each1_c (v : V) (i : Nat) (hi : i < 4) (m : BitVec 32) (at_ : Fin 32) (Bi Bm Bf : Nat) (w : World)
    (h1 : w.cell? ⟨Bi, 0, none⟩ = some (iv (i : Nat))) (h2 : w.cell? ⟨Bm, 0, none⟩ = some (uv m)) (h3 : w.cell? ⟨Bf, 0, none⟩ = some (iv (at_.val : Nat))) :
    Calls Tryz.prog 145 #[vv v, .pointer (some ⟨Bi, 0, none⟩), .pointer (some ⟨Bm, 0, none⟩), .pointer (some ⟨Bf, 0, none⟩)] w fun e w' => e = .returned (uv ((v.get i &&& m) >>> at_.val)) ∧ Below w.heap.size w w' := by
  have hb1 : (0 : Int) ≤ (at_.val : Nat) := by omega
  have hb2 : ((at_.val : Nat) : Int) ≤ 32 := by have := at_.isLt; omega
  have l1 := block_lt_of_cell h1
  have l2 := block_lt_of_cell h2
  have l3 := block_lt_of_cell h3
  simp only [] at l1 l2 l3
  have hz1 : Bi < w.heap.size + 1 := by omega
  have hz2 : Bm < w.heap.size + 1 := by omega
  have hz3 : Bf < w.heap.size + 1 := by omega
  have hcs : i = 0 ∨ i = 1 ∨ i = 2 ∨ i = 3 := by omega
  clear hi
  rcases hcs with rfl | rfl | rfl | rfl
  all_goals
    go_enter Tryz.func145, Tryz.ntmps145
    go_wp2_with fail
    refine Flow.wp_region_below 7 (by kernel_rfl) (by kernel_rfl) (fun R hRc hRt => ?_)
    simp only [List.take_succ_cons, List.take_zero, List.drop_succ_cons, List.drop_zero]
    iterate 7
      first
        | refine Flow.flow_skip rfl ?_
        | (apply Flow.flow_step; rfl; (intro w1 hb; have hc := hRc.out w1 hb; go_simp; (first | with_reducible exact ⟨rfl, hb⟩)))
      simp only [Act.put, List.setIfInBounds_toArray, List.set_cons_zero, List.set_cons_succ]
    apply Flow.flow_nil
    clear hRc hRt
    intro w1 hb
    go_wp2
    go_ret
    exact ⟨rfl, by (repeat (first | exact Below.refl _ _ | refine Below.setCell ?_ (by first | omega | (simp <;> omega)) _ | refine Below.alloc ?_ (by first | omega | (simp <;> omega)) _ | refine Below.drew ?_ | refine Below.trans ?_ (Below.mono (by assumption) (by first | omega | (simp <;> omega)))))⟩
theorem each_in (width : Nat) (hw : width = 8 ∨ width = 16 ∨ width = 32) (n : Nat) (hn : 6 ≤ n) (x a y b : V) (g : Nat) (f : BitVec 32 → BitVec 32 → BitVec 32 → BitVec 32 → BitVec 32)
    (hcf : ∀ args w, (callFunc g args).run Tryz.prog w = .ok (.enter g args) w)
    (hg : ∀ p q r s w, Calls Tryz.prog g #[uv p, uv q, uv r, uv s] w fun e w' => e = .returned (uv (f p q r s)) ∧ w' = w) (w : World) :
    CallsIn Fence.wide n Tryz.prog 138 #[iv (width : Nat), vv x, vv a, vv y, vv b, .func (.func g) #[] #[]] w fun e w' => e = .returned (vv (Vb.each width x a y b f)) ∧ Below w.heap.size w w' := by
  have HG := Lib.hid hg
  clear hg
  have hn1 : 1 ≤ n := by omega
  refine callsIn_of_wp_marks Tryz.func138 rfl trivial ?_ rfl
  simp only [Tryz.ntmps138, List.size_toArray, List.length_cons, List.length_nil, Nat.reduceAdd, Nat.reduceSub, Array.replicate_succ, Array.replicate_zero, List.push_toArray, List.append_toArray, List.nil_append, List.cons_append]
  gi_wp2
  obtain ⟨W0, hS0⟩ : ∃ W0, EachSt w x a y b g V.zero [] W0 ∧ W0 = ((((((w.alloc (.cells #[uv x.a, uv x.b, uv x.c, uv x.d] 69)).alloc (.cells #[uv a.a, uv a.b, uv a.c, uv a.d] 69)).alloc (.cells #[uv y.a, uv y.b, uv y.c, uv y.d] 69)).alloc (.cells #[uv b.a, uv b.b, uv b.c, uv b.d] 69)).alloc (.cells #[.func (.func g) #[] #[]] 115)).alloc (.cells #[uv 0#32, uv 0#32, uv 0#32, uv 0#32] 69)).alloc (.cells #[uv 0#32, uv 0#32, uv 0#32, uv 0#32] 69) := ⟨_, each_start w x a y b g, rfl⟩
  obtain ⟨hS, hW0⟩ := hS0
  rw [← hW0]
  clear hW0
  refine wpIn_loop_rounds 5 ?_
  -- round 0
  rw [roundsIn_succ]
  gi_wp2_with (refine ⟨trivial, ?_⟩; gi_at_call 144; refine (Flow.open_wide.calls (lanes_c _ _)).mono ?_; rintro e w1 ⟨rfl, rfl⟩)
  refine each_range _ _ width hw n hn 0 (by omega) f hS rfl rfl ?_ ?_ ?_
  · intro l k X K hK
    simp only [List.setIfInBounds_toArray, List.set_cons_succ, List.set_cons_zero] at hK ⊢
    gi_wp2
    exact hK
  · intro l k o' X Bf Bm hE ci cf cm l1 l2 l3
    have k0 : (0 : Int) ≤ (k.val : Nat) := by omega
    have k1 : ((k.val : Nat) : Int) ≤ 32 := by have := k.isLt; omega
    have cx := fun j => cell_of_row X _ j _ _ _ hE.c0
    have ca := fun j => cell_of_row X _ j _ _ _ hE.c1
    have cy := fun j => cell_of_row X _ j _ _ _ hE.c2
    have cb := fun j => cell_of_row X _ j _ _ _ hE.c3
    have cg := fun j => cell_of_row X _ j _ _ _ hE.c4
    have co := fun j => cell_of_row X _ j _ _ _ hE.c6
    have fo := fun j => frozen_of_row X _ j _ _ hE.c6
    obtain ⟨z0, z1, z2, z3, z4, z5, z6⟩ := Flow.zs7 hE.size
    simp only [List.setIfInBounds_toArray, List.set_cons_succ, List.set_cons_zero]
    clear hS
    gi_wp2
    refine Flow.wpIn_region_below (Flow.open_round l) 23 (by kernel_rfl) (by kernel_rfl) (by kernel_rfl) (fun R hRc hRt => ?_)
    simp only [List.take_succ_cons, List.take_zero, List.drop_succ_cons, List.drop_zero]
    iterate 23
      first
        | refine Flow.flow_skip rfl ?_
        | (apply Flow.flow_step; rfl; (intro w1 hb; have hc := hRc.out w1 hb; go_simp; (first | with_reducible exact ⟨rfl, hb⟩ | (go_at_call 145; refine (each1_c _ 0 (by omega) _ k _ _ _ _ ((hc _ _ l1).trans ci) ((hc _ _ l3).trans cm) ((hc _ _ l2).trans cf)).mono ?_; rintro e w2 ⟨rfl, hb2⟩; exact ⟨_, rfl, rfl, hRt.out _ _ hb hb2⟩) | (refine (HG.out _ _ _ _ _).mono ?_; rintro e w2 ⟨rfl, rfl⟩; exact ⟨_, rfl, rfl, hb⟩))))
      simp only [Act.put, List.setIfInBounds_toArray, List.set_cons_zero, List.set_cons_succ]
    apply Flow.flow_nil
    clear hRc hRt
    intro w1 hb
    obtain ⟨hc, hf⟩ := Flow.bcell hb
    have hz := hb.size
    gi_wp2
    exact ⟨w1, hb, rfl⟩
  intro D0 X0 hX
  clear hS
  have hS := hX
  clear hX
  gi_wp2_with fail
  -- round 1
  rw [roundsIn_succ]
  gi_wp2_with (refine ⟨trivial, ?_⟩; gi_at_call 144; refine (Flow.open_wide.calls (lanes_c _ _)).mono ?_; rintro e w1 ⟨rfl, rfl⟩)
  refine each_range _ _ width hw n hn 1 (by omega) f hS rfl rfl ?_ ?_ ?_
  · intro l k X K hK
    simp only [List.setIfInBounds_toArray, List.set_cons_succ, List.set_cons_zero] at hK ⊢
    gi_wp2
    exact hK
  · intro l k o' X Bf Bm hE ci cf cm l1 l2 l3
    have k0 : (0 : Int) ≤ (k.val : Nat) := by omega
    have k1 : ((k.val : Nat) : Int) ≤ 32 := by have := k.isLt; omega
    have cx := fun j => cell_of_row X _ j _ _ _ hE.c0
    have ca := fun j => cell_of_row X _ j _ _ _ hE.c1
    have cy := fun j => cell_of_row X _ j _ _ _ hE.c2
    have cb := fun j => cell_of_row X _ j _ _ _ hE.c3
    have cg := fun j => cell_of_row X _ j _ _ _ hE.c4
    have co := fun j => cell_of_row X _ j _ _ _ hE.c6
    have fo := fun j => frozen_of_row X _ j _ _ hE.c6
    obtain ⟨z0, z1, z2, z3, z4, z5, z6⟩ := Flow.zs7 hE.size
    simp only [List.setIfInBounds_toArray, List.set_cons_succ, List.set_cons_zero]
    clear hS
    gi_wp2
    refine Flow.wpIn_region_below (Flow.open_round l) 23 (by kernel_rfl) (by kernel_rfl) (by kernel_rfl) (fun R hRc hRt => ?_)
    simp only [List.take_succ_cons, List.take_zero, List.drop_succ_cons, List.drop_zero]
    iterate 23
      first
        | refine Flow.flow_skip rfl ?_
        | (apply Flow.flow_step; rfl; (intro w1 hb; have hc := hRc.out w1 hb; go_simp; (first | with_reducible exact ⟨rfl, hb⟩ | (go_at_call 145; refine (each1_c _ 1 (by omega) _ k _ _ _ _ ((hc _ _ l1).trans ci) ((hc _ _ l3).trans cm) ((hc _ _ l2).trans cf)).mono ?_; rintro e w2 ⟨rfl, hb2⟩; exact ⟨_, rfl, rfl, hRt.out _ _ hb hb2⟩) | (refine (HG.out _ _ _ _ _).mono ?_; rintro e w2 ⟨rfl, rfl⟩; exact ⟨_, rfl, rfl, hb⟩))))
      simp only [Act.put, List.setIfInBounds_toArray, List.set_cons_zero, List.set_cons_succ]
    apply Flow.flow_nil
    clear hRc hRt
    intro w1 hb
    obtain ⟨hc, hf⟩ := Flow.bcell hb
    have hz := hb.size
    gi_wp2
    exact ⟨w1, hb, rfl⟩
  intro D1 X1 hX
  clear hS
  have hS := hX
  clear hX
  gi_wp2_with fail
  -- round 2
  rw [roundsIn_succ]
  gi_wp2_with (refine ⟨trivial, ?_⟩; gi_at_call 144; refine (Flow.open_wide.calls (lanes_c _ _)).mono ?_; rintro e w1 ⟨rfl, rfl⟩)
  refine each_range _ _ width hw n hn 2 (by omega) f hS rfl rfl ?_ ?_ ?_
  · intro l k X K hK
    simp only [List.setIfInBounds_toArray, List.set_cons_succ, List.set_cons_zero] at hK ⊢
    gi_wp2
    exact hK
  · intro l k o' X Bf Bm hE ci cf cm l1 l2 l3
    have k0 : (0 : Int) ≤ (k.val : Nat) := by omega
    have k1 : ((k.val : Nat) : Int) ≤ 32 := by have := k.isLt; omega
    have cx := fun j => cell_of_row X _ j _ _ _ hE.c0
    have ca := fun j => cell_of_row X _ j _ _ _ hE.c1
    have cy := fun j => cell_of_row X _ j _ _ _ hE.c2
    have cb := fun j => cell_of_row X _ j _ _ _ hE.c3
    have cg := fun j => cell_of_row X _ j _ _ _ hE.c4
    have co := fun j => cell_of_row X _ j _ _ _ hE.c6
    have fo := fun j => frozen_of_row X _ j _ _ hE.c6
    obtain ⟨z0, z1, z2, z3, z4, z5, z6⟩ := Flow.zs7 hE.size
    simp only [List.setIfInBounds_toArray, List.set_cons_succ, List.set_cons_zero]
    clear hS
    gi_wp2
    refine Flow.wpIn_region_below (Flow.open_round l) 23 (by kernel_rfl) (by kernel_rfl) (by kernel_rfl) (fun R hRc hRt => ?_)
    simp only [List.take_succ_cons, List.take_zero, List.drop_succ_cons, List.drop_zero]
    iterate 23
      first
        | refine Flow.flow_skip rfl ?_
        | (apply Flow.flow_step; rfl; (intro w1 hb; have hc := hRc.out w1 hb; go_simp; (first | with_reducible exact ⟨rfl, hb⟩ | (go_at_call 145; refine (each1_c _ 2 (by omega) _ k _ _ _ _ ((hc _ _ l1).trans ci) ((hc _ _ l3).trans cm) ((hc _ _ l2).trans cf)).mono ?_; rintro e w2 ⟨rfl, hb2⟩; exact ⟨_, rfl, rfl, hRt.out _ _ hb hb2⟩) | (refine (HG.out _ _ _ _ _).mono ?_; rintro e w2 ⟨rfl, rfl⟩; exact ⟨_, rfl, rfl, hb⟩))))
      simp only [Act.put, List.setIfInBounds_toArray, List.set_cons_zero, List.set_cons_succ]
    apply Flow.flow_nil
    clear hRc hRt
    intro w1 hb
    obtain ⟨hc, hf⟩ := Flow.bcell hb
    have hz := hb.size
    gi_wp2
    exact ⟨w1, hb, rfl⟩
  intro D2 X2 hX
  clear hS
  have hS := hX
  clear hX
  gi_wp2_with fail
  -- round 3
  rw [roundsIn_succ]
  gi_wp2_with (refine ⟨trivial, ?_⟩; gi_at_call 144; refine (Flow.open_wide.calls (lanes_c _ _)).mono ?_; rintro e w1 ⟨rfl, rfl⟩)
  refine each_range _ _ width hw n hn 3 (by omega) f hS rfl rfl ?_ ?_ ?_
  · intro l k X K hK
    simp only [List.setIfInBounds_toArray, List.set_cons_succ, List.set_cons_zero] at hK ⊢
    gi_wp2
    exact hK
  · intro l k o' X Bf Bm hE ci cf cm l1 l2 l3
    have k0 : (0 : Int) ≤ (k.val : Nat) := by omega
    have k1 : ((k.val : Nat) : Int) ≤ 32 := by have := k.isLt; omega
    have cx := fun j => cell_of_row X _ j _ _ _ hE.c0
    have ca := fun j => cell_of_row X _ j _ _ _ hE.c1
    have cy := fun j => cell_of_row X _ j _ _ _ hE.c2
    have cb := fun j => cell_of_row X _ j _ _ _ hE.c3
    have cg := fun j => cell_of_row X _ j _ _ _ hE.c4
    have co := fun j => cell_of_row X _ j _ _ _ hE.c6
    have fo := fun j => frozen_of_row X _ j _ _ hE.c6
    obtain ⟨z0, z1, z2, z3, z4, z5, z6⟩ := Flow.zs7 hE.size
    simp only [List.setIfInBounds_toArray, List.set_cons_succ, List.set_cons_zero]
    clear hS
    gi_wp2
    refine Flow.wpIn_region_below (Flow.open_round l) 23 (by kernel_rfl) (by kernel_rfl) (by kernel_rfl) (fun R hRc hRt => ?_)
    simp only [List.take_succ_cons, List.take_zero, List.drop_succ_cons, List.drop_zero]
    iterate 23
      first
        | refine Flow.flow_skip rfl ?_
        | (apply Flow.flow_step; rfl; (intro w1 hb; have hc := hRc.out w1 hb; go_simp; (first | with_reducible exact ⟨rfl, hb⟩ | (go_at_call 145; refine (each1_c _ 3 (by omega) _ k _ _ _ _ ((hc _ _ l1).trans ci) ((hc _ _ l3).trans cm) ((hc _ _ l2).trans cf)).mono ?_; rintro e w2 ⟨rfl, hb2⟩; exact ⟨_, rfl, rfl, hRt.out _ _ hb hb2⟩) | (refine (HG.out _ _ _ _ _).mono ?_; rintro e w2 ⟨rfl, rfl⟩; exact ⟨_, rfl, rfl, hb⟩))))
      simp only [Act.put, List.setIfInBounds_toArray, List.set_cons_zero, List.set_cons_succ]
    apply Flow.flow_nil
    clear hRc hRt
    intro w1 hb
    obtain ⟨hc, hf⟩ := Flow.bcell hb
    have hz := hb.size
    gi_wp2
    exact ⟨w1, hb, rfl⟩
  intro D3 X3 hX
  clear hS
  have hS := hX
  clear hX
  gi_wp2_with fail
  rw [roundsIn_succ]
  have hE : EachSt w x a y b g (Vb.each width x a y b f) [D3, D2, D1, D0] X3 := hS
  clear hS
  have c5 := fun j => cell_of_row X3 _ j _ _ _ hE.c5
  have f5 := fun j => frozen_of_row X3 _ j _ _ hE.c5
  have c6 := fun j => cell_of_row X3 _ j _ _ _ hE.c6
  have hsz := hE.size
  obtain ⟨z0, z1, z2, z3, z4, z5, z6⟩ := Flow.zs7 hE.size
  gi_wp2_with fail
  refine leaves_marks (N := w.heap.size + 7) [D3, D2, D1, D0] _ hE.once (fun D hD => ⟨(hE.marks D hD).1, ?_⟩) (fun W' hW' => ?_)
  · have h1 := (hE.marks D hD).1
    rw [Below.heap_setCell _ _ _ _ (by simp only []; omega), Below.heap_setCell _ _ _ _ (by simp only []; omega), Below.heap_setCell _ _ _ _ (by simp only []; omega), Below.heap_setCell _ _ _ _ (by simp only []; omega)]
    exact (hE.marks D hD).2
  · have hc : ∀ j, W'.cell? ⟨w.heap.size + 1 + 1 + 1 + 1 + 1, j, none⟩ = _ := fun j => hW'.cell (p := ⟨w.heap.size + 1 + 1 + 1 + 1 + 1, j, none⟩) (by simp only []; omega)
    refine ⟨vv (Vb.each width x a y b f), ?_, rfl, ?_⟩
    · simp only [results, Tryz.results138]
      go_simp
    · refine (Below.trans ?_ (hW'.mono (by omega)))
      exact (((hE.bel.setCell (by simp only []; omega) _).setCell (by simp only []; omega) _).setCell (by simp only []; omega) _).setCell (by simp only []; omega) _
theorem each_c (width : Nat) (hw : width = 8 ∨ width = 16 ∨ width = 32) (x a y b : V) (g : Nat) (f : BitVec 32 → BitVec 32 → BitVec 32 → BitVec 32 → BitVec 32)
    (hcf : ∀ args w, (callFunc g args).run Tryz.prog w = .ok (.enter g args) w)
    (hg : ∀ p q r s w, Calls Tryz.prog g #[uv p, uv q, uv r, uv s] w fun e w' => e = .returned (uv (f p q r s)) ∧ w' = w) (w : World) :
    Calls Tryz.prog 138 #[iv (width : Nat), vv x, vv a, vv y, vv b, .func (.func g) #[] #[]] w fun e w' => e = .returned (vv (Vb.each width x a y b f)) ∧ Below w.heap.size w w' :=
  callsIn_wide.1 (each_in width hw 6 (by omega) x a y b g f hcf hg w)
end Go.Proofs.YtboknfppecgjmaaGreat
