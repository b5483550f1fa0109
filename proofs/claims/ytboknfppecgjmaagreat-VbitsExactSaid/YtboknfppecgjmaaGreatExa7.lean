/- Part 7 of the proof's texts: Binary, BinaryB. -/
import Derived.Test.YtboknfppecgjmaaGreatExa5
import Derived.Test.YtboknfppecgjmaaGreatExa6
set_option maxHeartbeats 16000000
namespace Go.Proofs.YtboknfppecgjmaaGreat
set_option linter.unusedVariables false
set_option linter.unusedSimpArgs false
open Go.RowKit Go.Shelf
abbrev bnv (o : Vb.Binary) : Value := .agg #[iv o.op, iv o.ty, iv o.off, uv o.x.a, uv o.x.b, uv o.x.c, uv o.x.d, uv o.a.a, uv o.a.b, uv o.a.c, uv o.a.d, uv o.y.a, uv o.y.b, uv o.y.c, uv o.y.d, uv o.b.a, uv o.b.b, uv o.b.c, uv o.b.d]
theorem bi_mul_c (o : Vb.Binary) (w : World) : Calls Tryz.prog 100 #[bnv o] w fun e w' => e = .returned (vv o.mul) ∧ Below w.heap.size w w' := by
  go_enter Tryz.func100, Tryz.ntmps100
  go_wp2_with (first | (go_at_call 134; refine (left_c _ _).mono ?_; rintro e w1 ⟨rfl, rfl⟩) | (go_at_call 132; refine (word_c _ _).mono ?_; rintro e w1 ⟨rfl, hb⟩; obtain ⟨hc, hf⟩ := Flow.bcell hb; have hz := hb.size; (try simp only [World.size_alloc, World.size_setCell, World.size_drew] at hz); obtain ⟨z0, z1⟩ := Flow.zs2 (show w.heap.size + 2 ≤ w1.heap.size by omega)))
  refine Flow.bodyPost_k rfl (fun K hK => ?_)
  simp only [results, Tryz.results100]
  go_simp
  refine hK _ ⟨?_, ?_⟩
  · rfl
  · (repeat (first | exact Below.refl _ _ | refine Below.setCell ?_ (by first | omega | (simp <;> omega)) _ | refine Below.alloc ?_ (by first | omega | (simp <;> omega)) _ | refine Below.drew ?_ | refine Below.trans ?_ (Below.mono (by assumption) (by first | omega | (simp <;> omega)))))
theorem bi_any_c (o : Vb.Binary) (w : World) : Calls Tryz.prog 101 #[bnv o] w fun e w' => e = .returned (vv o.any) ∧ Below w.heap.size w w' := by
  go_enter Tryz.func101, Tryz.ntmps101
  go_wp2_with (first | (go_at_call 139; refine (some_c _ _).mono ?_; rintro e w1 ⟨rfl, rfl⟩) | (go_at_call 132; refine (word_c _ _).mono ?_; rintro e w1 ⟨rfl, hb⟩; obtain ⟨hc, hf⟩ := Flow.bcell hb; have hz := hb.size; (try simp only [World.size_alloc, World.size_setCell, World.size_drew] at hz); obtain ⟨z0, z1⟩ := Flow.zs2 (show w.heap.size + 2 ≤ w1.heap.size by omega)))
  refine Flow.bodyPost_k rfl (fun K hK => ?_)
  simp only [results, Tryz.results101]
  go_simp
  refine hK _ ⟨?_, ?_⟩
  · rfl
  · (repeat (first | exact Below.refl _ _ | refine Below.setCell ?_ (by first | omega | (simp <;> omega)) _ | refine Below.alloc ?_ (by first | omega | (simp <;> omega)) _ | refine Below.drew ?_ | refine Below.trans ?_ (Below.mono (by assumption) (by first | omega | (simp <;> omega)))))
theorem bi_xor_c (o : Vb.Binary) (w : World) : Calls Tryz.prog 104 #[bnv o] w fun e w' => e = .returned (vv o.xor) ∧ Below w.heap.size w w' := by
  go_enter Tryz.func104, Tryz.ntmps104
  go_wp2_with (go_at_call 68; refine (or_c _ _ _).mono ?_; rintro e w1 ⟨rfl, hb⟩; obtain ⟨hc, hf⟩ := Flow.bcell hb; have hz := hb.size; (try simp only [World.size_alloc, World.size_setCell, World.size_drew] at hz); obtain ⟨z0, z1⟩ := Flow.zs2 (show w.heap.size + 2 ≤ w1.heap.size by omega))
  refine Flow.bodyPost_k rfl (fun K hK => ?_)
  simp only [results, Tryz.results104]
  go_simp
  refine hK _ ⟨?_, ?_⟩
  · rfl
  · (repeat (first | exact Below.refl _ _ | refine Below.setCell ?_ (by first | omega | (simp <;> omega)) _ | refine Below.alloc ?_ (by first | omega | (simp <;> omega)) _ | refine Below.drew ?_ | refine Below.trans ?_ (Below.mono (by assumption) (by first | omega | (simp <;> omega)))))
theorem bi_and_c (o : Vb.Binary) (w : World) : Calls Tryz.prog 102 #[bnv o] w fun e w' => e = .returned (vv o.and) ∧ Below w.heap.size w w' := by
  go_enter Tryz.func102, Tryz.ntmps102
  go_wp2_with fail
  refine Flow.wp_region_below 17 (by kernel_rfl) (by kernel_rfl) (fun R hRc hRt => ?_)
  simp only [List.take_succ_cons, List.take_zero, List.drop_succ_cons, List.drop_zero]
  iterate 17
    first
      | refine Flow.flow_skip rfl ?_
      | (apply Flow.flow_step; rfl; (intro w1 hb; have hc := hRc.out w1 hb; go_simp; (first | with_reducible exact ⟨rfl, hb⟩ | (go_at_call 68; refine (or_c _ _ _).mono ?_; rintro e w2 ⟨rfl, hb2⟩; exact ⟨_, rfl, rfl, hRt.out _ _ hb hb2⟩) | (go_at_call 65; refine (and_c _ _ _).mono ?_; rintro e w2 ⟨rfl, hb2⟩; exact ⟨_, rfl, rfl, hRt.out _ _ hb hb2⟩))))
    simp only [Act.put, List.setIfInBounds_toArray, List.set_cons_zero, List.set_cons_succ]
  apply Flow.flow_nil
  clear hRc hRt
  intro w1 hb
  obtain ⟨hc, hf⟩ := Flow.bcell hb
  have hz := hb.size
  (try simp only [World.size_alloc, World.size_setCell, World.size_drew] at hz)
  obtain ⟨z0, z1⟩ := Flow.zs2 (show w.heap.size + 2 ≤ w1.heap.size by omega)
  go_wp2
  refine Flow.bodyPost_k rfl (fun K hK => ?_)
  simp only [results, Tryz.results102]
  go_simp
  refine hK _ ⟨?_, ?_⟩
  · rfl
  · (repeat (first | exact Below.refl _ _ | refine Below.setCell ?_ (by first | omega | (simp <;> omega)) _ | refine Below.alloc ?_ (by first | omega | (simp <;> omega)) _ | refine Below.drew ?_ | refine Below.trans ?_ (Below.mono (by assumption) (by first | omega | (simp <;> omega)))))
theorem bi_or_c (o : Vb.Binary) (w : World) : Calls Tryz.prog 103 #[bnv o] w fun e w' => e = .returned (vv o.or) ∧ Below w.heap.size w w' := by
  go_enter Tryz.func103, Tryz.ntmps103
  go_wp2_with fail
  refine (ones_c _ _).mono ?_
  rintro e w1 ⟨rfl, hb⟩; obtain ⟨hc, hf⟩ := Flow.bcell hb; have hz := hb.size; (try simp only [World.size_alloc, World.size_setCell, World.size_drew] at hz); obtain ⟨z0, z1⟩ := Flow.zs2 (show w.heap.size + 2 ≤ w1.heap.size by omega)
  go_wp2_with fail
  refine Flow.wp_region_below 21 (by kernel_rfl) (by kernel_rfl) (fun R hRc hRt => ?_)
  simp only [List.take_succ_cons, List.take_zero, List.drop_succ_cons, List.drop_zero]
  iterate 21
    first
      | refine Flow.flow_skip rfl ?_
      | (apply Flow.flow_step; rfl; (intro w1 hb; have hc := hRc.out w1 hb; go_simp; (first | with_reducible exact ⟨rfl, hb⟩ | (go_at_call 80; refine (without_c _ _ _).mono ?_; rintro e w2 ⟨rfl, hb2⟩; exact ⟨_, rfl, rfl, hRt.out _ _ hb hb2⟩) | (go_at_call 68; refine (or_c _ _ _).mono ?_; rintro e w2 ⟨rfl, hb2⟩; exact ⟨_, rfl, rfl, hRt.out _ _ hb hb2⟩) | (go_at_call 65; refine (and_c _ _ _).mono ?_; rintro e w2 ⟨rfl, hb2⟩; exact ⟨_, rfl, rfl, hRt.out _ _ hb hb2⟩))))
    simp only [Act.put, List.setIfInBounds_toArray, List.set_cons_zero, List.set_cons_succ]
  apply Flow.flow_nil
  clear hRc hRt
  intro w1 hb
  obtain ⟨hc, hf⟩ := Flow.bcell hb
  have hz := hb.size
  (try simp only [World.size_alloc, World.size_setCell, World.size_drew] at hz)
  obtain ⟨z0, z1, z2⟩ := Flow.zs3 (show w.heap.size + 3 ≤ w1.heap.size by omega)
  go_wp2
  refine Flow.bodyPost_k rfl (fun K hK => ?_)
  simp only [results, Tryz.results103]
  go_simp
  refine hK _ ⟨?_, ?_⟩
  · rfl
  · (repeat (first | exact Below.refl _ _ | refine Below.setCell ?_ (by first | omega | (simp <;> omega)) _ | refine Below.alloc ?_ (by first | omega | (simp <;> omega)) _ | refine Below.drew ?_ | refine Below.trans ?_ (Below.mono (by assumption) (by first | omega | (simp <;> omega)))))
theorem U_eq_zero (x : BitVec 32) : (U x = 0) = (x = 0#32) := propext ⟨fun h => U_inj h, fun h => by rw [h]; rfl⟩
attribute [local go_sem] U_eq_zero
theorem shift_11 (o : Vb.Binary) (h : o.op = 11) : o.shift = V.word (o.a.a <<< (o.y.a.toNat % 32) ||| Vb.some (o.b.a &&& 31#32)) := by simp [Vb.Binary.shift, h]
theorem shift_12 (o : Vb.Binary) (h : o.op = 12) : o.shift = V.word (o.a.a >>> (o.y.a.toNat % 32) ||| Vb.some (o.b.a &&& 31#32)) := by simp [Vb.Binary.shift, h]
theorem shift_else (o : Vb.Binary) (h : o.op ≠ 11) (h' : o.op ≠ 12) : o.shift = V.word (o.a.a.sshiftRight (o.y.a.toNat % 32) ||| Vb.some (o.b.a &&& 31#32)) := by simp [Vb.Binary.shift, h, h']
theorem bi_shift_c (o : Vb.Binary) (w : World) : Calls Tryz.prog 105 #[bnv o] w fun e w' => e = .returned (vv o.shift) ∧ Below w.heap.size w w' := by
  go_enter Tryz.func105, Tryz.ntmps105
  go_wp2_with (first | (go_at_call 139; refine (some_c _ _).mono ?_; rintro e w1 ⟨rfl, rfl⟩) | (go_at_call 132; refine (word_c _ _).mono ?_; rintro e w1 ⟨rfl, hb⟩; obtain ⟨hc, hf⟩ := Flow.bcell hb; have hz := hb.size; (try simp only [World.size_alloc, World.size_setCell, World.size_drew] at hz); obtain ⟨z0, z1⟩ := Flow.zs2 (show w.heap.size + 2 ≤ w1.heap.size by omega)))
  all_goals (refine Flow.bodyPost_k rfl (fun K hK => ?_); simp only [results, Tryz.results105]; go_simp; refine hK _ ⟨?_, ?_⟩)
  · rw [shift_11 o (by simp_all)]; rfl
  · (repeat (first | exact Below.refl _ _ | refine Below.setCell ?_ (by first | omega | (simp <;> omega)) _ | refine Below.alloc ?_ (by first | omega | (simp <;> omega)) _ | refine Below.drew ?_ | refine Below.trans ?_ (Below.mono (by assumption) (by first | omega | (simp <;> omega)))))
  · rw [shift_12 o (by simp_all)]; rfl
  · (repeat (first | exact Below.refl _ _ | refine Below.setCell ?_ (by first | omega | (simp <;> omega)) _ | refine Below.alloc ?_ (by first | omega | (simp <;> omega)) _ | refine Below.drew ?_ | refine Below.trans ?_ (Below.mono (by assumption) (by first | omega | (simp <;> omega)))))
  · rw [shift_else o (by simp_all) (by simp_all)]; rfl
  · (repeat (first | exact Below.refl _ _ | refine Below.setCell ?_ (by first | omega | (simp <;> omega)) _ | refine Below.alloc ?_ (by first | omega | (simp <;> omega)) _ | refine Below.drew ?_ | refine Below.trans ?_ (Below.mono (by assumption) (by first | omega | (simp <;> omega)))))
theorem bi_same_c (o : Vb.Binary) (w : World) : Calls Tryz.prog 106 #[bnv o] w fun e w' => e = .returned (vv o.same) ∧ Below w.heap.size w w' := by
  go_enter Tryz.func106, Tryz.ntmps106
  go_wp2_with fail
  refine (or_c _ _ _).mono ?_
  rintro e w1 ⟨rfl, hb⟩; obtain ⟨hc, hf⟩ := Flow.bcell hb; have hz := hb.size; (try simp only [World.size_alloc, World.size_setCell, World.size_drew] at hz); obtain ⟨z0, z1⟩ := Flow.zs2 (show w.heap.size + 2 ≤ w1.heap.size by omega)
  go_wp2_with fail
  refine Flow.wp_region_below 14 (by kernel_rfl) (by kernel_rfl) (fun R hRc hRt => ?_)
  simp only [List.take_succ_cons, List.take_zero, List.drop_succ_cons, List.drop_zero]
  iterate 14
    first
      | refine Flow.flow_skip rfl ?_
      | (apply Flow.flow_step; rfl; (intro w1 hb; have hc := hRc.out w1 hb; go_simp; (first | with_reducible exact ⟨rfl, hb⟩ | (go_at_call 66; refine (zero_c _ _).mono ?_; rintro e w2 ⟨rfl, hb2⟩; exact ⟨_, rfl, rfl, hRt.out _ _ hb hb2⟩) | (go_at_call 67; refine (xor_c _ _ _).mono ?_; rintro e w2 ⟨rfl, hb2⟩; exact ⟨_, rfl, rfl, hRt.out _ _ hb hb2⟩) | (go_at_call 80; refine (without_c _ _ _).mono ?_; rintro e w2 ⟨rfl, hb2⟩; exact ⟨_, rfl, rfl, hRt.out _ _ hb hb2⟩) | (go_at_call 133; refine (one_c _ _).mono ?_; rintro e w2 ⟨rfl, hb2⟩; exact ⟨_, rfl, rfl, hRt.out _ _ hb hb2⟩))))
      | (apply Flow.flow_guardT rfl rfl rfl; (intro hg w1 hb; have hc := hRc.out w1 hb; go_simp; (first | with_reducible exact ⟨rfl, hb⟩ | (go_at_call 66; refine (zero_c _ _).mono ?_; rintro e w2 ⟨rfl, hb2⟩; exact ⟨_, rfl, rfl, hRt.out _ _ hb hb2⟩) | (go_at_call 67; refine (xor_c _ _ _).mono ?_; rintro e w2 ⟨rfl, hb2⟩; exact ⟨_, rfl, rfl, hRt.out _ _ hb hb2⟩) | (go_at_call 80; refine (without_c _ _ _).mono ?_; rintro e w2 ⟨rfl, hb2⟩; exact ⟨_, rfl, rfl, hRt.out _ _ hb hb2⟩) | (go_at_call 133; refine (one_c _ _).mono ?_; rintro e w2 ⟨rfl, hb2⟩; exact ⟨_, rfl, rfl, hRt.out _ _ hb hb2⟩))))
      | (apply Flow.flow_guardF rfl rfl rfl; (intro hg w1 hb; have hc := hRc.out w1 hb; go_simp; (first | with_reducible exact ⟨rfl, hb⟩ | (go_at_call 66; refine (zero_c _ _).mono ?_; rintro e w2 ⟨rfl, hb2⟩; exact ⟨_, rfl, rfl, hRt.out _ _ hb hb2⟩) | (go_at_call 67; refine (xor_c _ _ _).mono ?_; rintro e w2 ⟨rfl, hb2⟩; exact ⟨_, rfl, rfl, hRt.out _ _ hb hb2⟩) | (go_at_call 80; refine (without_c _ _ _).mono ?_; rintro e w2 ⟨rfl, hb2⟩; exact ⟨_, rfl, rfl, hRt.out _ _ hb hb2⟩) | (go_at_call 133; refine (one_c _ _).mono ?_; rintro e w2 ⟨rfl, hb2⟩; exact ⟨_, rfl, rfl, hRt.out _ _ hb hb2⟩))))
      | (apply Flow.flow_guardT2 rfl rfl rfl; (intro hp hg w1 hb; have hc := hRc.out w1 hb; go_simp; (first | with_reducible exact ⟨rfl, hb⟩ | (go_at_call 66; refine (zero_c _ _).mono ?_; rintro e w2 ⟨rfl, hb2⟩; exact ⟨_, rfl, rfl, hRt.out _ _ hb hb2⟩) | (go_at_call 67; refine (xor_c _ _ _).mono ?_; rintro e w2 ⟨rfl, hb2⟩; exact ⟨_, rfl, rfl, hRt.out _ _ hb hb2⟩) | (go_at_call 80; refine (without_c _ _ _).mono ?_; rintro e w2 ⟨rfl, hb2⟩; exact ⟨_, rfl, rfl, hRt.out _ _ hb hb2⟩) | (go_at_call 133; refine (one_c _ _).mono ?_; rintro e w2 ⟨rfl, hb2⟩; exact ⟨_, rfl, rfl, hRt.out _ _ hb hb2⟩))))
      | (apply Flow.flow_guardF2 rfl rfl rfl; (intro hp hg w1 hb; have hc := hRc.out w1 hb; go_simp; (first | with_reducible exact ⟨rfl, hb⟩ | (go_at_call 66; refine (zero_c _ _).mono ?_; rintro e w2 ⟨rfl, hb2⟩; exact ⟨_, rfl, rfl, hRt.out _ _ hb hb2⟩) | (go_at_call 67; refine (xor_c _ _ _).mono ?_; rintro e w2 ⟨rfl, hb2⟩; exact ⟨_, rfl, rfl, hRt.out _ _ hb hb2⟩) | (go_at_call 80; refine (without_c _ _ _).mono ?_; rintro e w2 ⟨rfl, hb2⟩; exact ⟨_, rfl, rfl, hRt.out _ _ hb hb2⟩) | (go_at_call 133; refine (one_c _ _).mono ?_; rintro e w2 ⟨rfl, hb2⟩; exact ⟨_, rfl, rfl, hRt.out _ _ hb hb2⟩))))
    simp only [Act.put, List.setIfInBounds_toArray, List.set_cons_zero, List.set_cons_succ]
  apply Flow.flow_nil
  clear hRc hRt
  intro w1 hb
  obtain ⟨hc, hf⟩ := Flow.bcell hb
  have hz := hb.size
  (try simp only [World.size_alloc, World.size_setCell, World.size_drew] at hz)
  obtain ⟨z0, z1, z2⟩ := Flow.zs3 (show w.heap.size + 3 ≤ w1.heap.size by omega)
  go_wp2
  all_goals (refine Flow.bodyPost_k rfl (fun K hK => ?_); simp only [results, Tryz.results106]; go_simp; refine hK _ ⟨?_, ?_⟩)
  · exact ret_vv (x := Vb.one _) (by simp_all [Vb.Binary.same])
  · (repeat (first | exact Below.refl _ _ | refine Below.setCell ?_ (by first | omega | (simp <;> omega)) _ | refine Below.alloc ?_ (by first | omega | (simp <;> omega)) _ | refine Below.drew ?_ | refine Below.trans ?_ (Below.mono (by assumption) (by first | omega | (simp <;> omega)))))
  · exact ret_vv (x := Vb.one _) (by simp_all [Vb.Binary.same])
  · (repeat (first | exact Below.refl _ _ | refine Below.setCell ?_ (by first | omega | (simp <;> omega)) _ | refine Below.alloc ?_ (by first | omega | (simp <;> omega)) _ | refine Below.drew ?_ | refine Below.trans ?_ (Below.mono (by assumption) (by first | omega | (simp <;> omega)))))
theorem bi_less1_c (x y : BitVec 32) (op : Int) (B : Nat) (w : World) (h : w.cell? ⟨B, 0, none⟩ = some (iv op)) :
    Calls Tryz.prog 140 #[uv x, uv y, .pointer (some ⟨B, 0, none⟩)] w fun e w' => e = .returned (.bool (Vb.lessOp op x y)) ∧ Below w.heap.size w w' := by
  have hB := block_lt_of_cell h
  simp only [] at hB
  go_enter Tryz.func140, Tryz.ntmps140
  go_wp2
  all_goals go_ret
  all_goals (refine ⟨?_, by (repeat (first | exact Below.refl _ _ | refine Below.setCell ?_ (by first | omega | (simp <;> omega)) _ | refine Below.alloc ?_ (by first | omega | (simp <;> omega)) _ | refine Below.drew ?_ | refine Below.trans ?_ (Below.mono (by assumption) (by first | omega | (simp <;> omega)))))⟩)
  all_goals (go_tidy; first | (simp_all [Vb.lessOp]; done) | (simp_all [Vb.lessOp, BitVec.le_def, BitVec.lt_def]; omega))
theorem bi_put_c (o : Vb.Binary) (h0 : 0 ≤ o.off) (h3 : o.off ≤ 3) (w : World) : Calls Tryz.prog 110 #[bnv o] w fun e w' => e = .returned (vv o.put) ∧ Below w.heap.size w w' := by
  have hcs : o.off = 0 ∨ o.off = 1 ∨ o.off = 2 ∨ o.off = 3 := by omega
  clear h0 h3
  obtain ⟨op, ty, off, x, a, y, b⟩ := o
  simp only at hcs
  rcases hcs with rfl | rfl | rfl | rfl
  all_goals
    go_enter Tryz.func110, Tryz.ntmps110
    go_wp2
    refine Flow.bodyPost_k rfl (fun K hK => ?_)
    simp only [results, Tryz.results110]
    go_simp
    refine hK _ ⟨?_, ?_⟩
    · rfl
    · (repeat (first | exact Below.refl _ _ | refine Below.setCell ?_ (by first | omega | (simp <;> omega)) _ | refine Below.alloc ?_ (by first | omega | (simp <;> omega)) _ | refine Below.drew ?_ | refine Below.trans ?_ (Below.mono (by assumption) (by first | omega | (simp <;> omega)))))
theorem bi_lane1_c (o : Vb.Binary) (width : Nat) (hw : width = 8 ∨ width = 16 ∨ width = 32) (g : Nat) (f : BitVec 32 → BitVec 32 → BitVec 32 → BitVec 32 → BitVec 32)
    (hcf : ∀ args w, (callFunc g args).run Tryz.prog w = .ok (.enter g args) w)
    (hg : ∀ p q r s w, Calls Tryz.prog g #[uv p, uv q, uv r, uv s] w fun e w' => e = .returned (uv (f p q r s)) ∧ w' = w) (Bw Bg : Nat) (w : World) (h1 : w.cell? ⟨Bw, 0, none⟩ = some (iv (width : Nat))) (h2 : w.cell? ⟨Bg, 0, none⟩ = some (.func (.func g) #[] #[])) :
    Calls Tryz.prog 137 #[bnv o, .pointer (some ⟨Bw, 0, none⟩), .pointer (some ⟨Bg, 0, none⟩)] w fun e w' => e = .returned (vv (o.lane width f)) ∧ Below w.heap.size w w' := by
  have l1 := block_lt_of_cell h1
  have l2 := block_lt_of_cell h2
  simp only [] at l1 l2
  have l3 : Bw < w.heap.size + 1 := by omega
  have l4 : Bg < w.heap.size + 1 := by omega
  have HG := Lib.hid hg
  clear hg
  go_enter Tryz.func137, Tryz.ntmps137
  go_wp2_with (go_at_call 138; refine (each_c width hw _ _ _ _ g f hcf HG.out _).mono ?_; rintro e w1 ⟨rfl, hb⟩; obtain ⟨hc, hf⟩ := Flow.bcell hb; have hz := hb.size; (try simp only [World.size_alloc, World.size_setCell, World.size_drew] at hz); obtain ⟨z0, z1⟩ := Flow.zs2 (show w.heap.size + 2 ≤ w1.heap.size by omega))
  refine Flow.bodyPost_k rfl (fun K hK => ?_)
  simp only [results, Tryz.results137]
  go_simp
  refine hK _ ⟨?_, ?_⟩
  · rfl
  · (repeat (first | exact Below.refl _ _ | refine Below.setCell ?_ (by first | omega | (simp <;> omega)) _ | refine Below.alloc ?_ (by first | omega | (simp <;> omega)) _ | refine Below.drew ?_ | refine Below.trans ?_ (Below.mono (by assumption) (by first | omega | (simp <;> omega)))))
end Go.Proofs.YtboknfppecgjmaaGreat
namespace Go.Proofs.YtboknfppecgjmaaGreat
set_option linter.unusedVariables false
set_option linter.unusedSimpArgs false
open Go.RowKit Go.Shelf
attribute [local go_sem] U_eq_zero
theorem bi_less_c (o : Vb.Binary) (w : World) : Calls Tryz.prog 107 #[bnv o] w fun e w' => e = .returned (vv o.less) ∧ Below w.heap.size w w' := by
  by_cases h17 : o.op = 17
  · have e1 : (o.op == 17) = true := by simp [h17]
    have hv : o.less = Vb.one (Vb.lessOp o.op (Vb.least (o.x.a ^^^ 2147483648#32) o.a.a) (Vb.greatest (o.y.a ^^^ 2147483648#32) o.b.a) != Vb.lessOp o.op (Vb.greatest (o.x.a ^^^ 2147483648#32) o.a.a) (Vb.least (o.y.a ^^^ 2147483648#32) o.b.a)) := by
      simp [Vb.Binary.less, Vb.flip, h17]
    clear h17 
    have HV := Lib.hid hv
    clear hv
    go_enter Tryz.func107, Tryz.ntmps107
    go_wp2_with fail
    go_region
    go_wp2
    refine Flow.wp_region_below 26 (by kernel_rfl) (by kernel_rfl) (fun R hRc hRt => ?_)
    simp only [List.take_succ_cons, List.take_zero, List.drop_succ_cons, List.drop_zero]
    iterate 26
      first
        | refine Flow.flow_skip rfl ?_
        | (apply Flow.flow_step; rfl; (intro w1 hb; have hc := hRc.out w1 hb; go_simp; (first | with_reducible exact ⟨rfl, hb⟩ | (go_at_call 141; refine (least_c _ _ _).mono ?_; rintro e w2 ⟨rfl, rfl⟩; exact ⟨_, rfl, rfl, hb⟩) | (go_at_call 142; refine (greatest_c _ _ _).mono ?_; rintro e w2 ⟨rfl, rfl⟩; exact ⟨_, rfl, rfl, hb⟩) | (go_at_call 140; refine (bi_less1_c _ _ o.op _ _ (by go_simp) ).mono ?_; rintro e w2 ⟨rfl, hb2⟩; exact ⟨_, rfl, rfl, hRt.out _ _ hb hb2⟩) | (go_at_call 133; refine (one_c _ _).mono ?_; rintro e w2 ⟨rfl, hb2⟩; exact ⟨_, rfl, rfl, hRt.out _ _ hb hb2⟩))))
      simp only [Act.put, List.setIfInBounds_toArray, List.set_cons_zero, List.set_cons_succ]
    apply Flow.flow_nil
    clear hRc hRt
    intro w1 hb
    obtain ⟨hc, hf⟩ := Flow.bcell hb
    have hz := hb.size
    (try simp only [World.size_alloc, World.size_setCell, World.size_drew] at hz)
    obtain ⟨z0, z1⟩ := Flow.zs2 (show w.heap.size + 2 ≤ w1.heap.size by omega)
    go_wp2
    refine Flow.bodyPost_k rfl (fun K hK => ?_)
    simp only [results, Tryz.results107]
    go_simp
    refine hK _ ⟨?_, ?_⟩
    · exact ret_vv (x := Vb.one _) HV.out.symm
    · (repeat (first | exact Below.refl _ _ | refine Below.setCell ?_ (by first | omega | (simp <;> omega)) _ | refine Below.alloc ?_ (by first | omega | (simp <;> omega)) _ | refine Below.drew ?_ | refine Below.trans ?_ (Below.mono (by assumption) (by first | omega | (simp <;> omega)))))
  by_cases h19 : o.op = 19
  · have e1 : (o.op == 17) = false := by simp [h17]
    have e2 : (o.op == 19) = true := by simp [h19]
    have hv : o.less = Vb.one (Vb.lessOp o.op (Vb.least (o.x.a ^^^ 2147483648#32) o.a.a) (Vb.greatest (o.y.a ^^^ 2147483648#32) o.b.a) != Vb.lessOp o.op (Vb.greatest (o.x.a ^^^ 2147483648#32) o.a.a) (Vb.least (o.y.a ^^^ 2147483648#32) o.b.a)) := by
      simp [Vb.Binary.less, Vb.flip, h19]
    clear h17 h19 
    have HV := Lib.hid hv
    clear hv
    go_enter Tryz.func107, Tryz.ntmps107
    go_wp2_with fail
    go_region
    go_wp2
    refine Flow.wp_region_below 26 (by kernel_rfl) (by kernel_rfl) (fun R hRc hRt => ?_)
    simp only [List.take_succ_cons, List.take_zero, List.drop_succ_cons, List.drop_zero]
    iterate 26
      first
        | refine Flow.flow_skip rfl ?_
        | (apply Flow.flow_step; rfl; (intro w1 hb; have hc := hRc.out w1 hb; go_simp; (first | with_reducible exact ⟨rfl, hb⟩ | (go_at_call 141; refine (least_c _ _ _).mono ?_; rintro e w2 ⟨rfl, rfl⟩; exact ⟨_, rfl, rfl, hb⟩) | (go_at_call 142; refine (greatest_c _ _ _).mono ?_; rintro e w2 ⟨rfl, rfl⟩; exact ⟨_, rfl, rfl, hb⟩) | (go_at_call 140; refine (bi_less1_c _ _ o.op _ _ (by go_simp) ).mono ?_; rintro e w2 ⟨rfl, hb2⟩; exact ⟨_, rfl, rfl, hRt.out _ _ hb hb2⟩) | (go_at_call 133; refine (one_c _ _).mono ?_; rintro e w2 ⟨rfl, hb2⟩; exact ⟨_, rfl, rfl, hRt.out _ _ hb hb2⟩))))
      simp only [Act.put, List.setIfInBounds_toArray, List.set_cons_zero, List.set_cons_succ]
    apply Flow.flow_nil
    clear hRc hRt
    intro w1 hb
    obtain ⟨hc, hf⟩ := Flow.bcell hb
    have hz := hb.size
    (try simp only [World.size_alloc, World.size_setCell, World.size_drew] at hz)
    obtain ⟨z0, z1⟩ := Flow.zs2 (show w.heap.size + 2 ≤ w1.heap.size by omega)
    go_wp2
    refine Flow.bodyPost_k rfl (fun K hK => ?_)
    simp only [results, Tryz.results107]
    go_simp
    refine hK _ ⟨?_, ?_⟩
    · exact ret_vv (x := Vb.one _) HV.out.symm
    · (repeat (first | exact Below.refl _ _ | refine Below.setCell ?_ (by first | omega | (simp <;> omega)) _ | refine Below.alloc ?_ (by first | omega | (simp <;> omega)) _ | refine Below.drew ?_ | refine Below.trans ?_ (Below.mono (by assumption) (by first | omega | (simp <;> omega)))))
  · have e1 : (o.op == 17) = false := by simp [h17]
    have e2 : (o.op == 19) = false := by simp [h19]
    have hv : o.less = Vb.one (Vb.lessOp o.op (Vb.least (o.x.a) o.a.a) (Vb.greatest (o.y.a) o.b.a) != Vb.lessOp o.op (Vb.greatest (o.x.a) o.a.a) (Vb.least (o.y.a) o.b.a)) := by
      simp [Vb.Binary.less, Vb.flip, h17, h19]
    clear h17 h19 
    have HV := Lib.hid hv
    clear hv
    go_enter Tryz.func107, Tryz.ntmps107
    go_wp2_with fail
    go_region
    go_wp2
    refine Flow.wp_region_below 26 (by kernel_rfl) (by kernel_rfl) (fun R hRc hRt => ?_)
    simp only [List.take_succ_cons, List.take_zero, List.drop_succ_cons, List.drop_zero]
    iterate 26
      first
        | refine Flow.flow_skip rfl ?_
        | (apply Flow.flow_step; rfl; (intro w1 hb; have hc := hRc.out w1 hb; go_simp; (first | with_reducible exact ⟨rfl, hb⟩ | (go_at_call 141; refine (least_c _ _ _).mono ?_; rintro e w2 ⟨rfl, rfl⟩; exact ⟨_, rfl, rfl, hb⟩) | (go_at_call 142; refine (greatest_c _ _ _).mono ?_; rintro e w2 ⟨rfl, rfl⟩; exact ⟨_, rfl, rfl, hb⟩) | (go_at_call 140; refine (bi_less1_c _ _ o.op _ _ (by go_simp) ).mono ?_; rintro e w2 ⟨rfl, hb2⟩; exact ⟨_, rfl, rfl, hRt.out _ _ hb hb2⟩) | (go_at_call 133; refine (one_c _ _).mono ?_; rintro e w2 ⟨rfl, hb2⟩; exact ⟨_, rfl, rfl, hRt.out _ _ hb hb2⟩))))
      simp only [Act.put, List.setIfInBounds_toArray, List.set_cons_zero, List.set_cons_succ]
    apply Flow.flow_nil
    clear hRc hRt
    intro w1 hb
    obtain ⟨hc, hf⟩ := Flow.bcell hb
    have hz := hb.size
    (try simp only [World.size_alloc, World.size_setCell, World.size_drew] at hz)
    obtain ⟨z0, z1⟩ := Flow.zs2 (show w.heap.size + 2 ≤ w1.heap.size by omega)
    go_wp2
    refine Flow.bodyPost_k rfl (fun K hK => ?_)
    simp only [results, Tryz.results107]
    go_simp
    refine hK _ ⟨?_, ?_⟩
    · exact ret_vv (x := Vb.one _) HV.out.symm
    · (repeat (first | exact Below.refl _ _ | refine Below.setCell ?_ (by first | omega | (simp <;> omega)) _ | refine Below.alloc ?_ (by first | omega | (simp <;> omega)) _ | refine Below.drew ?_ | refine Below.trans ?_ (Below.mono (by assumption) (by first | omega | (simp <;> omega)))))
theorem lane_c (width : Int) (g : Nat) (w : World) : Calls Tryz.prog 97 #[iv width, .func (.func g) #[] #[]] w fun e w' => e = .returned (.func (.func 137) #[] #[.pointer (some ⟨w.heap.size, 0, none⟩), .pointer (some ⟨w.heap.size + 1, 0, none⟩)]) ∧ w' = (w.alloc (.cells #[iv width] 3)).alloc (.cells #[.func (.func g) #[] #[]] 115) := by
  go_enter Tryz.func97, Tryz.ntmps97
  go_wp2
  go_ret
  exact ⟨rfl, rfl⟩
end Go.Proofs.YtboknfppecgjmaaGreat
