/- The rules of binary operations that compare, move bytes, or lie in lanes. -/
import Derived.Test.YtboknfppecgjmaaGreatBinary
namespace Go.Proofs.YtboknfppecgjmaaGreat
set_option linter.unusedVariables false
set_option linter.unusedSimpArgs false
open Go.RowKit Go.Shelf
attribute [local go_sem] U_eq_zero
set_option maxHeartbeats 2000000 in
theorem bi_less_c (o : Vb.Binary) (w : World) : Calls Tryz.prog 107 #[bnv o] w fun e w' => e = .returned (vv o.less) ∧ Below w.heap.size w w' := by
  by_cases h17 : o.op = 17
  · have e1 : (o.op == 17) = true := by simp [h17]
    have hv : o.less = Vb.one (Vb.lessOp o.op (Vb.least (o.x.a ^^^ 2147483648#32) o.a.a) (Vb.greatest (o.y.a ^^^ 2147483648#32) o.b.a) != Vb.lessOp o.op (Vb.greatest (o.x.a ^^^ 2147483648#32) o.a.a) (Vb.least (o.y.a ^^^ 2147483648#32) o.b.a)) := by
      simp [Vb.Binary.less, Vb.flip, h17]
    clear h17 
    have HV := Lib.hid hv
    clear hv
    go_enter Tryz.func107, Tryz.ntmps107
    go_wp2_with fail
    go_region
    go_wp2
    refine Flow.wp_region_below 26 (by kernel_rfl) (by kernel_rfl) (fun R hRc hRt => ?_)
    simp only [List.take_succ_cons, List.take_zero, List.drop_succ_cons, List.drop_zero]
    iterate 26
      first
        | refine Flow.flow_skip rfl ?_
        | (apply Flow.flow_step; rfl; (intro w1 hb; have hc := hRc.out w1 hb; go_simp; (first | with_reducible exact ⟨rfl, hb⟩ | (go_at_call 141; refine (least_c _ _ _).mono ?_; rintro e w2 ⟨rfl, rfl⟩; exact ⟨_, rfl, rfl, hb⟩) | (go_at_call 142; refine (greatest_c _ _ _).mono ?_; rintro e w2 ⟨rfl, rfl⟩; exact ⟨_, rfl, rfl, hb⟩) | (go_at_call 140; refine (bi_less1_c _ _ o.op _ _ (by go_simp) ).mono ?_; rintro e w2 ⟨rfl, hb2⟩; exact ⟨_, rfl, rfl, hRt.out _ _ hb hb2⟩) | (go_at_call 133; refine (one_c _ _).mono ?_; rintro e w2 ⟨rfl, hb2⟩; exact ⟨_, rfl, rfl, hRt.out _ _ hb hb2⟩))))
      simp only [Act.put, List.setIfInBounds_toArray, List.set_cons_zero, List.set_cons_succ]
    apply Flow.flow_nil
    clear hRc hRt
    intro w1 hb
    obtain ⟨hc, hf⟩ := Flow.bcell hb
    have hz := hb.size
    (try simp only [World.size_alloc, World.size_setCell, World.size_drew] at hz)
    obtain ⟨z0, z1⟩ := Flow.zs2 (show w.heap.size + 2 ≤ w1.heap.size by omega)
    go_wp2
    refine Flow.bodyPost_k rfl (fun K hK => ?_)
    simp only [results, Tryz.results107]
    go_simp
    refine hK _ ⟨?_, ?_⟩
    · exact ret_vv (x := Vb.one _) HV.out.symm
    · (repeat (first | exact Below.refl _ _ | refine Below.setCell ?_ (by first | omega | (simp <;> omega)) _ | refine Below.alloc ?_ (by first | omega | (simp <;> omega)) _ | refine Below.drew ?_ | refine Below.trans ?_ (Below.mono (by assumption) (by first | omega | (simp <;> omega)))))
  by_cases h19 : o.op = 19
  · have e1 : (o.op == 17) = false := by simp [h17]
    have e2 : (o.op == 19) = true := by simp [h19]
    have hv : o.less = Vb.one (Vb.lessOp o.op (Vb.least (o.x.a ^^^ 2147483648#32) o.a.a) (Vb.greatest (o.y.a ^^^ 2147483648#32) o.b.a) != Vb.lessOp o.op (Vb.greatest (o.x.a ^^^ 2147483648#32) o.a.a) (Vb.least (o.y.a ^^^ 2147483648#32) o.b.a)) := by
      simp [Vb.Binary.less, Vb.flip, h19]
    clear h17 h19 
    have HV := Lib.hid hv
    clear hv
    go_enter Tryz.func107, Tryz.ntmps107
    go_wp2_with fail
    go_region
    go_wp2
    refine Flow.wp_region_below 26 (by kernel_rfl) (by kernel_rfl) (fun R hRc hRt => ?_)
    simp only [List.take_succ_cons, List.take_zero, List.drop_succ_cons, List.drop_zero]
    iterate 26
      first
        | refine Flow.flow_skip rfl ?_
        | (apply Flow.flow_step; rfl; (intro w1 hb; have hc := hRc.out w1 hb; go_simp; (first | with_reducible exact ⟨rfl, hb⟩ | (go_at_call 141; refine (least_c _ _ _).mono ?_; rintro e w2 ⟨rfl, rfl⟩; exact ⟨_, rfl, rfl, hb⟩) | (go_at_call 142; refine (greatest_c _ _ _).mono ?_; rintro e w2 ⟨rfl, rfl⟩; exact ⟨_, rfl, rfl, hb⟩) | (go_at_call 140; refine (bi_less1_c _ _ o.op _ _ (by go_simp) ).mono ?_; rintro e w2 ⟨rfl, hb2⟩; exact ⟨_, rfl, rfl, hRt.out _ _ hb hb2⟩) | (go_at_call 133; refine (one_c _ _).mono ?_; rintro e w2 ⟨rfl, hb2⟩; exact ⟨_, rfl, rfl, hRt.out _ _ hb hb2⟩))))
      simp only [Act.put, List.setIfInBounds_toArray, List.set_cons_zero, List.set_cons_succ]
    apply Flow.flow_nil
    clear hRc hRt
    intro w1 hb
    obtain ⟨hc, hf⟩ := Flow.bcell hb
    have hz := hb.size
    (try simp only [World.size_alloc, World.size_setCell, World.size_drew] at hz)
    obtain ⟨z0, z1⟩ := Flow.zs2 (show w.heap.size + 2 ≤ w1.heap.size by omega)
    go_wp2
    refine Flow.bodyPost_k rfl (fun K hK => ?_)
    simp only [results, Tryz.results107]
    go_simp
    refine hK _ ⟨?_, ?_⟩
    · exact ret_vv (x := Vb.one _) HV.out.symm
    · (repeat (first | exact Below.refl _ _ | refine Below.setCell ?_ (by first | omega | (simp <;> omega)) _ | refine Below.alloc ?_ (by first | omega | (simp <;> omega)) _ | refine Below.drew ?_ | refine Below.trans ?_ (Below.mono (by assumption) (by first | omega | (simp <;> omega)))))
  · have e1 : (o.op == 17) = false := by simp [h17]
    have e2 : (o.op == 19) = false := by simp [h19]
    have hv : o.less = Vb.one (Vb.lessOp o.op (Vb.least (o.x.a) o.a.a) (Vb.greatest (o.y.a) o.b.a) != Vb.lessOp o.op (Vb.greatest (o.x.a) o.a.a) (Vb.least (o.y.a) o.b.a)) := by
      simp [Vb.Binary.less, Vb.flip, h17, h19]
    clear h17 h19 
    have HV := Lib.hid hv
    clear hv
    go_enter Tryz.func107, Tryz.ntmps107
    go_wp2_with fail
    go_region
    go_wp2
    refine Flow.wp_region_below 26 (by kernel_rfl) (by kernel_rfl) (fun R hRc hRt => ?_)
    simp only [List.take_succ_cons, List.take_zero, List.drop_succ_cons, List.drop_zero]
    iterate 26
      first
        | refine Flow.flow_skip rfl ?_
        | (apply Flow.flow_step; rfl; (intro w1 hb; have hc := hRc.out w1 hb; go_simp; (first | with_reducible exact ⟨rfl, hb⟩ | (go_at_call 141; refine (least_c _ _ _).mono ?_; rintro e w2 ⟨rfl, rfl⟩; exact ⟨_, rfl, rfl, hb⟩) | (go_at_call 142; refine (greatest_c _ _ _).mono ?_; rintro e w2 ⟨rfl, rfl⟩; exact ⟨_, rfl, rfl, hb⟩) | (go_at_call 140; refine (bi_less1_c _ _ o.op _ _ (by go_simp) ).mono ?_; rintro e w2 ⟨rfl, hb2⟩; exact ⟨_, rfl, rfl, hRt.out _ _ hb hb2⟩) | (go_at_call 133; refine (one_c _ _).mono ?_; rintro e w2 ⟨rfl, hb2⟩; exact ⟨_, rfl, rfl, hRt.out _ _ hb hb2⟩))))
      simp only [Act.put, List.setIfInBounds_toArray, List.set_cons_zero, List.set_cons_succ]
    apply Flow.flow_nil
    clear hRc hRt
    intro w1 hb
    obtain ⟨hc, hf⟩ := Flow.bcell hb
    have hz := hb.size
    (try simp only [World.size_alloc, World.size_setCell, World.size_drew] at hz)
    obtain ⟨z0, z1⟩ := Flow.zs2 (show w.heap.size + 2 ≤ w1.heap.size by omega)
    go_wp2
    refine Flow.bodyPost_k rfl (fun K hK => ?_)
    simp only [results, Tryz.results107]
    go_simp
    refine hK _ ⟨?_, ?_⟩
    · exact ret_vv (x := Vb.one _) HV.out.symm
    · (repeat (first | exact Below.refl _ _ | refine Below.setCell ?_ (by first | omega | (simp <;> omega)) _ | refine Below.alloc ?_ (by first | omega | (simp <;> omega)) _ | refine Below.drew ?_ | refine Below.trans ?_ (Below.mono (by assumption) (by first | omega | (simp <;> omega)))))
set_option maxHeartbeats 1000000 in
theorem lane_c (width : Int) (g : Nat) (w : World) : Calls Tryz.prog 97 #[iv width, .func (.func g) #[] #[]] w fun e w' => e = .returned (.func (.func 137) #[] #[.pointer (some ⟨w.heap.size, 0, none⟩), .pointer (some ⟨w.heap.size + 1, 0, none⟩)]) ∧ w' = (w.alloc (.cells #[iv width] 3)).alloc (.cells #[.func (.func g) #[] #[]] 115) := by
  go_enter Tryz.func97, Tryz.ntmps97
  go_wp2
  go_ret
  exact ⟨rfl, rfl⟩
end Go.Proofs.YtboknfppecgjmaaGreat
