/- Part 10 of the proof's texts: Ref. -/
import Derived.Test.YtboknfppecgjmaaGreatExa2
import Derived.Test.YtboknfppecgjmaaGreatExa4
import Derived.Test.YtboknfppecgjmaaGreatExa6
set_option maxHeartbeats 16000000
namespace Go.Proofs.YtboknfppecgjmaaGreat
set_option linter.unusedVariables false
set_option linter.unusedSimpArgs false
open Go.RowKit Go.Shelf
theorem ret_bool' {a b : Bool} (h : b = a) : Ending.returned (.bool a) = .returned (.bool b) := by rw [h]
theorem lit_256 : Value.int .u32 256 = uv 256#32 := rfl
theorem lit_65536 : Value.int .u32 65536 = uv 65536#32 := rfl
attribute [local go_sem] lit_256 lit_65536
theorem rones_c (ty : Int) (w : World) : Calls Tryz.prog 17 #[iv ty] w fun e w' => e = .returned (vv (Vb.ones ty)) ∧ Below w.heap.size w w' := by
  go_enter Tryz.func17, Tryz.ntmps17
  go_wp2
  all_goals (refine Flow.bodyPost_k rfl (fun K hK => ?_); simp only [results, Tryz.results17]; go_simp; refine hK _ ⟨?_, ?_⟩)
  all_goals (first | (apply ret4 <;> simp_all [Vb.ones, V.word, V.all, V.zero]; done) | (repeat (first | exact Below.refl _ _ | refine Below.setCell ?_ (by first | omega | (simp <;> omega)) _ | refine Below.alloc ?_ (by first | omega | (simp <;> omega)) _ | refine Below.drew ?_ | refine Below.trans ?_ (Below.mono (by assumption) (by first | omega | (simp <;> omega))))))
theorem rand_c (x y : V) (w : World) : Calls Tryz.prog 15 #[vv x, vv y] w fun e w' => e = .returned (vv (V.and x y)) ∧ Below w.heap.size w w' := by
  go_enter Tryz.func15, Tryz.ntmps15
  go_wp2
  refine Flow.bodyPost_k rfl (fun K hK => ?_)
  simp only [results, Tryz.results15]
  go_simp
  refine hK _ ⟨?_, ?_⟩
  · rfl
  · (repeat (first | exact Below.refl _ _ | refine Below.setCell ?_ (by first | omega | (simp <;> omega)) _ | refine Below.alloc ?_ (by first | omega | (simp <;> omega)) _ | refine Below.drew ?_ | refine Below.trans ?_ (Below.mono (by assumption) (by first | omega | (simp <;> omega)))))
theorem ror_c (x y : V) (w : World) : Calls Tryz.prog 29 #[vv x, vv y] w fun e w' => e = .returned (vv (V.or x y)) ∧ Below w.heap.size w w' := by
  go_enter Tryz.func29, Tryz.ntmps29
  go_wp2
  refine Flow.bodyPost_k rfl (fun K hK => ?_)
  simp only [results, Tryz.results29]
  go_simp
  refine hK _ ⟨?_, ?_⟩
  · rfl
  · (repeat (first | exact Below.refl _ _ | refine Below.setCell ?_ (by first | omega | (simp <;> omega)) _ | refine Below.alloc ?_ (by first | omega | (simp <;> omega)) _ | refine Below.drew ?_ | refine Below.trans ?_ (Below.mono (by assumption) (by first | omega | (simp <;> omega)))))
theorem rxor_c (x y : V) (w : World) : Calls Tryz.prog 16 #[vv x, vv y] w fun e w' => e = .returned (vv (V.xor x y)) ∧ Below w.heap.size w w' := by
  go_enter Tryz.func16, Tryz.ntmps16
  go_wp2
  refine Flow.bodyPost_k rfl (fun K hK => ?_)
  simp only [results, Tryz.results16]
  go_simp
  refine hK _ ⟨?_, ?_⟩
  · rfl
  · (repeat (first | exact Below.refl _ _ | refine Below.setCell ?_ (by first | omega | (simp <;> omega)) _ | refine Below.alloc ?_ (by first | omega | (simp <;> omega)) _ | refine Below.drew ?_ | refine Below.trans ?_ (Below.mono (by assumption) (by first | omega | (simp <;> omega)))))
theorem rnot_c (ty : Int) (x : V) (w : World) : Calls Tryz.prog 14 #[iv ty, vv x] w fun e w' => e = .returned (vv (Rf.not ty x)) ∧ Below w.heap.size w w' := by
  go_enter Tryz.func14, Tryz.ntmps14
  go_wp2_with fail
  refine Flow.wp_region_below 4 (by kernel_rfl) (by kernel_rfl) (fun R hRc hRt => ?_)
  simp only [List.take_succ_cons, List.take_zero, List.drop_succ_cons, List.drop_zero]
  iterate 4
    first
      | refine Flow.flow_skip rfl ?_
      | (apply Flow.flow_step; rfl; (intro w1 hb; have hc := hRc.out w1 hb; go_simp; (first | with_reducible exact ⟨rfl, hb⟩ | (go_at_call 17; refine (rones_c _ _).mono ?_; rintro e w2 ⟨rfl, hb2⟩; exact ⟨_, rfl, rfl, hRt.out _ _ hb hb2⟩) | (go_at_call 16; refine (rxor_c _ _ _).mono ?_; rintro e w2 ⟨rfl, hb2⟩; exact ⟨_, rfl, rfl, hRt.out _ _ hb hb2⟩))))
    simp only [Act.put, List.setIfInBounds_toArray, List.set_cons_zero, List.set_cons_succ]
  apply Flow.flow_nil
  clear hRc hRt
  intro w1 hb
  obtain ⟨hc, hf⟩ := Flow.bcell hb
  have hz := hb.size
  (try simp only [World.size_alloc, World.size_setCell, World.size_drew] at hz)
  obtain ⟨z0, z1⟩ := Flow.zs2 (show w.heap.size + 2 ≤ w1.heap.size by omega)
  go_wp2
  refine Flow.bodyPost_k rfl (fun K hK => ?_)
  simp only [results, Tryz.results14]
  go_simp
  refine hK _ ⟨?_, ?_⟩
  · rfl
  · (repeat (first | exact Below.refl _ _ | refine Below.setCell ?_ (by first | omega | (simp <;> omega)) _ | refine Below.alloc ?_ (by first | omega | (simp <;> omega)) _ | refine Below.drew ?_ | refine Below.trans ?_ (Below.mono (by assumption) (by first | omega | (simp <;> omega)))))
theorem bw_fill (m x a b : BitVec 32) : m &&& ((x &&& (a ^^^ 4294967295#32)) ||| (b &&& a)) = ((x &&& ~~~a) ||| (b &&& a)) &&& m := by
  apply BitVec.eq_of_getLsbD_eq; intro i hi
  have h1 : (4294967295#32).getLsbD i = true := by
    have : (4294967295#32) = BitVec.allOnes 32 := rfl
    rw [this, BitVec.getLsbD_allOnes]; simp [hi]
  simp only [BitVec.getLsbD_and, BitVec.getLsbD_or, BitVec.getLsbD_xor, BitVec.getLsbD_not, hi, decide_true, Bool.true_and, h1]
  cases m.getLsbD i <;> cases x.getLsbD i <;> cases a.getLsbD i <;> cases b.getLsbD i <;> rfl
theorem fill_eq (ty : Int) (x a b : V) : Rf.fill ty x a b = Vb.fill ty x a b := ext4 (bw_fill _ _ _ _) (bw_fill _ _ _ _) (bw_fill _ _ _ _) (bw_fill _ _ _ _)
theorem rfill_c (ty : Int) (x a b : V) (w : World) : Calls Tryz.prog 38 #[iv ty, vv x, vv a, vv b] w fun e w' => e = .returned (vv (Vb.fill ty x a b)) ∧ Below w.heap.size w w' := by
  have HV := Lib.hid (fill_eq ty x a b)
  go_enter Tryz.func38, Tryz.ntmps38
  go_wp2_with fail
  refine (rones_c _ _).mono ?_
  rintro e w1 ⟨rfl, hb⟩; obtain ⟨hc, hf⟩ := Flow.bcell hb; have hz := hb.size; (try simp only [World.size_alloc, World.size_setCell, World.size_drew] at hz); obtain ⟨z0, z1, z2, z3⟩ := Flow.zs4 (show w.heap.size + 4 ≤ w1.heap.size by omega)
  go_wp2_with fail
  refine Flow.wp_region_below 11 (by kernel_rfl) (by kernel_rfl) (fun R hRc hRt => ?_)
  simp only [List.take_succ_cons, List.take_zero, List.drop_succ_cons, List.drop_zero]
  iterate 11
    first
      | refine Flow.flow_skip rfl ?_
      | (apply Flow.flow_step; rfl; (intro w1 hb; have hc := hRc.out w1 hb; go_simp; (first | with_reducible exact ⟨rfl, hb⟩ | (go_at_call 16; refine (rxor_c _ V.all _ ).mono ?_; rintro e w2 ⟨rfl, hb2⟩; exact ⟨_, rfl, rfl, hRt.out _ _ hb hb2⟩) | (go_at_call 15; refine (rand_c _ _ _).mono ?_; rintro e w2 ⟨rfl, hb2⟩; exact ⟨_, rfl, rfl, hRt.out _ _ hb hb2⟩) | (go_at_call 29; refine (ror_c _ _ _).mono ?_; rintro e w2 ⟨rfl, hb2⟩; exact ⟨_, rfl, rfl, hRt.out _ _ hb hb2⟩))))
    simp only [Act.put, List.setIfInBounds_toArray, List.set_cons_zero, List.set_cons_succ]
  apply Flow.flow_nil
  clear hRc hRt
  intro w1 hb
  obtain ⟨hc, hf⟩ := Flow.bcell hb
  have hz := hb.size
  (try simp only [World.size_alloc, World.size_setCell, World.size_drew] at hz)
  obtain ⟨z0, z1, z2, z3, z4⟩ := Flow.zs5 (show w.heap.size + 5 ≤ w1.heap.size by omega)
  go_wp2
  refine Flow.bodyPost_k rfl (fun K hK => ?_)
  simp only [results, Tryz.results38]
  go_simp
  refine hK _ ⟨?_, ?_⟩
  · exact ret_vv HV.out
  · (repeat (first | exact Below.refl _ _ | refine Below.setCell ?_ (by first | omega | (simp <;> omega)) _ | refine Below.alloc ?_ (by first | omega | (simp <;> omega)) _ | refine Below.drew ?_ | refine Below.trans ?_ (Below.mono (by assumption) (by first | omega | (simp <;> omega)))))
theorem bytes_c (ty : Int) (w : World) : Calls Tryz.prog 37 #[iv ty] w fun e w' => e = .returned (iv (Rf.bytes ty)) ∧ w' = w := by
  go_enter Tryz.func37, Tryz.ntmps37
  go_wp2
  all_goals go_ret
  all_goals (refine ⟨?_, rfl⟩)
  all_goals (go_tidy; simp_all [Rf.bytes])
theorem fits_v (x : V) : Rf.fits 128 x = true := by simp [Rf.fits, Rf.bytes]
set_option maxRecDepth 100000 in
theorem rfits_c (ty : Int) (x : V) (w : World) : Calls Tryz.prog 35 #[iv ty, vv x] w fun e w' => e = .returned (.bool (Rf.fits ty x)) ∧ Below w.heap.size w w' := by
  by_cases h128 : ty = 128
  · subst h128
    rw [fits_v]
    go_enter Tryz.func35, Tryz.ntmps35
    go_wp2_with (go_at_call 37; refine (bytes_c _ _).mono ?_; rintro e w1 ⟨rfl, rfl⟩)
    go_ret
    exact ⟨rfl, by (repeat (first | exact Below.refl _ _ | refine Below.setCell ?_ (by first | omega | (simp <;> omega)) _ | refine Below.alloc ?_ (by first | omega | (simp <;> omega)) _ | refine Below.drew ?_ | refine Below.trans ?_ (Below.mono (by assumption) (by first | omega | (simp <;> omega)))))⟩
  have k0 : (ty == 128) = false := by simp [h128]
  have k0' : (ty != 128) = true := by simp [h128]
  cases hb1 : decide (x.b = 0#32)
  · have HV := Lib.hid (show Rf.fits ty x = false by simp [Rf.fits, h128, of_decide_eq_false hb1])
    clear h128
    go_enter Tryz.func35, Tryz.ntmps35
    go_wp2_with fail
    go_ret
    exact ⟨ret_bool' HV.out, by (repeat (first | exact Below.refl _ _ | refine Below.setCell ?_ (by first | omega | (simp <;> omega)) _ | refine Below.alloc ?_ (by first | omega | (simp <;> omega)) _ | refine Below.drew ?_ | refine Below.trans ?_ (Below.mono (by assumption) (by first | omega | (simp <;> omega)))))⟩
  cases hb2 : decide (x.c = 0#32)
  · have HV := Lib.hid (show Rf.fits ty x = false by simp [Rf.fits, h128, of_decide_eq_false hb2])
    clear h128
    go_enter Tryz.func35, Tryz.ntmps35
    go_wp2_with fail
    go_ret
    exact ⟨ret_bool' HV.out, by (repeat (first | exact Below.refl _ _ | refine Below.setCell ?_ (by first | omega | (simp <;> omega)) _ | refine Below.alloc ?_ (by first | omega | (simp <;> omega)) _ | refine Below.drew ?_ | refine Below.trans ?_ (Below.mono (by assumption) (by first | omega | (simp <;> omega)))))⟩
  cases hb3 : decide (x.d = 0#32)
  · have HV := Lib.hid (show Rf.fits ty x = false by simp [Rf.fits, h128, of_decide_eq_false hb3])
    clear h128
    go_enter Tryz.func35, Tryz.ntmps35
    go_wp2_with fail
    go_ret
    exact ⟨ret_bool' HV.out, by (repeat (first | exact Below.refl _ _ | refine Below.setCell ?_ (by first | omega | (simp <;> omega)) _ | refine Below.alloc ?_ (by first | omega | (simp <;> omega)) _ | refine Below.drew ?_ | refine Below.trans ?_ (Below.mono (by assumption) (by first | omega | (simp <;> omega)))))⟩
  have e1 := of_decide_eq_true hb1
  have e2 := of_decide_eq_true hb2
  have e3 := of_decide_eq_true hb3
  by_cases h1 : ty = 1
  · subst h1
    have HV := Lib.hid (show Rf.fits 1 x = decide (x.a < 2#32) by simp [Rf.fits, e1, e2, e3])
    clear h128 e1 e2 e3
    go_enter Tryz.func35, Tryz.ntmps35
    go_wp2_with fail
    go_ret
    exact ⟨ret_bool' HV.out, by (repeat (first | exact Below.refl _ _ | refine Below.setCell ?_ (by first | omega | (simp <;> omega)) _ | refine Below.alloc ?_ (by first | omega | (simp <;> omega)) _ | refine Below.drew ?_ | refine Below.trans ?_ (Below.mono (by assumption) (by first | omega | (simp <;> omega)))))⟩
  by_cases h8 : ty = 8
  · subst h8
    have HV := Lib.hid (show Rf.fits 8 x = decide (x.a < 256#32) by simp [Rf.fits, e1, e2, e3])
    clear h128 h1 e1 e2 e3
    go_enter Tryz.func35, Tryz.ntmps35
    go_wp2_with fail
    go_ret
    exact ⟨ret_bool' HV.out, by (repeat (first | exact Below.refl _ _ | refine Below.setCell ?_ (by first | omega | (simp <;> omega)) _ | refine Below.alloc ?_ (by first | omega | (simp <;> omega)) _ | refine Below.drew ?_ | refine Below.trans ?_ (Below.mono (by assumption) (by first | omega | (simp <;> omega)))))⟩
  by_cases h16 : ty = 16
  · subst h16
    have HV := Lib.hid (show Rf.fits 16 x = decide (x.a < 65536#32) by simp [Rf.fits, e1, e2, e3])
    clear h128 h1 h8 e1 e2 e3
    go_enter Tryz.func35, Tryz.ntmps35
    go_wp2_with fail
    go_ret
    exact ⟨ret_bool' HV.out, by (repeat (first | exact Below.refl _ _ | refine Below.setCell ?_ (by first | omega | (simp <;> omega)) _ | refine Below.alloc ?_ (by first | omega | (simp <;> omega)) _ | refine Below.drew ?_ | refine Below.trans ?_ (Below.mono (by assumption) (by first | omega | (simp <;> omega)))))⟩
  have k1 : (ty == 1) = false := by simp [h1]
  have k8 : (ty == 8) = false := by simp [h8]
  have k16 : (ty == 16) = false := by simp [h16]
  have HV := Lib.hid (show Rf.fits ty x = decide (0 < Rf.bytes ty) by simp [Rf.fits, h128, h1, h8, h16, e1, e2, e3])
  clear h128 h1 h8 h16 e1 e2 e3
  go_enter Tryz.func35, Tryz.ntmps35
  go_wp2_with (go_at_call 37; refine (bytes_c _ _).mono ?_; rintro e w1 ⟨rfl, rfl⟩)
  go_ret
  exact ⟨ret_bool' HV.out, by (repeat (first | exact Below.refl _ _ | refine Below.setCell ?_ (by first | omega | (simp <;> omega)) _ | refine Below.alloc ?_ (by first | omega | (simp <;> omega)) _ | refine Below.drew ?_ | refine Below.trans ?_ (Below.mono (by assumption) (by first | omega | (simp <;> omega)))))⟩
theorem fits_c (ty : Int) (x : V) (w : World) : Calls Tryz.prog 35 #[iv ty, vv x] w fun e w' => e = .returned (.bool (Vb.is ty x)) ∧ Below w.heap.size w w' := by
  rw [is_eq_fits]
  exact rfits_c ty x w
theorem ris_c (ty : Int) (x : V) (w : World) : Calls Tryz.prog 10 #[iv ty, vv x] w fun e w' => e = .returned (.bool (Vb.is ty x)) ∧ Below w.heap.size w w' := by
  go_enter Tryz.func10, Tryz.ntmps10
  go_wp2_with (go_at_call 35; refine (fits_c _ _ _).mono ?_; rintro e w1 ⟨rfl, hb⟩; obtain ⟨hc, hf⟩ := Flow.bcell hb; have hz := hb.size; (try simp only [World.size_alloc, World.size_setCell, World.size_drew] at hz); obtain z0 := Flow.zs1 (show w.heap.size + 1 ≤ w1.heap.size by omega))
  go_ret
  exact ⟨rfl, by (repeat (first | exact Below.refl _ _ | refine Below.setCell ?_ (by first | omega | (simp <;> omega)) _ | refine Below.alloc ?_ (by first | omega | (simp <;> omega)) _ | refine Below.drew ?_ | refine Below.trans ?_ (Below.mono (by assumption) (by first | omega | (simp <;> omega)))))⟩
end Go.Proofs.YtboknfppecgjmaaGreat
