/- VbitsDual: the walk. -/
import Derived.Test.YtboknfppecgjmaaLanesL
import Derived.Test.YtboknfppecgjmaaRef
import Derived.Test.YtboknfppecgjmaaFlowS
namespace Go.Proofs.Ytboknfppecgjmaa
set_option linter.unusedVariables false
set_option linter.unusedSimpArgs false
open Go.RowKit Go.Shelf
attribute [local go_sem] U_eq_zero
set_option maxHeartbeats 2000000 in
theorem dual1_c (op1 op2 : Int) (x1 a1 y1 b1 x2 a2 y2 b2 : BitVec 32) (s : V) (H1 : Hid (LbinC op1 x1 a1 y1 b1 s)) (H2 : Hid (LbinC op2 x2 a2 y2 b2 s)) (w : World) :
    Calls Try.prog 28 #[iv op1, uv x1, uv a1, uv y1, uv b1, iv op2, uv x2, uv a2, uv y2, uv b2] w fun e w' => e = .returned (.bool true) ∧ Below w.heap.size w w' := by
  go_enter Try.func28, Try.ntmps28
  go_wp2_with fail
  (refine (H1.out _ ).mono ?_; rintro e u1 ⟨rfl, hb⟩; obtain ⟨hc, hf⟩ := Flow.bcell hb; have hz := hb.size; (try simp only [World.size_alloc, World.size_setCell, World.size_drew] at hz))
  go_wp2_with fail
  (refine (H2.out _ ).mono ?_; rintro e u2 ⟨rfl, hb⟩; obtain ⟨hc, hf⟩ := Flow.bcell hb; have hz := hb.size; (try simp only [World.size_alloc, World.size_setCell, World.size_drew] at hz))
  have h12 : u1.heap.size < u2.heap.size := by omega
  go_wp2_with fail
  go_ret
  exact ⟨rfl, by (repeat (first | exact Below.refl _ _ | refine Below.setCell ?_ (by first | omega | (simp <;> omega)) _ | refine Below.alloc ?_ (by first | omega | (simp <;> omega)) _ | refine Below.drew ?_ | refine Below.trans ?_ (Below.mono (by assumption) (by first | omega | (simp <;> omega)))))⟩
abbrev DualC (op1 : Int) (x1 a1 y1 b1 : BitVec 32) (op2 : Int) (x2 a2 y2 b2 : BitVec 32) : Prop := ∀ w, Calls Try.prog 28 #[iv op1, uv x1, uv a1, uv y1, uv b1, iv op2, uv x2, uv a2, uv y2, uv b2] w fun e w' => e = .returned (.bool true) ∧ Below w.heap.size w w'
abbrev NotC (ty : Int) (x y : V) : Prop := ∀ w, Calls Try.prog 27 #[iv ty, vv x] w fun e w' => e = .returned (vv y) ∧ Below w.heap.size w w'
set_option maxRecDepth 100000 in
set_option maxHeartbeats 8000000 in
theorem vdual_w (HS : Hid SaneC) (ty : Int) (x a y b s : V) (w : World) (h1 : Vb.is ty x = true) (h2 : Vb.is ty a = true) (h3 : Vb.is ty y = true) (h4 : Vb.is ty b = true)
    (C1 : Hid (BinC 9 ty 0 x a y b s 0)) (C2 : Hid (BinC 8 ty 0 (Rf.not ty x) a (Rf.not ty y) b s 0))
    (D1 : Hid (DualC 2 x.a a.a y.a b.a 1 (~~~x.a) a.a y.a b.a)) (D2 : Hid (DualC 16 x.a a.a y.a b.a 18 y.a b.a x.a a.a)) (D3 : Hid (DualC 17 x.a a.a y.a b.a 19 y.a b.a x.a a.a)) (D4 : Hid (DualC 17 x.a a.a y.a b.a 16 (x.a ^^^ 2147483648#32) a.a (y.a ^^^ 2147483648#32) b.a)) :
    Calls Try.prog 7 #[iv ty, vv x, vv a, vv y, vv b] w fun e w' => e = .returned (.bool true) ∧ Below w.heap.size w w' := by
  go_enter Try.func7, Try.ntmps7
  go_wp2_with (first | (go_at_call 11; refine (HS.out _ ).mono ?_; rintro e w1 ⟨rfl, hb⟩; obtain ⟨hc, hf⟩ := Flow.bcell hb; have hz := hb.size; (try simp only [World.size_alloc, World.size_setCell, World.size_drew] at hz); obtain ⟨z0, z1, z2, z3⟩ := Flow.zs4 (show w.heap.size + 4 ≤ w1.heap.size by omega)) | (go_at_call 26; refine (ris_c _ _ _).mono ?_; rintro e w1 ⟨rfl, hb⟩; obtain ⟨hc, hf⟩ := Flow.bcell hb; have hz := hb.size; (try simp only [World.size_alloc, World.size_setCell, World.size_drew] at hz); obtain ⟨z0, z1, z2, z3⟩ := Flow.zs4 (show w.heap.size + 4 ≤ w1.heap.size by omega)))
  (refine (C1.out _ ).mono ?_; rintro e u1 ⟨rfl, hb⟩; obtain ⟨hc, hf⟩ := Flow.bcell hb; have hz := hb.size; (try simp only [World.size_alloc, World.size_setCell, World.size_drew] at hz); obtain ⟨z0, z1, z2, z3⟩ := Flow.zs4 (show w.heap.size + 4 ≤ u1.heap.size by omega))
  go_wp2_with fail
  refine FlowS.wp_region_store 13 14 15 13 _ (uv 0#32) (uv 0#32) (uv 0#32) (uv 0#32) (uv (s).a) (uv (s).b) (uv (s).c) (uv (s).d) 24 rfl rfl rfl (fun a w => by kernel_rfl) (by kernel_rfl) (by omega) (by omega) (by kernel_rfl) (by kernel_rfl) (fun R hRc hRt hRo hRs => ?_)
  simp only [List.take_succ_cons, List.take_zero, List.drop_succ_cons, List.drop_zero]
  iterate 15
    first
      | (refine FlowS.flow_make rfl ?_)
      | (refine FlowS.flow_store rfl rfl rfl ?_ ?_; (intro b1 w1 hb; have hzb := hRo.out b1 w1 hb; obtain ⟨hoc, hof, hos⟩ := FlowA.made_cells hzb; clear hzb; simp only [Act.put, List.setIfInBounds_toArray, List.set_cons_zero, List.set_cons_succ]; go_simp; exact hRs.out _ _ hb))
      | refine FlowS.flow_skip rfl rfl rfl ?_
      | (apply FlowS.flow_step; rfl; rfl; rfl; (intro s1 w1 hb; have hc := hRc.out s1 w1 hb; go_simp; (first | with_reducible exact ⟨rfl, hb⟩ | (go_at_call 27; refine (rnot_c _ _ _).mono ?_; rintro e w2 ⟨rfl, hb2⟩; exact ⟨_, rfl, rfl, hRt.out _ _ _ hb hb2⟩) | (go_at_call 25; refine (C2.out _ ).mono ?_; rintro e w2 ⟨rfl, hb2⟩; exact ⟨_, rfl, rfl, hRt.out _ _ _ hb hb2⟩))))
    simp only [Act.put, List.setIfInBounds_toArray, List.set_cons_zero, List.set_cons_succ]
  apply FlowS.flow_nil
  clear hRc hRt hRo hRs
  intro b2 u2 hb hbb hob
  simp only [Act.put, List.setIfInBounds_toArray, List.set_cons_zero, List.set_cons_succ]
  obtain ⟨hc, hf⟩ := Flow.bcell hb
  have hz := hb.size
  (try simp only [World.size_alloc, World.size_setCell, World.size_drew] at hz)
  (try simp only [World.size_alloc, World.size_setCell, World.size_drew] at hbb)
  obtain ⟨hoc, hof, hos⟩ := FlowA.made_cells hob
  clear hob
  obtain ⟨z0, z1, z2, z3⟩ := Flow.zs4 (show w.heap.size + 4 ≤ u2.heap.size by omega)
  have h12 : u1.heap.size < u2.heap.size := by omega
  have h13 : u1.heap.size < b2 := by omega
  have h14 : w.heap.size < b2 := by omega
  have h15 : w.heap.size + 1 < b2 := by omega
  have h16 : w.heap.size + 1 + 1 < b2 := by omega
  have h17 : w.heap.size + 1 + 1 + 1 < b2 := by omega
  go_wp2_with fail
  refine Flow.wp_region_below 11 (by kernel_rfl) (by kernel_rfl) (fun R hRc hRt => ?_)
  simp only [List.take_succ_cons, List.take_zero, List.drop_succ_cons, List.drop_zero]
  iterate 11
    first
      | refine Flow.flow_skip rfl ?_
      | (apply Flow.flow_step; rfl; (intro w1 hb; have hc := hRc.out w1 hb; go_simp; (first | with_reducible exact ⟨rfl, hb⟩)))
    simp only [Act.put, List.setIfInBounds_toArray, List.set_cons_zero, List.set_cons_succ]
  apply Flow.flow_nil
  clear hRc hRt
  intro w1 hb
  obtain ⟨hc, hf⟩ := Flow.bcell hb
  have hz := hb.size
  (try simp only [World.size_alloc, World.size_setCell, World.size_drew] at hz)
  obtain ⟨z0, z1, z2, z3⟩ := Flow.zs4 (show w.heap.size + 4 ≤ w1.heap.size by omega)
  go_wp2_with fail
  (refine (D1.out _ ).mono ?_; rintro e v1 ⟨rfl, hb⟩; obtain ⟨hc, hf⟩ := Flow.bcell hb; have hz := hb.size; (try simp only [World.size_alloc, World.size_setCell, World.size_drew] at hz); obtain ⟨z0, z1, z2, z3⟩ := Flow.zs4 (show w.heap.size + 4 ≤ v1.heap.size by omega))
  go_wp2_with fail
  (refine (D2.out _ ).mono ?_; rintro e v2 ⟨rfl, hb⟩; obtain ⟨hc, hf⟩ := Flow.bcell hb; have hz := hb.size; (try simp only [World.size_alloc, World.size_setCell, World.size_drew] at hz); obtain ⟨z0, z1, z2, z3⟩ := Flow.zs4 (show w.heap.size + 4 ≤ v2.heap.size by omega))
  go_wp2_with fail
  (refine (D3.out _ ).mono ?_; rintro e v3 ⟨rfl, hb⟩; obtain ⟨hc, hf⟩ := Flow.bcell hb; have hz := hb.size; (try simp only [World.size_alloc, World.size_setCell, World.size_drew] at hz); obtain ⟨z0, z1, z2, z3⟩ := Flow.zs4 (show w.heap.size + 4 ≤ v3.heap.size by omega))
  go_wp2_with fail
  (refine (D4.out _ ).mono ?_; rintro e v4 ⟨rfl, hb⟩; obtain ⟨hc, hf⟩ := Flow.bcell hb; have hz := hb.size; (try simp only [World.size_alloc, World.size_setCell, World.size_drew] at hz); obtain ⟨z0, z1, z2, z3⟩ := Flow.zs4 (show w.heap.size + 4 ≤ v4.heap.size by omega))
  go_wp2_with fail
  go_ret
  exact ⟨rfl, by (repeat (first | exact Below.refl _ _ | refine Below.setCell ?_ (by first | omega | (simp <;> omega)) _ | refine Below.alloc ?_ (by first | omega | (simp <;> omega)) _ | refine Below.drew ?_ | refine Below.trans ?_ (Below.mono (by assumption) (by first | omega | (simp <;> omega)))))⟩
set_option maxRecDepth 100000 in
set_option maxHeartbeats 8000000 in
theorem vdual_e1 (HS : Hid SaneC) (ty : Int) (x a y b : V) (w : World)  (h1 : Vb.is ty x = false) :
    Calls Try.prog 7 #[iv ty, vv x, vv a, vv y, vv b] w fun e w' => e = .returned (.bool true) ∧ Below w.heap.size w w' := by
  go_enter Try.func7, Try.ntmps7
  go_wp2_with (first | (go_at_call 11; refine (HS.out _ ).mono ?_; rintro e w1 ⟨rfl, hb⟩; obtain ⟨hc, hf⟩ := Flow.bcell hb; have hz := hb.size; (try simp only [World.size_alloc, World.size_setCell, World.size_drew] at hz); obtain ⟨z0, z1, z2, z3⟩ := Flow.zs4 (show w.heap.size + 4 ≤ w1.heap.size by omega)) | (go_at_call 26; refine (ris_c _ _ _).mono ?_; rintro e w1 ⟨rfl, hb⟩; obtain ⟨hc, hf⟩ := Flow.bcell hb; have hz := hb.size; (try simp only [World.size_alloc, World.size_setCell, World.size_drew] at hz); obtain ⟨z0, z1, z2, z3⟩ := Flow.zs4 (show w.heap.size + 4 ≤ w1.heap.size by omega)))
  go_ret
  exact ⟨rfl, by (repeat (first | exact Below.refl _ _ | refine Below.setCell ?_ (by first | omega | (simp <;> omega)) _ | refine Below.alloc ?_ (by first | omega | (simp <;> omega)) _ | refine Below.drew ?_ | refine Below.trans ?_ (Below.mono (by assumption) (by first | omega | (simp <;> omega)))))⟩
set_option maxRecDepth 100000 in
set_option maxHeartbeats 8000000 in
theorem vdual_e2 (HS : Hid SaneC) (ty : Int) (x a y b : V) (w : World) (h1 : Vb.is ty x = true) (h2 : Vb.is ty a = false) :
    Calls Try.prog 7 #[iv ty, vv x, vv a, vv y, vv b] w fun e w' => e = .returned (.bool true) ∧ Below w.heap.size w w' := by
  go_enter Try.func7, Try.ntmps7
  go_wp2_with (first | (go_at_call 11; refine (HS.out _ ).mono ?_; rintro e w1 ⟨rfl, hb⟩; obtain ⟨hc, hf⟩ := Flow.bcell hb; have hz := hb.size; (try simp only [World.size_alloc, World.size_setCell, World.size_drew] at hz); obtain ⟨z0, z1, z2, z3⟩ := Flow.zs4 (show w.heap.size + 4 ≤ w1.heap.size by omega)) | (go_at_call 26; refine (ris_c _ _ _).mono ?_; rintro e w1 ⟨rfl, hb⟩; obtain ⟨hc, hf⟩ := Flow.bcell hb; have hz := hb.size; (try simp only [World.size_alloc, World.size_setCell, World.size_drew] at hz); obtain ⟨z0, z1, z2, z3⟩ := Flow.zs4 (show w.heap.size + 4 ≤ w1.heap.size by omega)))
  go_ret
  exact ⟨rfl, by (repeat (first | exact Below.refl _ _ | refine Below.setCell ?_ (by first | omega | (simp <;> omega)) _ | refine Below.alloc ?_ (by first | omega | (simp <;> omega)) _ | refine Below.drew ?_ | refine Below.trans ?_ (Below.mono (by assumption) (by first | omega | (simp <;> omega)))))⟩
set_option maxRecDepth 100000 in
set_option maxHeartbeats 8000000 in
theorem vdual_e3 (HS : Hid SaneC) (ty : Int) (x a y b : V) (w : World) (h1 : Vb.is ty x = true) (h2 : Vb.is ty a = true) (h3 : Vb.is ty y = false) :
    Calls Try.prog 7 #[iv ty, vv x, vv a, vv y, vv b] w fun e w' => e = .returned (.bool true) ∧ Below w.heap.size w w' := by
  go_enter Try.func7, Try.ntmps7
  go_wp2_with (first | (go_at_call 11; refine (HS.out _ ).mono ?_; rintro e w1 ⟨rfl, hb⟩; obtain ⟨hc, hf⟩ := Flow.bcell hb; have hz := hb.size; (try simp only [World.size_alloc, World.size_setCell, World.size_drew] at hz); obtain ⟨z0, z1, z2, z3⟩ := Flow.zs4 (show w.heap.size + 4 ≤ w1.heap.size by omega)) | (go_at_call 26; refine (ris_c _ _ _).mono ?_; rintro e w1 ⟨rfl, hb⟩; obtain ⟨hc, hf⟩ := Flow.bcell hb; have hz := hb.size; (try simp only [World.size_alloc, World.size_setCell, World.size_drew] at hz); obtain ⟨z0, z1, z2, z3⟩ := Flow.zs4 (show w.heap.size + 4 ≤ w1.heap.size by omega)))
  go_ret
  exact ⟨rfl, by (repeat (first | exact Below.refl _ _ | refine Below.setCell ?_ (by first | omega | (simp <;> omega)) _ | refine Below.alloc ?_ (by first | omega | (simp <;> omega)) _ | refine Below.drew ?_ | refine Below.trans ?_ (Below.mono (by assumption) (by first | omega | (simp <;> omega)))))⟩
set_option maxRecDepth 100000 in
set_option maxHeartbeats 8000000 in
theorem vdual_e4 (HS : Hid SaneC) (ty : Int) (x a y b : V) (w : World) (h1 : Vb.is ty x = true) (h2 : Vb.is ty a = true) (h3 : Vb.is ty y = true) (h4 : Vb.is ty b = false) :
    Calls Try.prog 7 #[iv ty, vv x, vv a, vv y, vv b] w fun e w' => e = .returned (.bool true) ∧ Below w.heap.size w w' := by
  go_enter Try.func7, Try.ntmps7
  go_wp2_with (first | (go_at_call 11; refine (HS.out _ ).mono ?_; rintro e w1 ⟨rfl, hb⟩; obtain ⟨hc, hf⟩ := Flow.bcell hb; have hz := hb.size; (try simp only [World.size_alloc, World.size_setCell, World.size_drew] at hz); obtain ⟨z0, z1, z2, z3⟩ := Flow.zs4 (show w.heap.size + 4 ≤ w1.heap.size by omega)) | (go_at_call 26; refine (ris_c _ _ _).mono ?_; rintro e w1 ⟨rfl, hb⟩; obtain ⟨hc, hf⟩ := Flow.bcell hb; have hz := hb.size; (try simp only [World.size_alloc, World.size_setCell, World.size_drew] at hz); obtain ⟨z0, z1, z2, z3⟩ := Flow.zs4 (show w.heap.size + 4 ≤ w1.heap.size by omega)))
  go_ret
  exact ⟨rfl, by (repeat (first | exact Below.refl _ _ | refine Below.setCell ?_ (by first | omega | (simp <;> omega)) _ | refine Below.alloc ?_ (by first | omega | (simp <;> omega)) _ | refine Below.drew ?_ | refine Below.trans ?_ (Below.mono (by assumption) (by first | omega | (simp <;> omega)))))⟩
theorem dual_gives {op1 op2 : Int} {x1 a1 y1 b1 x2 a2 y2 b2 : BitVec 32} (h0 : (Vb.bin op1 32 0 (V.word x1) (V.word a1) (V.word y1) (V.word b1)).2 = 0)
    (h : Vb.bin op1 32 0 (V.word x1) (V.word a1) (V.word y1) (V.word b1) = Vb.bin op2 32 0 (V.word x2) (V.word a2) (V.word y2) (V.word b2)) : DualC op1 x1 a1 y1 b1 op2 x2 a2 y2 b2 :=
  fun w => dual1_c op1 op2 x1 a1 y1 b1 x2 a2 y2 b2 _ (lbin_gives (s := (Vb.bin op1 32 0 (V.word x1) (V.word a1) (V.word y1) (V.word b1)).1) (Prod.ext rfl h0)) (lbin_gives (by rw [← h]; exact Prod.ext rfl h0)) w
theorem vdual_c (HS : Hid SaneC) (ty : Int) (x a y b : V) (w : World) :
    Calls Try.prog 7 #[iv ty, vv x, vv a, vv y, vv b] w fun e w' => e = .returned (.bool true) ∧ Below w.heap.size w w' := by
  cases h1 : Vb.is ty x
  · exact vdual_e1 HS ty x a y b w h1
  cases h2 : Vb.is ty a
  · exact vdual_e2 HS ty x a y b w h1 h2
  cases h3 : Vb.is ty y
  · exact vdual_e3 HS ty x a y b w h1 h2 h3
  cases h4 : Vb.is ty b
  · exact vdual_e4 HS ty x a y b w h1 h2 h3 h4
  obtain ⟨k1, k2⟩ := dual_or h1 h2 h3 h4
  have z : ∀ op : Int, (op = 2 ∨ op = 16 ∨ op = 17) → (Vb.bin op 32 0 (V.word x.a) (V.word a.a) (V.word y.a) (V.word b.a)).2 = 0 := fun op ho => by rw [bin_word (by rcases ho with h | h | h <;> simp [h])]
  exact vdual_w HS ty x a y b (Vb.bin 9 ty 0 x a y b).1 w h1 h2 h3 h4 (bin_gives (Prod.ext rfl k1)) (bin_gives (by rw [k2]; exact Prod.ext rfl k1))
    (dual_gives (z 2 (.inl rfl)) (bin_subadd _ _ _ _)) (dual_gives (z 16 (.inr (.inl rfl))) (bin_ltle 16 (.inl rfl) _ _ _ _)) (dual_gives (z 17 (.inr (.inr rfl))) (bin_ltle 17 (.inr rfl) _ _ _ _)) (dual_gives (z 17 (.inr (.inr rfl))) (bin_lts _ _ _ _))
end Go.Proofs.Ytboknfppecgjmaa
