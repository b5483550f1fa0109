/- Part 17 of the proof's texts: Fits. -/
import Derived.Test.YtboknfppecgjmaaGreatExa10
import Derived.Test.YtboknfppecgjmaaGreatExa15
set_option maxHeartbeats 16000000
namespace Go.Proofs.YtboknfppecgjmaaGreat
set_option linter.unusedVariables false
set_option linter.unusedSimpArgs false
open Go.RowKit Go.Shelf
namespace Flow
theorem wp_region_blk {P : Program} {id : Nat} {Q : Exit → Act → World → Prop} {a : Act} {w : World} {l : List Oper} (n : Nat) (hm : P.follows .mixedOrders = true) (hB : Region.lexTailB .any l.toArray n = true)
    (h : ∀ R : World → Prop, RowKit.Hid (∀ w', R w' → ∀ b o, b < w.heap.size → w'.cell? ⟨b, o, none⟩ = w.cell? ⟨b, o, none⟩) → RowKit.Hid (∀ w' w'', R w' → RowKit.Below w'.heap.size w' w'' → R w'') → RowKit.Hid (∀ w', R w' → ∀ b, b < w.heap.size → w'.heap[b]? = w.heap[b]?) →
      wpFlow P l.toArray R (fun a' => ∀ w', RowKit.Below w.heap.size w w' → wpList P l.toArray Q (l.drop n) a' w') (l.take n) a) : (Code.region id l.toArray true).wp P Q a w := by
  refine wp_region_flow (fun w' => RowKit.Below w.heap.size w w') n hm hB ⟨rfl, rfl, rfl, Nat.le_refl _, fun _ _ => rfl⟩ (h _ (fun w' hw' => (bcell hw').1) (fun w' w'' h1 h2 => h1.trans (h2.mono h1.size)) (fun w' hw' b hb => hw'.block b hb))
end Flow
abbrev ResC (q : Ask) (r : Int) : Prop := ∀ w, Calls Tryz.prog 11 #[akv q] w fun e w' => e = .returned (iv r) ∧ Below w.heap.size w w'
set_option maxRecDepth 100000 in
theorem fits_z (q : Ask) (r : Int) (HR : Hid (ResC q r)) (hr : (r == 0) = true) (w : World) : Calls Tryz.prog 8 #[akv q] w fun e w' => e = .returned (.bool false) ∧ Below w.heap.size w w' := by
  have HBLK := heap_alloc_new w (.cells (akc q) 28)
  go_enter Tryz.func8, Tryz.ntmps8
  go_wp2_with (refine wpList_load_row rfl 28 (.tmp 1) rfl w.heap.size rfl 28 (akc q) (0, 0) _ HBLK Tryz.underlying28 rfl (by kernel_rfl) ?_)
  (refine (HR.out _ ).mono ?_; rintro e u1 ⟨rfl, hb⟩; obtain ⟨hc, hf⟩ := Flow.bcell hb; have hz := hb.size; (try simp only [World.size_alloc, World.size_setCell, World.size_drew] at hz); obtain z0 := Flow.zs1 (show w.heap.size + 1 ≤ u1.heap.size by omega))
  have HBLK1 := (hb.block w.heap.size (by simp)).trans HBLK
  go_wp2_with fail
  go_ret
  exact ⟨rfl, by (repeat (first | exact Below.refl _ _ | refine Below.setCell ?_ (by first | omega | (simp <;> omega)) _ | refine Below.alloc ?_ (by first | omega | (simp <;> omega)) _ | refine Below.drew ?_ | refine Below.trans ?_ (Below.mono (by assumption) (by first | omega | (simp <;> omega)))))⟩
set_option maxRecDepth 100000 in
theorem fits_3 (q : Ask) (r : Int) (HR : Hid (ResC q r)) (hr : (r == 0) = false) (hk : (q.kind == 3) = true) (al as_ : Option Addr) (nl cl ns cs : Nat) (hl : Hid (q.l = .slice al nl cl)) (hs : Hid (q.s = .slice as_ ns cs)) (b1 : nl ≤ maxLen) (b2 : ns ≤ maxLen) (w : World) :
    Calls Tryz.prog 8 #[akv q] w fun e w' => e = .returned (.bool ((ns : Int) == (nl : Int))) ∧ Below w.heap.size w w' := by
  unfold maxLen at b1 b2
  have HBLK := heap_alloc_new w (.cells (akc q) 28)
  go_enter Tryz.func8, Tryz.ntmps8
  go_wp2_with (refine wpList_load_row rfl 28 (.tmp 1) rfl w.heap.size rfl 28 (akc q) (0, 0) _ HBLK Tryz.underlying28 rfl (by kernel_rfl) ?_)
  (refine (HR.out _ ).mono ?_; rintro e u1 ⟨rfl, hb⟩; obtain ⟨hc, hf⟩ := Flow.bcell hb; have hz := hb.size; (try simp only [World.size_alloc, World.size_setCell, World.size_drew] at hz); obtain z0 := Flow.zs1 (show w.heap.size + 1 ≤ u1.heap.size by omega))
  have HBLK1 := (hb.block w.heap.size (by simp)).trans HBLK
  have hl' := hl.out
  have hs' := hs.out
  go_wp2_with fail
  go_ret
  exact ⟨rfl, by (repeat (first | exact Below.refl _ _ | refine Below.setCell ?_ (by first | omega | (simp <;> omega)) _ | refine Below.alloc ?_ (by first | omega | (simp <;> omega)) _ | refine Below.drew ?_ | refine Below.trans ?_ (Below.mono (by assumption) (by first | omega | (simp <;> omega)))))⟩
set_option maxRecDepth 100000 in
theorem fits_xf (q : Ask) (r : Int) (HR : Hid (ResC q r)) (hr : (r == 0) = false) (hk3 : (q.kind == 3) = false) (h1 : Vb.is q.from_ q.x = false) (w : World) : Calls Tryz.prog 8 #[akv q] w fun e w' => e = .returned (.bool false) ∧ Below w.heap.size w w' := by
  have HBLK := heap_alloc_new w (.cells (akc q) 28)
  go_enter Tryz.func8, Tryz.ntmps8
  go_wp2_with (refine wpList_load_row rfl 28 (.tmp 1) rfl w.heap.size rfl 28 (akc q) (0, 0) _ HBLK Tryz.underlying28 rfl (by kernel_rfl) ?_)
  (refine (HR.out _ ).mono ?_; rintro e u1 ⟨rfl, hb⟩; obtain ⟨hc, hf⟩ := Flow.bcell hb; have hz := hb.size; (try simp only [World.size_alloc, World.size_setCell, World.size_drew] at hz); obtain z0 := Flow.zs1 (show w.heap.size + 1 ≤ u1.heap.size by omega))
  have HBLK1 := (hb.block w.heap.size (by simp)).trans HBLK
  go_wp2_with (go_at_call 10; refine (ris_c _ _ _).mono ?_; rintro e w1 ⟨rfl, hb⟩; obtain ⟨hc, hf⟩ := Flow.bcell hb; have hz := hb.size; (try simp only [World.size_alloc, World.size_setCell, World.size_drew] at hz); obtain z0 := Flow.zs1 (show w.heap.size + 1 ≤ w1.heap.size by omega))
  go_ret
  exact ⟨rfl, by (repeat (first | exact Below.refl _ _ | refine Below.setCell ?_ (by first | omega | (simp <;> omega)) _ | refine Below.alloc ?_ (by first | omega | (simp <;> omega)) _ | refine Below.drew ?_ | refine Below.trans ?_ (Below.mono (by assumption) (by first | omega | (simp <;> omega)))))⟩
set_option maxRecDepth 100000 in
theorem fits_af (q : Ask) (r : Int) (HR : Hid (ResC q r)) (hr : (r == 0) = false) (hk3 : (q.kind == 3) = false) (h1 : Vb.is q.from_ q.x = true) (h2 : Vb.is q.from_ q.a = false) (w : World) : Calls Tryz.prog 8 #[akv q] w fun e w' => e = .returned (.bool false) ∧ Below w.heap.size w w' := by
  have HBLK := heap_alloc_new w (.cells (akc q) 28)
  go_enter Tryz.func8, Tryz.ntmps8
  go_wp2_with (refine wpList_load_row rfl 28 (.tmp 1) rfl w.heap.size rfl 28 (akc q) (0, 0) _ HBLK Tryz.underlying28 rfl (by kernel_rfl) ?_)
  (refine (HR.out _ ).mono ?_; rintro e u1 ⟨rfl, hb⟩; obtain ⟨hc, hf⟩ := Flow.bcell hb; have hz := hb.size; (try simp only [World.size_alloc, World.size_setCell, World.size_drew] at hz); obtain z0 := Flow.zs1 (show w.heap.size + 1 ≤ u1.heap.size by omega))
  have HBLK1 := (hb.block w.heap.size (by simp)).trans HBLK
  go_wp2_with (go_at_call 10; refine (ris_c _ _ _).mono ?_; rintro e w1 ⟨rfl, hb⟩; obtain ⟨hc, hf⟩ := Flow.bcell hb; have hz := hb.size; (try simp only [World.size_alloc, World.size_setCell, World.size_drew] at hz); obtain z0 := Flow.zs1 (show w.heap.size + 1 ≤ w1.heap.size by omega))
  go_ret
  exact ⟨rfl, by (repeat (first | exact Below.refl _ _ | refine Below.setCell ?_ (by first | omega | (simp <;> omega)) _ | refine Below.alloc ?_ (by first | omega | (simp <;> omega)) _ | refine Below.drew ?_ | refine Below.trans ?_ (Below.mono (by assumption) (by first | omega | (simp <;> omega)))))⟩
set_option maxRecDepth 100000 in
theorem fits_0 (q : Ask) (r : Int) (HR : Hid (ResC q r)) (hr : (r == 0) = false) (hk3 : (q.kind == 3) = false) (h1 : Vb.is q.from_ q.x = true) (h2 : Vb.is q.from_ q.a = true) (hk0 : (q.kind == 0) = true) (w : World) : Calls Tryz.prog 8 #[akv q] w fun e w' => e = .returned (.bool true) ∧ Below w.heap.size w w' := by
  have HBLK := heap_alloc_new w (.cells (akc q) 28)
  go_enter Tryz.func8, Tryz.ntmps8
  go_wp2_with (refine wpList_load_row rfl 28 (.tmp 1) rfl w.heap.size rfl 28 (akc q) (0, 0) _ HBLK Tryz.underlying28 rfl (by kernel_rfl) ?_)
  (refine (HR.out _ ).mono ?_; rintro e u1 ⟨rfl, hb⟩; obtain ⟨hc, hf⟩ := Flow.bcell hb; have hz := hb.size; (try simp only [World.size_alloc, World.size_setCell, World.size_drew] at hz); obtain z0 := Flow.zs1 (show w.heap.size + 1 ≤ u1.heap.size by omega))
  have HBLK1 := (hb.block w.heap.size (by simp)).trans HBLK
  go_wp2_with (go_at_call 10; refine (ris_c _ _ _).mono ?_; rintro e w1 ⟨rfl, hb⟩; obtain ⟨hc, hf⟩ := Flow.bcell hb; have hz := hb.size; (try simp only [World.size_alloc, World.size_setCell, World.size_drew] at hz); obtain z0 := Flow.zs1 (show w.heap.size + 1 ≤ w1.heap.size by omega))
  go_ret
  exact ⟨rfl, by (repeat (first | exact Below.refl _ _ | refine Below.setCell ?_ (by first | omega | (simp <;> omega)) _ | refine Below.alloc ?_ (by first | omega | (simp <;> omega)) _ | refine Below.drew ?_ | refine Below.trans ?_ (Below.mono (by assumption) (by first | omega | (simp <;> omega)))))⟩
set_option maxRecDepth 100000 in
theorem fits_yf (q : Ask) (r : Int) (HR : Hid (ResC q r)) (hr : (r == 0) = false) (hk3 : (q.kind == 3) = false) (h1 : Vb.is q.from_ q.x = true) (h2 : Vb.is q.from_ q.a = true) (hk0 : (q.kind == 0) = false) (h3 : Vb.is q.sec q.y = false) (w : World) : Calls Tryz.prog 8 #[akv q] w fun e w' => e = .returned (.bool false) ∧ Below w.heap.size w w' := by
  have HBLK := heap_alloc_new w (.cells (akc q) 28)
  go_enter Tryz.func8, Tryz.ntmps8
  go_wp2_with (refine wpList_load_row rfl 28 (.tmp 1) rfl w.heap.size rfl 28 (akc q) (0, 0) _ HBLK Tryz.underlying28 rfl (by kernel_rfl) ?_)
  (refine (HR.out _ ).mono ?_; rintro e u1 ⟨rfl, hb⟩; obtain ⟨hc, hf⟩ := Flow.bcell hb; have hz := hb.size; (try simp only [World.size_alloc, World.size_setCell, World.size_drew] at hz); obtain z0 := Flow.zs1 (show w.heap.size + 1 ≤ u1.heap.size by omega))
  have HBLK1 := (hb.block w.heap.size (by simp)).trans HBLK
  go_wp2_with fail
  (refine (ris_c _ _ _).mono ?_; rintro e u2 ⟨rfl, hb⟩; obtain ⟨hc, hf⟩ := Flow.bcell hb; have hz := hb.size; (try simp only [World.size_alloc, World.size_setCell, World.size_drew] at hz); obtain z0 := Flow.zs1 (show w.heap.size + 1 ≤ u2.heap.size by omega))
  have HBLK3 := (hb.block w.heap.size (by omega)).trans HBLK1
  go_wp2_with fail
  (refine (ris_c _ _ _).mono ?_; rintro e u3 ⟨rfl, hb⟩; obtain ⟨hc, hf⟩ := Flow.bcell hb; have hz := hb.size; (try simp only [World.size_alloc, World.size_setCell, World.size_drew] at hz); obtain z0 := Flow.zs1 (show w.heap.size + 1 ≤ u3.heap.size by omega))
  have HBLK2 := (hb.block w.heap.size (by omega)).trans HBLK3
  have hw3 : w.heap.size < u3.heap.size := by omega
  go_wp2_with fail
  refine Flow.wp_region_blk 27 (by kernel_rfl) (by kernel_rfl) (fun R hRc hRt hRb => ?_)
  simp only [List.take_succ_cons, List.take_zero, List.drop_succ_cons, List.drop_zero]
  iterate 27
    first
      | refine Flow.flow_skip rfl ?_
      | (apply Flow.flow_step; rfl; (intro w1 hb; exact FlowY.runsTo_load_row 28 (.tmp 1) rfl w.heap.size rfl 28 (akc q) (0, 0) _ ((hRb.out w1 hb _ (by omega)).trans HBLK2) Tryz.underlying28 rfl (by kernel_rfl) ⟨rfl, hb⟩))
      | (apply Flow.flow_step; rfl; (intro w1 hb; have hc := hRc.out w1 hb; go_simp; (first | with_reducible exact ⟨rfl, hb⟩ | with_reducible exact rfl | (go_at_call 34; refine (second'_c _ _).mono ?_; rintro e w2 ⟨rfl, hb2⟩; exact ⟨_, rfl, rfl, hRt.out _ _ hb hb2⟩) | (go_at_call 10; refine (ris_c _ _ _).mono ?_; rintro e w2 ⟨rfl, hb2⟩; exact ⟨_, rfl, rfl, hRt.out _ _ hb hb2⟩))))
    (try simp only [Act.put, List.setIfInBounds_toArray, List.set_cons_zero, List.set_cons_succ])
  apply Flow.flow_nil
  clear hRc hRt hRb
  intro w1 hb
  obtain ⟨hc, hf⟩ := Flow.bcell hb
  have hz := hb.size
  go_wp2_with fail
  go_ret
  exact ⟨rfl, by (repeat (first | exact Below.refl _ _ | refine Below.setCell ?_ (by first | omega | (simp <;> omega)) _ | refine Below.alloc ?_ (by first | omega | (simp <;> omega)) _ | refine Below.drew ?_ | refine Below.trans ?_ (Below.mono (by assumption) (by first | omega | (simp <;> omega)))))⟩
set_option maxRecDepth 100000 in
theorem fits_bf (q : Ask) (r : Int) (HR : Hid (ResC q r)) (hr : (r == 0) = false) (hk3 : (q.kind == 3) = false) (h1 : Vb.is q.from_ q.x = true) (h2 : Vb.is q.from_ q.a = true) (hk0 : (q.kind == 0) = false) (h3 : Vb.is q.sec q.y = true) (h4 : Vb.is q.sec q.b = false) (w : World) : Calls Tryz.prog 8 #[akv q] w fun e w' => e = .returned (.bool false) ∧ Below w.heap.size w w' := by
  have HBLK := heap_alloc_new w (.cells (akc q) 28)
  go_enter Tryz.func8, Tryz.ntmps8
  go_wp2_with (refine wpList_load_row rfl 28 (.tmp 1) rfl w.heap.size rfl 28 (akc q) (0, 0) _ HBLK Tryz.underlying28 rfl (by kernel_rfl) ?_)
  (refine (HR.out _ ).mono ?_; rintro e u1 ⟨rfl, hb⟩; obtain ⟨hc, hf⟩ := Flow.bcell hb; have hz := hb.size; (try simp only [World.size_alloc, World.size_setCell, World.size_drew] at hz); obtain z0 := Flow.zs1 (show w.heap.size + 1 ≤ u1.heap.size by omega))
  have HBLK1 := (hb.block w.heap.size (by simp)).trans HBLK
  go_wp2_with fail
  (refine (ris_c _ _ _).mono ?_; rintro e u2 ⟨rfl, hb⟩; obtain ⟨hc, hf⟩ := Flow.bcell hb; have hz := hb.size; (try simp only [World.size_alloc, World.size_setCell, World.size_drew] at hz); obtain z0 := Flow.zs1 (show w.heap.size + 1 ≤ u2.heap.size by omega))
  have HBLK3 := (hb.block w.heap.size (by omega)).trans HBLK1
  go_wp2_with fail
  (refine (ris_c _ _ _).mono ?_; rintro e u3 ⟨rfl, hb⟩; obtain ⟨hc, hf⟩ := Flow.bcell hb; have hz := hb.size; (try simp only [World.size_alloc, World.size_setCell, World.size_drew] at hz); obtain z0 := Flow.zs1 (show w.heap.size + 1 ≤ u3.heap.size by omega))
  have HBLK2 := (hb.block w.heap.size (by omega)).trans HBLK3
  have hw3 : w.heap.size < u3.heap.size := by omega
  go_wp2_with fail
  refine Flow.wp_region_blk 27 (by kernel_rfl) (by kernel_rfl) (fun R hRc hRt hRb => ?_)
  simp only [List.take_succ_cons, List.take_zero, List.drop_succ_cons, List.drop_zero]
  iterate 27
    first
      | refine Flow.flow_skip rfl ?_
      | (apply Flow.flow_step; rfl; (intro w1 hb; exact FlowY.runsTo_load_row 28 (.tmp 1) rfl w.heap.size rfl 28 (akc q) (0, 0) _ ((hRb.out w1 hb _ (by omega)).trans HBLK2) Tryz.underlying28 rfl (by kernel_rfl) ⟨rfl, hb⟩))
      | (apply Flow.flow_step; rfl; (intro w1 hb; have hc := hRc.out w1 hb; go_simp; (first | with_reducible exact ⟨rfl, hb⟩ | with_reducible exact rfl | (go_at_call 34; refine (second'_c _ _).mono ?_; rintro e w2 ⟨rfl, hb2⟩; exact ⟨_, rfl, rfl, hRt.out _ _ hb hb2⟩) | (go_at_call 10; refine (ris_c _ _ _).mono ?_; rintro e w2 ⟨rfl, hb2⟩; exact ⟨_, rfl, rfl, hRt.out _ _ hb hb2⟩))))
    (try simp only [Act.put, List.setIfInBounds_toArray, List.set_cons_zero, List.set_cons_succ])
  apply Flow.flow_nil
  clear hRc hRt hRb
  intro w1 hb
  obtain ⟨hc, hf⟩ := Flow.bcell hb
  have hz := hb.size
  go_wp2_with fail
  go_ret
  exact ⟨rfl, by (repeat (first | exact Below.refl _ _ | refine Below.setCell ?_ (by first | omega | (simp <;> omega)) _ | refine Below.alloc ?_ (by first | omega | (simp <;> omega)) _ | refine Below.drew ?_ | refine Below.trans ?_ (Below.mono (by assumption) (by first | omega | (simp <;> omega)))))⟩
set_option maxRecDepth 100000 in
theorem fits_1 (q : Ask) (r : Int) (HR : Hid (ResC q r)) (hr : (r == 0) = false) (hk3 : (q.kind == 3) = false) (h1 : Vb.is q.from_ q.x = true) (h2 : Vb.is q.from_ q.a = true) (hk0 : (q.kind == 0) = false) (h3 : Vb.is q.sec q.y = true) (h4 : Vb.is q.sec q.b = true) (hk1 : (q.kind == 1) = true) (w : World) : Calls Tryz.prog 8 #[akv q] w fun e w' => e = .returned (.bool true) ∧ Below w.heap.size w w' := by
  have HBLK := heap_alloc_new w (.cells (akc q) 28)
  go_enter Tryz.func8, Tryz.ntmps8
  go_wp2_with (refine wpList_load_row rfl 28 (.tmp 1) rfl w.heap.size rfl 28 (akc q) (0, 0) _ HBLK Tryz.underlying28 rfl (by kernel_rfl) ?_)
  (refine (HR.out _ ).mono ?_; rintro e u1 ⟨rfl, hb⟩; obtain ⟨hc, hf⟩ := Flow.bcell hb; have hz := hb.size; (try simp only [World.size_alloc, World.size_setCell, World.size_drew] at hz); obtain z0 := Flow.zs1 (show w.heap.size + 1 ≤ u1.heap.size by omega))
  have HBLK1 := (hb.block w.heap.size (by simp)).trans HBLK
  go_wp2_with fail
  (refine (ris_c _ _ _).mono ?_; rintro e u2 ⟨rfl, hb⟩; obtain ⟨hc, hf⟩ := Flow.bcell hb; have hz := hb.size; (try simp only [World.size_alloc, World.size_setCell, World.size_drew] at hz); obtain z0 := Flow.zs1 (show w.heap.size + 1 ≤ u2.heap.size by omega))
  have HBLK3 := (hb.block w.heap.size (by omega)).trans HBLK1
  go_wp2_with fail
  (refine (ris_c _ _ _).mono ?_; rintro e u3 ⟨rfl, hb⟩; obtain ⟨hc, hf⟩ := Flow.bcell hb; have hz := hb.size; (try simp only [World.size_alloc, World.size_setCell, World.size_drew] at hz); obtain z0 := Flow.zs1 (show w.heap.size + 1 ≤ u3.heap.size by omega))
  have HBLK2 := (hb.block w.heap.size (by omega)).trans HBLK3
  have hw3 : w.heap.size < u3.heap.size := by omega
  go_wp2_with fail
  refine Flow.wp_region_blk 27 (by kernel_rfl) (by kernel_rfl) (fun R hRc hRt hRb => ?_)
  simp only [List.take_succ_cons, List.take_zero, List.drop_succ_cons, List.drop_zero]
  iterate 27
    first
      | refine Flow.flow_skip rfl ?_
      | (apply Flow.flow_step; rfl; (intro w1 hb; exact FlowY.runsTo_load_row 28 (.tmp 1) rfl w.heap.size rfl 28 (akc q) (0, 0) _ ((hRb.out w1 hb _ (by omega)).trans HBLK2) Tryz.underlying28 rfl (by kernel_rfl) ⟨rfl, hb⟩))
      | (apply Flow.flow_step; rfl; (intro w1 hb; have hc := hRc.out w1 hb; go_simp; (first | with_reducible exact ⟨rfl, hb⟩ | with_reducible exact rfl | (go_at_call 34; refine (second'_c _ _).mono ?_; rintro e w2 ⟨rfl, hb2⟩; exact ⟨_, rfl, rfl, hRt.out _ _ hb hb2⟩) | (go_at_call 10; refine (ris_c _ _ _).mono ?_; rintro e w2 ⟨rfl, hb2⟩; exact ⟨_, rfl, rfl, hRt.out _ _ hb hb2⟩))))
    (try simp only [Act.put, List.setIfInBounds_toArray, List.set_cons_zero, List.set_cons_succ])
  apply Flow.flow_nil
  clear hRc hRt hRb
  intro w1 hb
  obtain ⟨hc, hf⟩ := Flow.bcell hb
  have hz := hb.size
  go_wp2_with fail
  go_ret
  exact ⟨rfl, by (repeat (first | exact Below.refl _ _ | refine Below.setCell ?_ (by first | omega | (simp <;> omega)) _ | refine Below.alloc ?_ (by first | omega | (simp <;> omega)) _ | refine Below.drew ?_ | refine Below.trans ?_ (Below.mono (by assumption) (by first | omega | (simp <;> omega)))))⟩
set_option maxRecDepth 100000 in
theorem fits_cf (q : Ask) (r : Int) (HR : Hid (ResC q r)) (hr : (r == 0) = false) (hk3 : (q.kind == 3) = false) (h1 : Vb.is q.from_ q.x = true) (h2 : Vb.is q.from_ q.a = true) (hk0 : (q.kind == 0) = false) (h3 : Vb.is q.sec q.y = true) (h4 : Vb.is q.sec q.b = true) (hk1 : (q.kind == 1) = false) (h5 : Vb.is 1 q.c = false) (w : World) : Calls Tryz.prog 8 #[akv q] w fun e w' => e = .returned (.bool false) ∧ Below w.heap.size w w' := by
  have HBLK := heap_alloc_new w (.cells (akc q) 28)
  go_enter Tryz.func8, Tryz.ntmps8
  go_wp2_with (refine wpList_load_row rfl 28 (.tmp 1) rfl w.heap.size rfl 28 (akc q) (0, 0) _ HBLK Tryz.underlying28 rfl (by kernel_rfl) ?_)
  (refine (HR.out _ ).mono ?_; rintro e u1 ⟨rfl, hb⟩; obtain ⟨hc, hf⟩ := Flow.bcell hb; have hz := hb.size; (try simp only [World.size_alloc, World.size_setCell, World.size_drew] at hz); obtain z0 := Flow.zs1 (show w.heap.size + 1 ≤ u1.heap.size by omega))
  have HBLK1 := (hb.block w.heap.size (by simp)).trans HBLK
  go_wp2_with fail
  (refine (ris_c _ _ _).mono ?_; rintro e u2 ⟨rfl, hb⟩; obtain ⟨hc, hf⟩ := Flow.bcell hb; have hz := hb.size; (try simp only [World.size_alloc, World.size_setCell, World.size_drew] at hz); obtain z0 := Flow.zs1 (show w.heap.size + 1 ≤ u2.heap.size by omega))
  have HBLK3 := (hb.block w.heap.size (by omega)).trans HBLK1
  go_wp2_with fail
  (refine (ris_c _ _ _).mono ?_; rintro e u3 ⟨rfl, hb⟩; obtain ⟨hc, hf⟩ := Flow.bcell hb; have hz := hb.size; (try simp only [World.size_alloc, World.size_setCell, World.size_drew] at hz); obtain z0 := Flow.zs1 (show w.heap.size + 1 ≤ u3.heap.size by omega))
  have HBLK2 := (hb.block w.heap.size (by omega)).trans HBLK3
  have hw3 : w.heap.size < u3.heap.size := by omega
  go_wp2_with fail
  refine Flow.wp_region_blk 27 (by kernel_rfl) (by kernel_rfl) (fun R hRc hRt hRb => ?_)
  simp only [List.take_succ_cons, List.take_zero, List.drop_succ_cons, List.drop_zero]
  iterate 27
    first
      | refine Flow.flow_skip rfl ?_
      | (apply Flow.flow_step; rfl; (intro w1 hb; exact FlowY.runsTo_load_row 28 (.tmp 1) rfl w.heap.size rfl 28 (akc q) (0, 0) _ ((hRb.out w1 hb _ (by omega)).trans HBLK2) Tryz.underlying28 rfl (by kernel_rfl) ⟨rfl, hb⟩))
      | (apply Flow.flow_step; rfl; (intro w1 hb; have hc := hRc.out w1 hb; go_simp; (first | with_reducible exact ⟨rfl, hb⟩ | with_reducible exact rfl | (go_at_call 34; refine (second'_c _ _).mono ?_; rintro e w2 ⟨rfl, hb2⟩; exact ⟨_, rfl, rfl, hRt.out _ _ hb hb2⟩) | (go_at_call 10; refine (ris_c _ _ _).mono ?_; rintro e w2 ⟨rfl, hb2⟩; exact ⟨_, rfl, rfl, hRt.out _ _ hb hb2⟩))))
    (try simp only [Act.put, List.setIfInBounds_toArray, List.set_cons_zero, List.set_cons_succ])
  apply Flow.flow_nil
  clear hRc hRt hRb
  intro w1 hb
  obtain ⟨hc, hf⟩ := Flow.bcell hb
  have hz := hb.size
  go_wp2_with fail
  go_ret
  exact ⟨rfl, by (repeat (first | exact Below.refl _ _ | refine Below.setCell ?_ (by first | omega | (simp <;> omega)) _ | refine Below.alloc ?_ (by first | omega | (simp <;> omega)) _ | refine Below.drew ?_ | refine Below.trans ?_ (Below.mono (by assumption) (by first | omega | (simp <;> omega)))))⟩
set_option maxRecDepth 100000 in
theorem fits_df (q : Ask) (r : Int) (HR : Hid (ResC q r)) (hr : (r == 0) = false) (hk3 : (q.kind == 3) = false) (h1 : Vb.is q.from_ q.x = true) (h2 : Vb.is q.from_ q.a = true) (hk0 : (q.kind == 0) = false) (h3 : Vb.is q.sec q.y = true) (h4 : Vb.is q.sec q.b = true) (hk1 : (q.kind == 1) = false) (h5 : Vb.is 1 q.c = true) (h6 : Vb.is 1 q.d = false) (w : World) : Calls Tryz.prog 8 #[akv q] w fun e w' => e = .returned (.bool false) ∧ Below w.heap.size w w' := by
  have HBLK := heap_alloc_new w (.cells (akc q) 28)
  go_enter Tryz.func8, Tryz.ntmps8
  go_wp2_with (refine wpList_load_row rfl 28 (.tmp 1) rfl w.heap.size rfl 28 (akc q) (0, 0) _ HBLK Tryz.underlying28 rfl (by kernel_rfl) ?_)
  (refine (HR.out _ ).mono ?_; rintro e u1 ⟨rfl, hb⟩; obtain ⟨hc, hf⟩ := Flow.bcell hb; have hz := hb.size; (try simp only [World.size_alloc, World.size_setCell, World.size_drew] at hz); obtain z0 := Flow.zs1 (show w.heap.size + 1 ≤ u1.heap.size by omega))
  have HBLK1 := (hb.block w.heap.size (by simp)).trans HBLK
  go_wp2_with fail
  (refine (ris_c _ _ _).mono ?_; rintro e u2 ⟨rfl, hb⟩; obtain ⟨hc, hf⟩ := Flow.bcell hb; have hz := hb.size; (try simp only [World.size_alloc, World.size_setCell, World.size_drew] at hz); obtain z0 := Flow.zs1 (show w.heap.size + 1 ≤ u2.heap.size by omega))
  have HBLK3 := (hb.block w.heap.size (by omega)).trans HBLK1
  go_wp2_with fail
  (refine (ris_c _ _ _).mono ?_; rintro e u3 ⟨rfl, hb⟩; obtain ⟨hc, hf⟩ := Flow.bcell hb; have hz := hb.size; (try simp only [World.size_alloc, World.size_setCell, World.size_drew] at hz); obtain z0 := Flow.zs1 (show w.heap.size + 1 ≤ u3.heap.size by omega))
  have HBLK2 := (hb.block w.heap.size (by omega)).trans HBLK3
  have hw3 : w.heap.size < u3.heap.size := by omega
  go_wp2_with fail
  refine Flow.wp_region_blk 27 (by kernel_rfl) (by kernel_rfl) (fun R hRc hRt hRb => ?_)
  simp only [List.take_succ_cons, List.take_zero, List.drop_succ_cons, List.drop_zero]
  iterate 27
    first
      | refine Flow.flow_skip rfl ?_
      | (apply Flow.flow_step; rfl; (intro w1 hb; exact FlowY.runsTo_load_row 28 (.tmp 1) rfl w.heap.size rfl 28 (akc q) (0, 0) _ ((hRb.out w1 hb _ (by omega)).trans HBLK2) Tryz.underlying28 rfl (by kernel_rfl) ⟨rfl, hb⟩))
      | (apply Flow.flow_step; rfl; (intro w1 hb; have hc := hRc.out w1 hb; go_simp; (first | with_reducible exact ⟨rfl, hb⟩ | with_reducible exact rfl | (go_at_call 34; refine (second'_c _ _).mono ?_; rintro e w2 ⟨rfl, hb2⟩; exact ⟨_, rfl, rfl, hRt.out _ _ hb hb2⟩) | (go_at_call 10; refine (ris_c _ _ _).mono ?_; rintro e w2 ⟨rfl, hb2⟩; exact ⟨_, rfl, rfl, hRt.out _ _ hb hb2⟩))))
    (try simp only [Act.put, List.setIfInBounds_toArray, List.set_cons_zero, List.set_cons_succ])
  apply Flow.flow_nil
  clear hRc hRt hRb
  intro w1 hb
  obtain ⟨hc, hf⟩ := Flow.bcell hb
  have hz := hb.size
  go_wp2_with fail
  go_ret
  exact ⟨rfl, by (repeat (first | exact Below.refl _ _ | refine Below.setCell ?_ (by first | omega | (simp <;> omega)) _ | refine Below.alloc ?_ (by first | omega | (simp <;> omega)) _ | refine Below.drew ?_ | refine Below.trans ?_ (Below.mono (by assumption) (by first | omega | (simp <;> omega)))))⟩
set_option maxRecDepth 100000 in
theorem fits_2 (q : Ask) (r : Int) (HR : Hid (ResC q r)) (hr : (r == 0) = false) (hk3 : (q.kind == 3) = false) (h1 : Vb.is q.from_ q.x = true) (h2 : Vb.is q.from_ q.a = true) (hk0 : (q.kind == 0) = false) (h3 : Vb.is q.sec q.y = true) (h4 : Vb.is q.sec q.b = true) (hk1 : (q.kind == 1) = false) (h5 : Vb.is 1 q.c = true) (h6 : Vb.is 1 q.d = true) (w : World) : Calls Tryz.prog 8 #[akv q] w fun e w' => e = .returned (.bool true) ∧ Below w.heap.size w w' := by
  have HBLK := heap_alloc_new w (.cells (akc q) 28)
  go_enter Tryz.func8, Tryz.ntmps8
  go_wp2_with (refine wpList_load_row rfl 28 (.tmp 1) rfl w.heap.size rfl 28 (akc q) (0, 0) _ HBLK Tryz.underlying28 rfl (by kernel_rfl) ?_)
  (refine (HR.out _ ).mono ?_; rintro e u1 ⟨rfl, hb⟩; obtain ⟨hc, hf⟩ := Flow.bcell hb; have hz := hb.size; (try simp only [World.size_alloc, World.size_setCell, World.size_drew] at hz); obtain z0 := Flow.zs1 (show w.heap.size + 1 ≤ u1.heap.size by omega))
  have HBLK1 := (hb.block w.heap.size (by simp)).trans HBLK
  go_wp2_with fail
  (refine (ris_c _ _ _).mono ?_; rintro e u2 ⟨rfl, hb⟩; obtain ⟨hc, hf⟩ := Flow.bcell hb; have hz := hb.size; (try simp only [World.size_alloc, World.size_setCell, World.size_drew] at hz); obtain z0 := Flow.zs1 (show w.heap.size + 1 ≤ u2.heap.size by omega))
  have HBLK3 := (hb.block w.heap.size (by omega)).trans HBLK1
  go_wp2_with fail
  (refine (ris_c _ _ _).mono ?_; rintro e u3 ⟨rfl, hb⟩; obtain ⟨hc, hf⟩ := Flow.bcell hb; have hz := hb.size; (try simp only [World.size_alloc, World.size_setCell, World.size_drew] at hz); obtain z0 := Flow.zs1 (show w.heap.size + 1 ≤ u3.heap.size by omega))
  have HBLK2 := (hb.block w.heap.size (by omega)).trans HBLK3
  have hw3 : w.heap.size < u3.heap.size := by omega
  go_wp2_with fail
  refine Flow.wp_region_blk 27 (by kernel_rfl) (by kernel_rfl) (fun R hRc hRt hRb => ?_)
  simp only [List.take_succ_cons, List.take_zero, List.drop_succ_cons, List.drop_zero]
  iterate 27
    first
      | refine Flow.flow_skip rfl ?_
      | (apply Flow.flow_step; rfl; (intro w1 hb; exact FlowY.runsTo_load_row 28 (.tmp 1) rfl w.heap.size rfl 28 (akc q) (0, 0) _ ((hRb.out w1 hb _ (by omega)).trans HBLK2) Tryz.underlying28 rfl (by kernel_rfl) ⟨rfl, hb⟩))
      | (apply Flow.flow_step; rfl; (intro w1 hb; have hc := hRc.out w1 hb; go_simp; (first | with_reducible exact ⟨rfl, hb⟩ | with_reducible exact rfl | (go_at_call 34; refine (second'_c _ _).mono ?_; rintro e w2 ⟨rfl, hb2⟩; exact ⟨_, rfl, rfl, hRt.out _ _ hb hb2⟩) | (go_at_call 10; refine (ris_c _ _ _).mono ?_; rintro e w2 ⟨rfl, hb2⟩; exact ⟨_, rfl, rfl, hRt.out _ _ hb hb2⟩))))
    (try simp only [Act.put, List.setIfInBounds_toArray, List.set_cons_zero, List.set_cons_succ])
  apply Flow.flow_nil
  clear hRc hRt hRb
  intro w1 hb
  obtain ⟨hc, hf⟩ := Flow.bcell hb
  have hz := hb.size
  go_wp2_with fail
  go_ret
  exact ⟨rfl, by (repeat (first | exact Below.refl _ _ | refine Below.setCell ?_ (by first | omega | (simp <;> omega)) _ | refine Below.alloc ?_ (by first | omega | (simp <;> omega)) _ | refine Below.drew ?_ | refine Below.trans ?_ (Below.mono (by assumption) (by first | omega | (simp <;> omega)))))⟩
end Go.Proofs.YtboknfppecgjmaaGreat
