/- Part 43 of the proof's texts: ExactW, ExactY. -/
import Derived.Deep.CutRange
import Derived.Test.YtboknfppecgjmaaGreatExa40
import Derived.Test.YtboknfppecgjmaaGreatExa41
set_option maxHeartbeats 16000000
namespace Go.Proofs.YtboknfppecgjmaaGreat
set_option linter.unusedVariables false
set_option linter.unusedSimpArgs false
open Go.RowKit Go.Shelf
theorem wpList_load_row_w {P : Program} {ops : Array Oper} {rest : List Oper} {o : Oper} {a : Act} {w : World} {Q : Exit → Act → World → Prop} (hw : Region.wanted o (yielded ops a.tmps) = true) (ty : TypeId) (x : Operand) (ho : o.op = .load ty x)
    (g : Nat) (hx : a.eval x = .pointer (some ⟨g, 0, none⟩)) (t : TypeId) (cs : Array Value) (fr : Nat × Nat) (d : TypeDesc) (hg : w.heap[g]? = some (.cells cs t fr))
    (hu : P.underlying ty = some d) (hd : (match d with | .struct _ | .array _ _ => true | _ => false) = true) (hi : (P.info? ty).map (·.size) = some cs.size)
    (h : wpList P ops Q rest (a.put o.dst (.agg cs)) w) : wpList P ops Q (o :: rest) a w :=
  wpList_step fun K hK => by rw [if_pos hw]; exact wp_load_row ty x ho g hx t cs fr d hg hu hd hi (hK _ _ h)
set_option maxRecDepth 100000 in
theorem exact_no (HS : Hid SaneC) (q : Ask) (HF : Hid (FitsC q false)) (w : World) : Calls Tryz.prog 6 #[akv q] w fun e w' => e = .returned (.bool true) ∧ Below w.heap.size w w' := by
  have HBLK := heap_alloc_new w (.cells (akc q) 28)
  go_enter Tryz.func6, Tryz.ntmps6
  go_wp2_with fail
  (refine (HS.out _ ).mono ?_; rintro e u1 ⟨rfl, hb⟩; obtain ⟨hc, hf⟩ := Flow.bcell hb; have hz := hb.size; (try simp only [World.size_alloc, World.size_setCell, World.size_drew] at hz))
  have HBLK1 := (hb.block w.heap.size (by simp)).trans HBLK
  go_wp2_with (refine wpList_load_row_w rfl 28 (.tmp 1) rfl w.heap.size rfl 28 (akc q) (0, 0) _ HBLK1 Tryz.underlying28 rfl (by kernel_rfl) ?_)
  (refine (HF.out _ ).mono ?_; rintro e u2 ⟨rfl, hb⟩; obtain ⟨hc, hf⟩ := Flow.bcell hb; have hz := hb.size; (try simp only [World.size_alloc, World.size_setCell, World.size_drew] at hz))
  go_wp2_with fail
  go_ret
  exact ⟨rfl, by (repeat (first | exact Below.refl _ _ | refine Below.setCell ?_ (by first | omega | (simp <;> omega)) _ | refine Below.alloc ?_ (by first | omega | (simp <;> omega)) _ | refine Below.drew ?_ | refine Below.trans ?_ (Below.mono (by assumption) (by first | omega | (simp <;> omega)))))⟩
set_option maxRecDepth 100000 in
theorem exact_not (HS : Hid SaneC) (q : Ask) (HF : Hid (FitsC q true)) (HE : Hid (ExaC q false)) (w : World) : Calls Tryz.prog 6 #[akv q] w fun e w' => e = .returned (.bool true) ∧ Below w.heap.size w w' := by
  have HBLK := heap_alloc_new w (.cells (akc q) 28)
  go_enter Tryz.func6, Tryz.ntmps6
  go_wp2_with fail
  (refine (HS.out _ ).mono ?_; rintro e u1 ⟨rfl, hb⟩; obtain ⟨hc, hf⟩ := Flow.bcell hb; have hz := hb.size; (try simp only [World.size_alloc, World.size_setCell, World.size_drew] at hz))
  have X1 := (hb.block w.heap.size (by simp)).trans HBLK
  have B1 : Below w.heap.size w u1 := by (repeat (first | exact Below.refl _ _ | refine Below.setCell ?_ (by first | omega | (simp <;> omega)) _ | refine Below.alloc ?_ (by first | omega | (simp <;> omega)) _ | refine Below.drew ?_ | refine Below.trans ?_ (Below.mono (by assumption) (by first | omega | (simp <;> omega)))))
  clear HBLK
  go_wp2_with (refine wpList_load_row_w rfl 28 (.tmp 1) rfl w.heap.size rfl 28 (akc q) (0, 0) _ X1 Tryz.underlying28 rfl (by kernel_rfl) ?_)
  (refine (HF.out _ ).mono ?_; rintro e u2 ⟨rfl, hb⟩; obtain ⟨hc, hf⟩ := Flow.bcell hb; have hz := hb.size; (try simp only [World.size_alloc, World.size_setCell, World.size_drew] at hz))
  have X2 := (hb.block w.heap.size (by omega)).trans X1
  have B2 : Below w.heap.size w u2 := B1.trans (hb.mono (by omega))
  have h2 : w.heap.size < u2.heap.size := by omega
  clear hb hc hf X1 B1
  go_wp2_with (refine wpList_load_row_w rfl 28 (.tmp 1) rfl w.heap.size rfl 28 (akc q) (0, 0) _ X2 Tryz.underlying28 rfl (by kernel_rfl) ?_)
  (refine (HE.out _ ).mono ?_; rintro e u3 ⟨rfl, hb⟩; obtain ⟨hc, hf⟩ := Flow.bcell hb; have hz := hb.size; (try simp only [World.size_alloc, World.size_setCell, World.size_drew] at hz))
  go_wp2_with fail
  go_ret
  exact ⟨rfl, B2.trans (hb.mono (by omega))⟩
set_option maxRecDepth 100000 in
theorem exact_zero (HS : Hid SaneC) (q : Ask) (HF : Hid (FitsC q true)) (HE : Hid (ExaC q true)) (w : World) (H1 : Hid (ShC w q V.zero)) : Calls Tryz.prog 6 #[akv q] w fun e w' => e = .returned (.bool true) ∧ Below w.heap.size w w' := by
  have HBLK := heap_alloc_new w (.cells (akc q) 28)
  go_enter Tryz.func6, Tryz.ntmps6
  go_wp2_with fail
  (refine (HS.out _ ).mono ?_; rintro e u1 ⟨rfl, hb⟩; obtain ⟨hc, hf⟩ := Flow.bcell hb; have hz := hb.size; (try simp only [World.size_alloc, World.size_setCell, World.size_drew] at hz))
  have X1 := (hb.block w.heap.size (by simp)).trans HBLK
  have B1 : Below w.heap.size w u1 := by (repeat (first | exact Below.refl _ _ | refine Below.setCell ?_ (by first | omega | (simp <;> omega)) _ | refine Below.alloc ?_ (by first | omega | (simp <;> omega)) _ | refine Below.drew ?_ | refine Below.trans ?_ (Below.mono (by assumption) (by first | omega | (simp <;> omega)))))
  clear HBLK
  go_wp2_with (refine wpList_load_row_w rfl 28 (.tmp 1) rfl w.heap.size rfl 28 (akc q) (0, 0) _ X1 Tryz.underlying28 rfl (by kernel_rfl) ?_)
  (refine (HF.out _ ).mono ?_; rintro e u2 ⟨rfl, hb⟩; obtain ⟨hc, hf⟩ := Flow.bcell hb; have hz := hb.size; (try simp only [World.size_alloc, World.size_setCell, World.size_drew] at hz))
  have X2 := (hb.block w.heap.size (by omega)).trans X1
  have B2 : Below w.heap.size w u2 := B1.trans (hb.mono (by omega))
  have h2 : w.heap.size < u2.heap.size := by omega
  clear hb hc hf X1 B1
  go_wp2_with (refine wpList_load_row_w rfl 28 (.tmp 1) rfl w.heap.size rfl 28 (akc q) (0, 0) _ X2 Tryz.underlying28 rfl (by kernel_rfl) ?_)
  (refine (HE.out _ ).mono ?_; rintro e u3 ⟨rfl, hb⟩; obtain ⟨hc, hf⟩ := Flow.bcell hb; have hz := hb.size; (try simp only [World.size_alloc, World.size_setCell, World.size_drew] at hz))
  have X3 := (hb.block w.heap.size (by omega)).trans X2
  have B3 : Below w.heap.size w u3 := B2.trans (hb.mono (by omega))
  have h3 : w.heap.size < u3.heap.size := by omega
  clear hb hc hf X2 B2
  go_wp2_with (refine wpList_load_row_w rfl 28 (.tmp 1) rfl w.heap.size rfl 28 (akc q) (0, 0) _ X3 Tryz.underlying28 rfl (by kernel_rfl) ?_)
  refine (H1.out u3 B3).mono ?_
  rintro e u4 ⟨rfl, hb⟩
  have hz4 := hb.size
  have B4 : Below w.heap.size w u4 := B3.trans (hb.mono (by omega))
  clear hb X3 B3
  go_wp2_with fail
  go_ret
  exact ⟨rfl, B4.alloc (by omega) _⟩
end Go.Proofs.YtboknfppecgjmaaGreat
namespace Go.Proofs.YtboknfppecgjmaaGreat
set_option linter.unusedVariables false
set_option linter.unusedSimpArgs false
open Go.RowKit Go.Shelf
abbrev FillC (nQ nS nF : Nat) (q : Ask) (sh : V) (W0 w : World) : Prop :=
  Calls Tryz.prog 27 #[akv q, .func (.func 28) #[] #[.pointer (some ⟨nQ, 0, none⟩), .pointer (some ⟨nF + 1, 0, none⟩), .pointer (some ⟨nF, 0, none⟩), .pointer (some ⟨nF + 1 + 1, 0, none⟩), .pointer (some ⟨nS, 0, none⟩)]] w
    fun e W' => ∃ σ, RT nQ nS nF q sh W0 σ W' ∧ Kept nF w W' ∧ ((e = .returned (.bool true) ∧ ∃ T, σ.Vis q T ∧ Cov1 (rawPairs q.x q.a q.y q.b) q.a q.b T 19) ∨ (e = .returned (.bool false) ∧ sh.and (σ.d.xor V.all) = V.zero))
set_option maxRecDepth 100000 in
theorem exact_yes (HS : Hid SaneC) (q : Ask) (HF : Hid (FitsC q true)) (HE : Hid (ExaC q true)) (s : V) (hs : ¬ s = ⟨0#32, 0#32, 0#32, 0#32⟩) (w : World) (H1 : Hid (ShC w q s))
    (HF2 : Hid (∀ nQ nS nF W0, nQ < nF → nS < nF → w.heap.size < nF → Below w.heap.size w W0 → RT nQ nS nF q s W0 ⟨V.zero, V.zero, false⟩ W0 → FillC nQ nS nF q s W0 W0))
    (HEnd : Hid (∀ σ T, YS.Vis q σ T → Cov1 (rawPairs q.x q.a q.y q.b) q.a q.b T 19 → s.and (σ.d.xor V.all) = V.zero)) :
    Calls Tryz.prog 6 #[akv q] w fun e w' => e = .returned (.bool true) ∧ Below w.heap.size w w' := by
  have HBLK := heap_alloc_new w (.cells (akc q) 28)
  go_enter Tryz.func6, Tryz.ntmps6
  go_wp2_with fail
  (refine (HS.out _ ).mono ?_; rintro e u1 ⟨rfl, hb⟩; obtain ⟨hc, hf⟩ := Flow.bcell hb; have hz := hb.size; (try simp only [World.size_alloc, World.size_setCell, World.size_drew] at hz))
  have X1 := (hb.block w.heap.size (by simp)).trans HBLK
  have B1 : Below w.heap.size w u1 := by (repeat (first | exact Below.refl _ _ | refine Below.setCell ?_ (by first | omega | (simp <;> omega)) _ | refine Below.alloc ?_ (by first | omega | (simp <;> omega)) _ | refine Below.drew ?_ | refine Below.trans ?_ (Below.mono (by assumption) (by first | omega | (simp <;> omega)))))
  clear HBLK
  go_wp2_with (refine wpList_load_row_w rfl 28 (.tmp 1) rfl w.heap.size rfl 28 (akc q) (0, 0) _ X1 Tryz.underlying28 rfl (by kernel_rfl) ?_)
  (refine (HF.out _ ).mono ?_; rintro e u2 ⟨rfl, hb⟩; obtain ⟨hc, hf⟩ := Flow.bcell hb; have hz := hb.size; (try simp only [World.size_alloc, World.size_setCell, World.size_drew] at hz))
  have X2 := (hb.block w.heap.size (by omega)).trans X1
  have B2 : Below w.heap.size w u2 := B1.trans (hb.mono (by omega))
  have h2 : w.heap.size < u2.heap.size := by omega
  clear hb hc hf X1 B1
  go_wp2_with (refine wpList_load_row_w rfl 28 (.tmp 1) rfl w.heap.size rfl 28 (akc q) (0, 0) _ X2 Tryz.underlying28 rfl (by kernel_rfl) ?_)
  (refine (HE.out _ ).mono ?_; rintro e u3 ⟨rfl, hb⟩; obtain ⟨hc, hf⟩ := Flow.bcell hb; have hz := hb.size; (try simp only [World.size_alloc, World.size_setCell, World.size_drew] at hz))
  have X3 := (hb.block w.heap.size (by omega)).trans X2
  have B3 : Below w.heap.size w u3 := B2.trans (hb.mono (by omega))
  have h3 : w.heap.size < u3.heap.size := by omega
  clear hb hc hf X2 B2
  go_wp2_with (refine wpList_load_row_w rfl 28 (.tmp 1) rfl w.heap.size rfl 28 (akc q) (0, 0) _ X3 Tryz.underlying28 rfl (by kernel_rfl) ?_)
  refine (H1.out u3 B3).mono ?_
  rintro e u4 ⟨rfl, hb⟩
  have hz4 := hb.size
  have X4 := (hb.block w.heap.size (by omega)).trans X3
  have B4 : Below w.heap.size w u4 := B3.trans (hb.mono (by omega))
  have h4 : w.heap.size < u4.heap.size := by omega
  clear hb X3 B3
  go_upto_region 12 with fail
  generalize hg : World.alloc _ _ = u5
  have D5 : u5.heap[u4.heap.size + 1 + 1 + 1]? = some (vcell V.zero) := by
    have h := heap_alloc_new (((u4.alloc (vcell s)).alloc (vcell V.zero)).alloc (.cells #[.bool false] 4)) (vcell V.zero)
    simp only [World.size_alloc] at h
    rw [← hg]; exact h
  have N5 : u5.heap[u4.heap.size + 1 + 1]? = some (.cells #[.bool false] 4) := by
    have h := heap_alloc_new ((u4.alloc (vcell s)).alloc (vcell V.zero)) (.cells #[.bool false] 4)
    simp only [World.size_alloc] at h
    rw [← hg]; exact (Below.heap_alloc _ _ _ (by simp <;> omega)).trans h
  have F5 : u5.heap[u4.heap.size + 1]? = some (vcell V.zero) := by
    have h := heap_alloc_new (u4.alloc (vcell s)) (vcell V.zero)
    simp only [World.size_alloc] at h
    rw [← hg]; exact (Below.heap_alloc _ _ _ (by simp <;> omega)).trans ((Below.heap_alloc _ _ _ (by simp <;> omega)).trans h)
  have S5 : u5.heap[u4.heap.size]? = some (vcell s) := by
    rw [← hg]; exact (Below.heap_alloc _ _ _ (by simp <;> omega)).trans ((Below.heap_alloc _ _ _ (by simp <;> omega)).trans ((Below.heap_alloc _ _ _ (by simp <;> omega)).trans (heap_alloc_new u4 _)))
  have X5 : u5.heap[w.heap.size]? = some (.cells (akc q) 28) := by
    rw [← hg]; exact (Below.heap_alloc _ _ _ (by simp; omega)).trans ((Below.heap_alloc _ _ _ (by simp; omega)).trans ((Below.heap_alloc _ _ _ (by simp; omega)).trans ((Below.heap_alloc u4 _ _ h4).trans X4)))
  have B5 : Below w.heap.size w u5 := by
    rw [← hg]; exact (((B4.alloc (by omega) _).alloc (by simp; omega) _).alloc (by simp; omega) _).alloc (by simp; omega) _
  clear hg X4 B4
  have R5 : RT w.heap.size u4.heap.size (u4.heap.size + 1) q s u5 ⟨V.zero, V.zero, false⟩ u5 := ⟨Below.refl _ _, ⟨X5, S5, F5, N5, D5⟩⟩
  have FC := HF2.out w.heap.size u4.heap.size (u4.heap.size + 1) u5 (by omega) (by omega) (by omega) B5 R5
  clear N5 F5 D5
  go_wp2_with (refine wpList_load_row_w rfl 28 (.tmp 1) rfl w.heap.size rfl 28 (akc q) (0, 0) _ X5 Tryz.underlying28 rfl (by kernel_rfl) ?_)
  refine FC.mono ?_
  rintro e u6 ⟨σ, R6, K6, hfin⟩
  have hE : s.and (σ.d.xor V.all) = V.zero := by
    rcases hfin with ⟨_, T, hv, hc⟩ | ⟨_, he⟩
    · exact HEnd.out σ T hv hc
    · exact he
  obtain ⟨b, rfl⟩ : ∃ b, e = .returned (.bool b) := by
    rcases hfin with ⟨h, _⟩ | ⟨h, _⟩
    · exact ⟨_, h⟩
    · exact ⟨_, h⟩
  have D6 := R6.st.D
  have S6 := R6.st.S
  have B6 : Below w.heap.size w u6 := B5.trans (K6.below.mono (by omega))
  have hE' := Lib.hid hE
  clear hE hfin FC R5 X5 S5 R6
  obtain ⟨dc, df, dl⟩ := block_cells D6
  obtain ⟨sc, sf, sl⟩ := block_cells S6
  go_wp2_with fail
  refine Flow.wp_region_below 7 (by kernel_rfl) (by kernel_rfl) (fun R hRc hRt => ?_)
  simp only [List.take_succ_cons, List.take_zero, List.drop_succ_cons, List.drop_zero]
  iterate 7
    first
      | refine Flow.flow_skip rfl ?_
      | (apply Flow.flow_step; rfl; (intro w1 hb; have hc := hRc.out w1 hb; go_simp; (first | with_reducible exact ⟨rfl, hb⟩ | (go_at_call 17; refine (ones_all _ ).mono ?_; rintro e w2 ⟨rfl, hb2⟩; exact ⟨_, rfl, rfl, hRt.out _ _ hb hb2⟩) | (go_at_call 16; refine (rxor_c _ _ _).mono ?_; rintro e w2 ⟨rfl, hb2⟩; exact ⟨_, rfl, rfl, hRt.out _ _ hb hb2⟩) | (go_at_call 15; refine (rand_c _ _ _).mono ?_; rintro e w2 ⟨rfl, hb2⟩; exact ⟨_, rfl, rfl, hRt.out _ _ hb hb2⟩))))
    simp only [Act.put, List.setIfInBounds_toArray, List.set_cons_zero, List.set_cons_succ]
  apply Flow.flow_nil
  clear hRc hRt
  intro w1 hb
  obtain ⟨hc, hf⟩ := Flow.bcell hb
  have hz := hb.size
  (try simp only [World.size_alloc, World.size_setCell, World.size_drew] at hz)
  have B7 : Below w.heap.size w w1 := B6.trans (hb.mono (by omega))
  clear hb hc hf dc sc
  go_wp2_with fail
  go_ret
  exact ⟨congrArg (fun b => Ending.returned (.bool b)) (decide_eq_true hE'.out), B7⟩
end Go.Proofs.YtboknfppecgjmaaGreat
