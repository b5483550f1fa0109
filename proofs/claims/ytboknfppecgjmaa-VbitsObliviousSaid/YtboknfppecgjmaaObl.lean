/- VbitsOblivious: the walk. -/
import Derived.Test.YtboknfppecgjmaaAskAll
import Derived.Test.YtboknfppecgjmaaStoreV
import Derived.Test.YtboknfppecgjmaaCommutes
import Derived.Deep.OwnRows
namespace Go.Proofs.Ytboknfppecgjmaa
set_option linter.unusedVariables false
set_option linter.unusedSimpArgs false
open Go.RowKit Go.Shelf
set_option maxRecDepth 100000 in
set_option maxHeartbeats 8000000 in
theorem obl_no (HS : Hid SaneC) (q : Ask) (HF : Hid (FitsC q false)) (w : World) : Calls Try.prog 5 #[akv q] w fun e w' => e = .returned (.bool true) ∧ Below w.heap.size w w' := by
  have HBLK := heap_alloc_new w (.cells (akc q) 35)
  go_enter Try.func5, Try.ntmps5
  go_wp2_with fail
  (refine (HS.out _ ).mono ?_; rintro e u1 ⟨rfl, hb⟩; obtain ⟨hc, hf⟩ := Flow.bcell hb; have hz := hb.size; (try simp only [World.size_alloc, World.size_setCell, World.size_drew] at hz); obtain z0 := Flow.zs1 (show w.heap.size + 1 ≤ u1.heap.size by omega))
  have HBLK1 := (hb.block w.heap.size (by simp)).trans HBLK
  go_wp2_with (refine wpList_load_row rfl 35 (.tmp 1) rfl w.heap.size rfl 35 (akc q) (0, 0) _ HBLK1 Try.underlying35 rfl (by kernel_rfl) ?_)
  (refine (HF.out _ ).mono ?_; rintro e u2 ⟨rfl, hb⟩; obtain ⟨hc, hf⟩ := Flow.bcell hb; have hz := hb.size; (try simp only [World.size_alloc, World.size_setCell, World.size_drew] at hz); obtain z0 := Flow.zs1 (show w.heap.size + 1 ≤ u2.heap.size by omega))
  go_wp2_with fail
  go_ret
  exact ⟨rfl, by (repeat (first | exact Below.refl _ _ | refine Below.setCell ?_ (by first | omega | (simp <;> omega)) _ | refine Below.alloc ?_ (by first | omega | (simp <;> omega)) _ | refine Below.drew ?_ | refine Below.trans ?_ (Below.mono (by assumption) (by first | omega | (simp <;> omega)))))⟩
theorem info_u32 : (Try.prog.info? 22).map (fun i => (i.zero, i.size, i.bytes)) = some (some (.int .u32 0), 1, 4) := by kernel_rfl
theorem akc_one (q : Ask) (hl : q.l.oneCell' = true) (hs : q.s.oneCell' = true) : (akc q).all (·.oneCell') = true := by
  rw [Array.all_eq_true_iff_forall_mem]
  intro x hx
  simp only [akc, List.mem_toArray, List.mem_cons, List.not_mem_nil, or_false] at hx
  rcases hx with h | h | h | h | h | h | h | h | h | h | h | h | h | h | h | h | h | h | h | h | h | h | h | h | h | h | h | h | h | h | h | h | h | h | h | h | h | h | h | h | h | h | h | h | h | h | h
  all_goals (subst h; first | rfl | assumption)
theorem akc_none (q : Ask) (v : Value) : (setL (setL (setL (akc q) 17 [uv 0#32, uv 0#32, uv 0#32, uv 0#32]) 25 [uv 0#32, uv 0#32, uv 0#32, uv 0#32]) 9 [uv 0#32, uv 0#32, uv 0#32, uv 0#32]).setIfInBounds 30 v = akc (q.none_ v) := by kernel_rfl
/-- Ask.shadow in all worlds behind w. -/
abbrev ShC (w : World) (q : Ask) (s : V) : Prop := ∀ w', Below w.heap.size w w' → Calls Try.prog 21 #[akv q] w' fun e w'' => e = .returned (.tuple #[vv s, .bool true]) ∧ Below w'.heap.size w' w''
/-- Ask.shadow in all worlds in which the block b holds m zeros. -/
abbrev ShZ (q : Ask) (m : Nat) : Prop := ∀ (b : Nat) (w' : World), w'.heap[b]? = some (.cells (madeCells #[uv 0#32] m) 22) → Calls Try.prog 21 #[akv (q.none_ (.slice (some ⟨b, 0, none⟩) m m))] w' fun e w'' => e = .returned (.tuple #[vv V.zero, .bool true]) ∧ Below w'.heap.size w' w''
set_option maxRecDepth 100000 in
set_option maxHeartbeats 8000000 in
theorem obl_yes (HS : Hid SaneC) (q : Ask) (HF : Hid (FitsC q true)) (HO : Hid ((akc q).all (·.oneCell') = true)) (w : World) (as_ : Option Addr) (ns cs : Nat) (hs : Hid (q.s = .slice as_ ns cs)) (hn : 4 * ns ≤ 140737488351232) (s : V)
    (H1 : Hid (ShC w q s)) (H2 : Hid (ShC w q.other s)) (H3 : Hid (ShZ q ns)) : Calls Try.prog 5 #[akv q] w fun e w' => e = .returned (.bool true) ∧ Below w.heap.size w w' := by
  have HBLK := heap_alloc_new w (.cells (akc q) 35)
  go_enter Try.func5, Try.ntmps5
  go_wp2_with fail
  (refine (HS.out _ ).mono ?_; rintro e u1 ⟨rfl, hb⟩; obtain ⟨hc, hf⟩ := Flow.bcell hb; have hz := hb.size; (try simp only [World.size_alloc, World.size_setCell, World.size_drew] at hz); obtain z0 := Flow.zs1 (show w.heap.size + 1 ≤ u1.heap.size by omega))
  have X1 := (hb.block w.heap.size (by simp)).trans HBLK
  have B1 : Below w.heap.size w u1 := by (repeat (first | exact Below.refl _ _ | refine Below.setCell ?_ (by first | omega | (simp <;> omega)) _ | refine Below.alloc ?_ (by first | omega | (simp <;> omega)) _ | refine Below.drew ?_ | refine Below.trans ?_ (Below.mono (by assumption) (by first | omega | (simp <;> omega)))))
  clear HBLK
  go_wp2_with (refine wpList_load_row rfl 35 (.tmp 1) rfl w.heap.size rfl 35 (akc q) (0, 0) _ X1 Try.underlying35 rfl (by kernel_rfl) ?_)
  (refine (HF.out _ ).mono ?_; rintro e u2 ⟨rfl, hb⟩; obtain ⟨hc, hf⟩ := Flow.bcell hb; have hz := hb.size; (try simp only [World.size_alloc, World.size_setCell, World.size_drew] at hz); obtain z0 := Flow.zs1 (show w.heap.size + 1 ≤ u2.heap.size by omega))
  have X2 := (hb.block w.heap.size (by omega)).trans X1
  have B2 : Below w.heap.size w u2 := B1.trans (hb.mono (by omega))
  have h2 : w.heap.size < u2.heap.size := by omega
  clear hb hc hf
  go_wp2_with (first | (refine wpList_load_row rfl 35 (.tmp 1) rfl w.heap.size rfl 35 (akc q) (0, 0) _ X2 Try.underlying35 rfl (by kernel_rfl) ?_) | (refine wpList_store_new rfl 35 (.tmp 3) (.tmp 13) rfl rfl rfl (by kernel_rfl) rfl HO.out ?_; intro u3 Y3 sb sz; have X3 := (sb.block w.heap.size h2).trans X2; have B3 : Below w.heap.size w u3 := B2.trans (sb.mono (by omega)); obtain ⟨xc, xf, xl⟩ := block_cells X3; obtain ⟨yc, yf, yl⟩ := block_cells Y3))
  clear hz
  (refine (rfill_c _ _ _ _ _).mono ?_; rintro e u4 ⟨rfl, hb⟩; obtain ⟨hc, hf⟩ := Flow.bcell hb; have hz := hb.size; (try simp only [World.size_alloc, World.size_setCell, World.size_drew] at hz); obtain z0 := Flow.zs1 (show w.heap.size + 1 ≤ u4.heap.size by omega))
  have X4 := (hb.block w.heap.size (by omega)).trans X3
  have Y4 := (hb.block u2.heap.size (by omega)).trans Y3
  have B4 : Below w.heap.size w u4 := B3.trans (hb.mono (by omega))
  clear hb hc hf xc xf xl yc yf yl
  obtain ⟨xc, xf, xl⟩ := block_cells X4
  obtain ⟨yc, yf, yl⟩ := block_cells Y4
  have hne : w.heap.size ≠ u2.heap.size := by omega
  have hle : w.heap.size ≤ u2.heap.size := by omega
  obtain ⟨u5, e5, Y5, S5⟩ := store4 Y4 5 6 7 8 (uv (Vb.fill 1 q.c q.d q.t).a) (uv (Vb.fill 1 q.c q.d q.t).b) (uv (Vb.fill 1 q.c q.d q.t).c) (uv (Vb.fill 1 q.c q.d q.t).d)
  have X5 := (S5.other w.heap.size hne).trans X4
  have B5 : Below w.heap.size w u5 := B4.trans (S5.below _ hle)
  replace Y5 : u5.heap[u2.heap.size]? = some (.cells (akc { q with c := Vb.fill 1 q.c q.d q.t }) 35) := Y5
  have hz5 := S5.size
  clear S5
  obtain ⟨xc', xf', xl'⟩ := block_cells X5
  obtain ⟨yc', yf', yl'⟩ := block_cells Y5
  go_wp2_with fail
  clear e5 xc xf xl yc yf yl
  (refine (rfill_c _ _ _ _ _).mono ?_; rintro e u6 ⟨rfl, hb⟩; obtain ⟨hc, hf⟩ := Flow.bcell hb; have hz := hb.size; (try simp only [World.size_alloc, World.size_setCell, World.size_drew] at hz); obtain z0 := Flow.zs1 (show w.heap.size + 1 ≤ u6.heap.size by omega))
  have X6 := (hb.block w.heap.size (by omega)).trans X5
  have Y6 := (hb.block u2.heap.size (by omega)).trans Y5
  have B6 : Below w.heap.size w u6 := B5.trans (hb.mono (by omega))
  clear hb hc hf xc' xf' xl' yc' yf' yl'
  obtain ⟨xc, xf, xl⟩ := block_cells X6
  obtain ⟨yc, yf, yl⟩ := block_cells Y6
  obtain ⟨u7, e7, Y7, S7⟩ := store4 Y6 13 14 15 16 (uv (Vb.fill q.from_ q.x q.a q.p).a) (uv (Vb.fill q.from_ q.x q.a q.p).b) (uv (Vb.fill q.from_ q.x q.a q.p).c) (uv (Vb.fill q.from_ q.x q.a q.p).d)
  have X7 := (S7.other w.heap.size hne).trans X6
  have B7 : Below w.heap.size w u7 := B6.trans (S7.below _ hle)
  replace Y7 : u7.heap[u2.heap.size]? = some (.cells (akc { q with c := Vb.fill 1 q.c q.d q.t, x := Vb.fill q.from_ q.x q.a q.p }) 35) := Y7
  have hz7 := S7.size
  clear S7
  obtain ⟨xc', xf', xl'⟩ := block_cells X7
  obtain ⟨yc', yf', yl'⟩ := block_cells Y7
  go_wp2_with fail
  clear e7 xc xf xl yc yf yl xc' xf' xl' yc' yf' yl'
  obtain ⟨xc, xf, xl⟩ := block_cells X7
  obtain ⟨yc, yf, yl⟩ := block_cells Y7
  refine Flow.wp_region_blk 11 (by kernel_rfl) (by kernel_rfl) (fun R hRc hRt hRb => ?_)
  simp only [List.take_succ_cons, List.take_zero, List.drop_succ_cons, List.drop_zero]
  iterate 11
    first
      | (apply Flow.flow_step; rfl; (intro w1 hb; exact FlowY.runsTo_load_row 35 (.tmp 1) rfl w.heap.size rfl 35 (akc q) (0, 0) _ ((hRb.out w1 hb _ (by omega)).trans X7) Try.underlying35 rfl (by kernel_rfl) ⟨rfl, hb⟩))
      | (apply Flow.flow_step; rfl; (intro w1 hb; have hc := hRc.out w1 hb; go_simp; (first | with_reducible exact ⟨rfl, hb⟩ | with_reducible exact rfl | (go_at_call 20; refine (second'_c _ _).mono ?_; rintro e w2 ⟨rfl, hb2⟩; exact ⟨_, rfl, rfl, hRt.out _ _ hb hb2⟩) | (go_at_call 23; refine (rfill_c _ _ _ _ _).mono ?_; rintro e w2 ⟨rfl, hb2⟩; exact ⟨_, rfl, rfl, hRt.out _ _ hb hb2⟩))))
    (try simp only [Act.put, List.setIfInBounds_toArray, List.set_cons_zero, List.set_cons_succ])
  apply Flow.flow_nil
  clear hRc hRt hRb
  intro u8 hb
  have hz := hb.size
  have X8 := (hb.block w.heap.size (by omega)).trans X7
  have Y8 := (hb.block u2.heap.size (by omega)).trans Y7
  have B8 : Below w.heap.size w u8 := B7.trans (hb.mono (by omega))
  clear hb xc xf xl yc yf yl
  obtain ⟨xc, xf, xl⟩ := block_cells X8
  obtain ⟨yc, yf, yl⟩ := block_cells Y8
  obtain ⟨u9, e9, Y9, S9⟩ := store4 Y8 21 22 23 24 (uv (Vb.fill q.sec q.y q.b q.q).a) (uv (Vb.fill q.sec q.y q.b q.q).b) (uv (Vb.fill q.sec q.y q.b q.q).c) (uv (Vb.fill q.sec q.y q.b q.q).d)
  have X9 := (S9.other w.heap.size hne).trans X8
  have B9 : Below w.heap.size w u9 := B8.trans (S9.below _ hle)
  replace Y9 : u9.heap[u2.heap.size]? = some (.cells (akc q.other) 35) := Y9
  have hz9 := S9.size
  clear S9
  go_wp2_with (refine wpList_load_row rfl 35 (.tmp 1) rfl w.heap.size rfl 35 (akc q) (0, 0) _ X9 Try.underlying35 rfl (by kernel_rfl) ?_)
  clear e9 xc xf xl yc yf yl
  refine (H1.out u9 B9).mono ?_
  rintro e u10 ⟨rfl, hb⟩
  have hz10 := hb.size
  have X10 := (hb.block w.heap.size (by omega)).trans X9
  have Y10 := (hb.block u2.heap.size (by omega)).trans Y9
  have B10 : Below w.heap.size w u10 := B9.trans (hb.mono (by omega))
  have l10 : u2.heap.size < u10.heap.size := by omega
  have l10' : w.heap.size < u10.heap.size := by omega
  clear hb
  have YA := fun o => (Below.heap_alloc u10 o u2.heap.size l10).trans Y10
  have XA := fun o => (Below.heap_alloc u10 o w.heap.size l10').trans X10
  go_wp2_with (refine wpList_load_row rfl 35 (.tmp 3) rfl u2.heap.size rfl 35 (akc q.other) (0, 0) _ (YA _) Try.underlying35 rfl (by kernel_rfl) ?_)
  refine (H2.out _ (B10.alloc (by omega) _)).mono ?_
  rintro e u11 ⟨rfl, hb⟩
  have X11 := (hb.block w.heap.size (by simp; omega)).trans (XA _)
  have B11 : Below w.heap.size w u11 := (B10.alloc (by omega) _).trans (hb.mono (by simp; omega))
  have D11 := (hb.block u10.heap.size (by simp)).trans (heap_alloc_new u10 _)
  have hz11 := hb.size
  simp only [World.size_alloc] at hz11
  clear hb XA YA
  have l11' : w.heap.size < u11.heap.size := by omega
  have l11 : u10.heap.size < u11.heap.size := by omega
  obtain ⟨xc, xf, xl⟩ := block_cells X11
  obtain ⟨dc, df, dl⟩ := block_cells D11
  go_wp2_with fail
  have hmk := run_make_row' (P := Try.prog) 25 22 (.int .u32 0) 4 Try.underlying25 info_u32 rfl .i64 .i64 ns (by omega) (by omega)
  have hs' := hs.out
  generalize hg : u11.alloc _ = u12
  have X12 : u12.heap[w.heap.size]? = some (.cells (akc q) 35) := by rw [← hg]; exact (Below.heap_alloc u11 _ _ l11').trans X11
  have D12 : u12.heap[u10.heap.size]? = some (.cells #[uv s.a, uv s.b, uv s.c, uv s.d] 24) := by rw [← hg]; exact (Below.heap_alloc u11 _ _ l11).trans D11
  have E12 : u12.heap[u11.heap.size]? = some (.cells #[uv s.a, uv s.b, uv s.c, uv s.d] 24) := by rw [← hg]; exact heap_alloc_new u11 _
  have B12 : Below w.heap.size w u12 := by rw [← hg]; exact B11.alloc (by omega) _
  have hz12 : u12.heap.size = u11.heap.size + 1 := by rw [← hg]; simp
  clear hg xc xf xl dc df dl X11 D11 B11 X10 Y10 B10 X9 Y9 B9 X8 Y8 B8 X7 Y7 B7 X6 Y6 B6 X5 Y5 B5 X4 Y4 B4 X3 Y3 B3 X2 B2 X1 B1 hz10 hz9 hz7 hz5
  obtain ⟨xc, xf, xl⟩ := block_cells X12
  go_region
  obtain ⟨v1, e1, P1, S1⟩ := store4 X12 17 18 19 20 (uv 0#32) (uv 0#32) (uv 0#32) (uv 0#32)
  obtain ⟨v2, e2, P2, S2⟩ := store4 P1 25 26 27 28 (uv 0#32) (uv 0#32) (uv 0#32) (uv 0#32)
  obtain ⟨v3, e3, P3, S3⟩ := store4 P2 9 10 11 12 (uv 0#32) (uv 0#32) (uv 0#32) (uv 0#32)
  have P4 := Go.heap_setCell_same v3 w.heap.size 30 _ _ (.slice (some ⟨u11.heap.size + 1, 0, none⟩) ns ns) P3
  rw [akc_none] at P4
  have z1 := S1.size
  have z2 := S2.size
  have z3 := S3.size
  rw [e1, e2, e3]
  clear e1 e2 e3
  have hn10 : u10.heap.size ≠ w.heap.size := by omega
  have D13 := ((S3.other _ hn10).trans ((S2.other _ hn10).trans (S1.other _ hn10))).trans D12
  have B13 := ((B12.trans (S1.below _ (Nat.le_refl _))).trans (S2.below _ (Nat.le_refl _))).trans (S3.below _ (Nat.le_refl _))
  generalize hg4 : v3.setCell _ _ = v4
  have X14 : v4.heap[w.heap.size]? = some (.cells (akc (q.none_ (.slice (some ⟨u11.heap.size + 1, 0, none⟩) ns ns))) 35) := by rw [← hg4]; exact P4
  have D14 : v4.heap[u10.heap.size]? = some (.cells #[uv s.a, uv s.b, uv s.c, uv s.d] 24) := by rw [← hg4]; exact (heap_setCell_other v3 _ _ _ hn10).trans D13
  have B14 : Below w.heap.size w v4 := by rw [← hg4]; exact B13.setCell (Nat.le_refl _) _
  have z4 : v4.heap.size = u11.heap.size + 1 := by rw [← hg4]; simp; omega
  clear hg4 P1 P2 P3 P4 S1 S2 S3 D13 B13 X12 D12 E12 B12 z1 z2 z3 hz12
  generalize hg5 : (v4.alloc _).drew = u13
  have hk1 : w.heap.size < v4.heap.size := by omega
  have hk2 : u10.heap.size < v4.heap.size := by omega
  have X13 : u13.heap[w.heap.size]? = some (.cells (akc (q.none_ (.slice (some ⟨u11.heap.size + 1, 0, none⟩) ns ns))) 35) := by rw [← hg5]; exact (Below.heap_alloc v4 _ _ hk1).trans X14
  have D13 : u13.heap[u10.heap.size]? = some (.cells #[uv s.a, uv s.b, uv s.c, uv s.d] 24) := by rw [← hg5]; exact (Below.heap_alloc v4 _ _ hk2).trans D14
  have Z13 : u13.heap[u11.heap.size + 1]? = some (.cells (madeCells #[uv 0#32] ns) 22) := by rw [← hg5, ← z4]; exact heap_alloc_new v4 _
  have B13 : Below w.heap.size w u13 := by rw [← hg5]; exact (B14.alloc (by omega) _).drew
  clear hg5 X14 D14 B14 xc xf xl hmk hs' hk1 hk2
  have hk3 : w.heap.size < u10.heap.size := by omega
  go_wp2_with (refine wpList_load_row rfl 35 (.tmp 1) rfl w.heap.size rfl 35 (akc (q.none_ (.slice (some ⟨u11.heap.size + 1, 0, none⟩) ns ns))) (0, 0) _ X13 Try.underlying35 rfl (by kernel_rfl) ?_)
  refine (H3.out (u11.heap.size + 1) u13 Z13).mono ?_
  rintro e u14 ⟨rfl, hb⟩
  have hz14 := hb.size
  have kd : u10.heap.size < u13.heap.size := (Array.getElem?_eq_some_iff.1 D13).1
  have D14 := (hb.block u10.heap.size kd).trans D13
  have B14 : Below w.heap.size w u14 := B13.trans (hb.mono (by omega))
  clear hb
  obtain ⟨dc, df, dl⟩ := block_cells D14
  go_wp2_with fail
  go_ret
  refine ⟨rfl, ?_⟩
  have hk4 : w.heap.size ≤ u10.heap.size := Nat.le_of_lt hk3
  exact (((B14.setCell hk4 _).setCell hk4 _).setCell hk4 _).setCell hk4 _
/-- The law, for every question whose L and S are slices; S reads as the list s. -/
theorem obl_c (HS : Hid SaneC) (q : Ask) (al as_ : Option Addr) (nl cl ns cs : Nat) (hl : q.l = .slice al nl cl) (hs : q.s = .slice as_ ns cs) (b1 : nl ≤ maxLen) (b2 : 4 * ns ≤ 140737488351232) (w : World) (s : List (BitVec 32)) (hsl : Lists w q.s s) (hn : s.length = ns) :
    Calls Try.prog 5 #[akv q] w fun e w' => e = .returned (.bool true) ∧ Below w.heap.size w w' := by
  have b3 : ns ≤ maxLen := by unfold maxLen; omega
  have HF := fitsAll_c q al as_ nl cl ns cs hl hs b1 b3
  by_cases hfit : q.fit nl ns = true
  · rw [hfit] at HF
    have hF := fit_cases hfit
    have hok := sh_ok (s := s) hF hn
    have hot := sh_other (s := s) hF
    refine obl_yes HS q (Lib.hid HF) (Lib.hid (akc_one q (by rw [hl]; rfl) (by rw [hs]; rfl))) w as_ ns cs (Lib.hid hs) b2 (q.sh s).1 (Lib.hid ?_) (Lib.hid ?_) (Lib.hid ?_)
    · intro w' hb
      have := shAll_c q s (by omega) w' (hsl.below hb)
      rw [hok] at this
      exact this
    · intro w' hb
      have := shAll_c q.other s (by omega) w' (hsl.below hb)
      rw [hot, hok] at this
      exact this
    · intro b w' hb
      have hz := sh_none (.slice (some ⟨b, 0, none⟩) ns ns) hF
      have := shAll_c (q.none_ (.slice (some ⟨b, 0, none⟩) ns ns)) (List.replicate ns 0#32) (by simp; omega) w' (.inr ⟨b, 0, ns, by simp [Ask.none_], ?_⟩)
      · rw [hz] at this
        exact this
      · intro i x hi
        simp only [List.getElem?_replicate] at hi
        split at hi
        · rename_i hin
          obtain rfl : 0#32 = x := by simpa using hi
          rw [(block_cells hb).1]
          simp [madeCells, hin, Nat.mod_one]
        · cases hi
  · have hfit' : q.fit nl ns = false := by simpa using hfit
    rw [hfit'] at HF
    exact obl_no HS q (Lib.hid HF) w
end Go.Proofs.Ytboknfppecgjmaa
