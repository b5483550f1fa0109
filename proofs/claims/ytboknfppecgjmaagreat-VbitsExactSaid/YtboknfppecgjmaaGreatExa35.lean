/- Part 35 of the proof's texts: SevenE, R12UnB. -/
import Derived.Test.YtboknfppecgjmaaGreatExa26
import Derived.Test.YtboknfppecgjmaaGreatExa33
import Derived.Test.YtboknfppecgjmaaGreatExa34
set_option maxHeartbeats 16000000
namespace Go.Proofs.YtboknfppecgjmaaGreat
set_option linter.unusedVariables false
set_option linter.unusedSimpArgs false
open Go.RowKit Go.Shelf
theorem mseven_first (x : V) : (x.a &&& 255#32) >>> 7 = Rf.mseven x 1 := by
  simp [Rf.mseven, V.get]
set_option maxRecDepth 100000 in
theorem mask7_c (x : V) (w : World) : Calls Tryz.prog 50 #[vv x] w fun e w' => e = .returned (uv (Rf.mseven x 16)) ∧ Below w.heap.size w w' := by
  have X0 := heap_alloc_new w (vcell x)
  go_enter Tryz.func50, Tryz.ntmps50
  go_wp2_with fail
  generalize hu : World.alloc _ _ = v0
  rw [hu] at X0
  have B0 : Below w.heap.size w v0 := by rw [← hu]; (repeat (first | exact Below.refl _ _ | refine Below.setCell ?_ (by first | omega | (simp <;> omega)) _ | refine Below.alloc ?_ (by first | omega | (simp <;> omega)) _ | refine Below.drew ?_ | refine Below.trans ?_ (Below.mono (by assumption) (by first | omega | (simp <;> omega)))))
  clear hu
  refine wp_loop_rounds 17 ?_
  rw [rounds_succ]
  obtain ⟨xc, xf, xl⟩ := block_cells X0
  go_wp2_with fail
  have hs : (x.a &&& 255#32) >>> 7 = Rf.mseven x 1 := mseven_first x
  refine (byteOf_0 _ _).mono ?_
  rintro e v1 ⟨rfl, hb⟩
  have X1 := (hb.block _ xl).trans X0
  have B1 : Below w.heap.size w v1 := B0.trans (hb.mono (by omega))
  clear hb xc xf xl X0 B0
  go_wp2_with fail
  clear hs
  rw [rounds_succ]
  obtain ⟨xc, xf, xl⟩ := block_cells X1
  go_wp2_with fail
  have hs : Rf.mseven x 1 ||| ((((x.a >>> 8) &&& 255#32) >>> 7) <<< 1) = Rf.mseven x 2 := rfl
  refine (byteOf_1 _ _).mono ?_
  rintro e v2 ⟨rfl, hb⟩
  have X2 := (hb.block _ xl).trans X1
  have B2 : Below w.heap.size w v2 := B1.trans (hb.mono (by omega))
  clear hb xc xf xl X1 B1
  go_wp2_with fail
  clear hs
  rw [rounds_succ]
  obtain ⟨xc, xf, xl⟩ := block_cells X2
  go_wp2_with fail
  have hs : Rf.mseven x 2 ||| ((((x.a >>> 16) &&& 255#32) >>> 7) <<< 2) = Rf.mseven x 3 := rfl
  refine (byteOf_2 _ _).mono ?_
  rintro e v3 ⟨rfl, hb⟩
  have X3 := (hb.block _ xl).trans X2
  have B3 : Below w.heap.size w v3 := B2.trans (hb.mono (by omega))
  clear hb xc xf xl X2 B2
  go_wp2_with fail
  clear hs
  rw [rounds_succ]
  obtain ⟨xc, xf, xl⟩ := block_cells X3
  go_wp2_with fail
  have hs : Rf.mseven x 3 ||| ((((x.a >>> 24) &&& 255#32) >>> 7) <<< 3) = Rf.mseven x 4 := rfl
  refine (byteOf_3 _ _).mono ?_
  rintro e v4 ⟨rfl, hb⟩
  have X4 := (hb.block _ xl).trans X3
  have B4 : Below w.heap.size w v4 := B3.trans (hb.mono (by omega))
  clear hb xc xf xl X3 B3
  go_wp2_with fail
  clear hs
  rw [rounds_succ]
  obtain ⟨xc, xf, xl⟩ := block_cells X4
  go_wp2_with fail
  have hs : Rf.mseven x 4 ||| (((x.b &&& 255#32) >>> 7) <<< 4) = Rf.mseven x 5 := rfl
  refine (byteOf_4 _ _).mono ?_
  rintro e v5 ⟨rfl, hb⟩
  have X5 := (hb.block _ xl).trans X4
  have B5 : Below w.heap.size w v5 := B4.trans (hb.mono (by omega))
  clear hb xc xf xl X4 B4
  go_wp2_with fail
  clear hs
  rw [rounds_succ]
  obtain ⟨xc, xf, xl⟩ := block_cells X5
  go_wp2_with fail
  have hs : Rf.mseven x 5 ||| ((((x.b >>> 8) &&& 255#32) >>> 7) <<< 5) = Rf.mseven x 6 := rfl
  refine (byteOf_5 _ _).mono ?_
  rintro e v6 ⟨rfl, hb⟩
  have X6 := (hb.block _ xl).trans X5
  have B6 : Below w.heap.size w v6 := B5.trans (hb.mono (by omega))
  clear hb xc xf xl X5 B5
  go_wp2_with fail
  clear hs
  rw [rounds_succ]
  obtain ⟨xc, xf, xl⟩ := block_cells X6
  go_wp2_with fail
  have hs : Rf.mseven x 6 ||| ((((x.b >>> 16) &&& 255#32) >>> 7) <<< 6) = Rf.mseven x 7 := rfl
  refine (byteOf_6 _ _).mono ?_
  rintro e v7 ⟨rfl, hb⟩
  have X7 := (hb.block _ xl).trans X6
  have B7 : Below w.heap.size w v7 := B6.trans (hb.mono (by omega))
  clear hb xc xf xl X6 B6
  go_wp2_with fail
  clear hs
  rw [rounds_succ]
  obtain ⟨xc, xf, xl⟩ := block_cells X7
  go_wp2_with fail
  have hs : Rf.mseven x 7 ||| ((((x.b >>> 24) &&& 255#32) >>> 7) <<< 7) = Rf.mseven x 8 := rfl
  refine (byteOf_7 _ _).mono ?_
  rintro e v8 ⟨rfl, hb⟩
  have X8 := (hb.block _ xl).trans X7
  have B8 : Below w.heap.size w v8 := B7.trans (hb.mono (by omega))
  clear hb xc xf xl X7 B7
  go_wp2_with fail
  clear hs
  rw [rounds_succ]
  obtain ⟨xc, xf, xl⟩ := block_cells X8
  go_wp2_with fail
  have hs : Rf.mseven x 8 ||| (((x.c &&& 255#32) >>> 7) <<< 8) = Rf.mseven x 9 := rfl
  refine (byteOf_8 _ _).mono ?_
  rintro e v9 ⟨rfl, hb⟩
  have X9 := (hb.block _ xl).trans X8
  have B9 : Below w.heap.size w v9 := B8.trans (hb.mono (by omega))
  clear hb xc xf xl X8 B8
  go_wp2_with fail
  clear hs
  rw [rounds_succ]
  obtain ⟨xc, xf, xl⟩ := block_cells X9
  go_wp2_with fail
  have hs : Rf.mseven x 9 ||| ((((x.c >>> 8) &&& 255#32) >>> 7) <<< 9) = Rf.mseven x 10 := rfl
  refine (byteOf_9 _ _).mono ?_
  rintro e v10 ⟨rfl, hb⟩
  have X10 := (hb.block _ xl).trans X9
  have B10 : Below w.heap.size w v10 := B9.trans (hb.mono (by omega))
  clear hb xc xf xl X9 B9
  go_wp2_with fail
  clear hs
  rw [rounds_succ]
  obtain ⟨xc, xf, xl⟩ := block_cells X10
  go_wp2_with fail
  have hs : Rf.mseven x 10 ||| ((((x.c >>> 16) &&& 255#32) >>> 7) <<< 10) = Rf.mseven x 11 := rfl
  refine (byteOf_10 _ _).mono ?_
  rintro e v11 ⟨rfl, hb⟩
  have X11 := (hb.block _ xl).trans X10
  have B11 : Below w.heap.size w v11 := B10.trans (hb.mono (by omega))
  clear hb xc xf xl X10 B10
  go_wp2_with fail
  clear hs
  rw [rounds_succ]
  obtain ⟨xc, xf, xl⟩ := block_cells X11
  go_wp2_with fail
  have hs : Rf.mseven x 11 ||| ((((x.c >>> 24) &&& 255#32) >>> 7) <<< 11) = Rf.mseven x 12 := rfl
  refine (byteOf_11 _ _).mono ?_
  rintro e v12 ⟨rfl, hb⟩
  have X12 := (hb.block _ xl).trans X11
  have B12 : Below w.heap.size w v12 := B11.trans (hb.mono (by omega))
  clear hb xc xf xl X11 B11
  go_wp2_with fail
  clear hs
  rw [rounds_succ]
  obtain ⟨xc, xf, xl⟩ := block_cells X12
  go_wp2_with fail
  have hs : Rf.mseven x 12 ||| (((x.d &&& 255#32) >>> 7) <<< 12) = Rf.mseven x 13 := rfl
  refine (byteOf_12 _ _).mono ?_
  rintro e v13 ⟨rfl, hb⟩
  have X13 := (hb.block _ xl).trans X12
  have B13 : Below w.heap.size w v13 := B12.trans (hb.mono (by omega))
  clear hb xc xf xl X12 B12
  go_wp2_with fail
  clear hs
  rw [rounds_succ]
  obtain ⟨xc, xf, xl⟩ := block_cells X13
  go_wp2_with fail
  have hs : Rf.mseven x 13 ||| ((((x.d >>> 8) &&& 255#32) >>> 7) <<< 13) = Rf.mseven x 14 := rfl
  refine (byteOf_13 _ _).mono ?_
  rintro e v14 ⟨rfl, hb⟩
  have X14 := (hb.block _ xl).trans X13
  have B14 : Below w.heap.size w v14 := B13.trans (hb.mono (by omega))
  clear hb xc xf xl X13 B13
  go_wp2_with fail
  clear hs
  rw [rounds_succ]
  obtain ⟨xc, xf, xl⟩ := block_cells X14
  go_wp2_with fail
  have hs : Rf.mseven x 14 ||| ((((x.d >>> 16) &&& 255#32) >>> 7) <<< 14) = Rf.mseven x 15 := rfl
  refine (byteOf_14 _ _).mono ?_
  rintro e v15 ⟨rfl, hb⟩
  have X15 := (hb.block _ xl).trans X14
  have B15 : Below w.heap.size w v15 := B14.trans (hb.mono (by omega))
  clear hb xc xf xl X14 B14
  go_wp2_with fail
  clear hs
  rw [rounds_succ]
  obtain ⟨xc, xf, xl⟩ := block_cells X15
  go_wp2_with fail
  have hs : Rf.mseven x 15 ||| ((((x.d >>> 24) &&& 255#32) >>> 7) <<< 15) = Rf.mseven x 16 := rfl
  refine (byteOf_15 _ _).mono ?_
  rintro e v16 ⟨rfl, hb⟩
  have X16 := (hb.block _ xl).trans X15
  have B16 : Below w.heap.size w v16 := B15.trans (hb.mono (by omega))
  clear hb xc xf xl X15 B15
  go_wp2_with fail
  clear hs
  rw [rounds_succ]
  go_wp2_with fail
  go_ret
  exact ⟨rfl, B16⟩
end Go.Proofs.YtboknfppecgjmaaGreat
namespace Go.Proofs.YtboknfppecgjmaaGreat
set_option linter.unusedVariables false
set_option linter.unusedSimpArgs false
open Go.RowKit Go.Shelf
set_option maxRecDepth 100000 in
theorem un12_8 (p to off : Int) (x z : V) (HU : Hid (IsUnC (8 : Int) p to off true)) (HC : Hid (ClipC p x z)) (r : V) (HL : Hid (LanesC 53 0 z V.zero r)) (w : World) : Calls Tryz.prog 19 #[iv (8 : Int), iv p, iv to, iv off, vv x] w fun e w' => e = .returned (.tuple #[vv (V.neg r), .bool true]) ∧ Below w.heap.size w w' := by
  have X0 := heap_alloc2_old w (vcell x) (vcell V.zero)
  have R0 := heap_alloc_new (w.alloc (vcell x)) (vcell V.zero)
  rw [World.size_alloc] at R0
  go_enter Tryz.func19, Tryz.ntmps19
  go_wp2_with fail
  (refine (HU.out _ ).mono ?_; rintro e u1 ⟨rfl, hb⟩; obtain ⟨hc, hf⟩ := Flow.bcell hb; have hz := hb.size; (try simp only [World.size_alloc, World.size_setCell, World.size_drew] at hz); obtain ⟨z0, z1⟩ := Flow.zs2 (show w.heap.size + 2 ≤ u1.heap.size by omega))
  have X1 := (hb.block w.heap.size (by simp <;> omega)).trans X0
  have R1 := (hb.block (w.heap.size + 1) (by simp)).trans R0
  have B1 : Below w.heap.size w u1 := by (repeat (first | exact Below.refl _ _ | refine Below.setCell ?_ (by first | omega | (simp <;> omega)) _ | refine Below.alloc ?_ (by first | omega | (simp <;> omega)) _ | refine Below.drew ?_ | refine Below.trans ?_ (Below.mono (by assumption) (by first | omega | (simp <;> omega)))))
  have y1 : w.heap.size + 1 < u1.heap.size := by omega
  clear X0 R0
  go_wp2_with fail
  (refine (HC.out _ ).mono ?_; rintro e u2 ⟨rfl, hb⟩; obtain ⟨hc, hf⟩ := Flow.bcell hb; have hz := hb.size; (try simp only [World.size_alloc, World.size_setCell, World.size_drew] at hz); obtain ⟨z0, z1⟩ := Flow.zs2 (show w.heap.size + 2 ≤ u2.heap.size by omega))
  have X2 := (hb.block w.heap.size (by omega)).trans X1
  have R2 := (hb.block (w.heap.size + 1) y1).trans R1
  have B2 : Below w.heap.size w u2 := B1.trans (hb.mono (by omega))
  have y2 : w.heap.size + 1 < u2.heap.size := by omega
  clear hb hc hf X1 R1 B1
  obtain ⟨xc, xf, xl⟩ := block_cells X2
  obtain ⟨u3, e3, X3, S3⟩ := store4 X2 0 1 2 3 (uv z.a) (uv z.b) (uv z.c) (uv z.d)
  have R3 := (S3.other (w.heap.size + 1) (by omega)).trans R2
  have B3 : Below w.heap.size w u3 := B2.trans (S3.below _ (Nat.le_refl _))
  have y3 : w.heap.size + 1 < u3.heap.size := by rw [S3.size]; exact y2
  have y3' : w.heap.size < u3.heap.size := by omega
  replace X3 : u3.heap[w.heap.size]? = some (vcell z) := X3
  clear S3 R2 X2
  obtain ⟨zc, zf, zl⟩ := block_cells X3
  obtain ⟨rc, rf, rl⟩ := block_cells R3
  go_wp2_with fail
  (refine (lanes12_c 0 z r HL _ ).mono ?_; rintro e u4 ⟨rfl, hb⟩; obtain ⟨hc, hf⟩ := Flow.bcell hb; have hz := hb.size; (try simp only [World.size_alloc, World.size_setCell, World.size_drew] at hz); obtain ⟨z0, z1⟩ := Flow.zs2 (show w.heap.size + 2 ≤ u4.heap.size by omega))
  have X4 := (hb.block w.heap.size (by omega)).trans X3
  have R4 := (hb.block (w.heap.size + 1) (by omega)).trans R3
  have B4 : Below w.heap.size w u4 := B3.trans (hb.mono (by omega))
  have y4 : w.heap.size + 1 < u4.heap.size := by omega
  have y4' : w.heap.size < u4.heap.size := by omega
  clear hb hc hf xc xf xl zc zf zl rc rf rl
  (try clear e3)
  obtain ⟨zc, zf, zl⟩ := block_cells X4
  obtain ⟨rc, rf, rl⟩ := block_cells R4
  have xc := zc
  have xf := zf
  have xl := zl
  go_wp2_with fail
  refine Flow.bodyPost_k rfl (fun K hK => ?_)
  simp only [results, Tryz.results19]
  go_simp
  refine hK _ ⟨?_, ?_⟩
  · rfl
  · first
      | exact (((B4.setCell (Nat.le_succ _) _).setCell (Nat.le_succ _) _).setCell (Nat.le_succ _) _).setCell (Nat.le_succ _) _
      | (repeat (first | exact Below.refl _ _ | refine Below.setCell ?_ (by first | omega | (simp <;> omega)) _ | refine Below.alloc ?_ (by first | omega | (simp <;> omega)) _ | refine Below.drew ?_ | refine Below.trans ?_ (Below.mono (by assumption) (by first | omega | (simp <;> omega)))))
set_option maxRecDepth 100000 in
theorem un12_9 (p to off : Int) (x z : V) (HU : Hid (IsUnC (9 : Int) p to off true)) (HC : Hid (ClipC p x z)) (r : V) (HL : Hid (LanesC 53 1 z V.zero r)) (w : World) : Calls Tryz.prog 19 #[iv (9 : Int), iv p, iv to, iv off, vv x] w fun e w' => e = .returned (.tuple #[vv (V.neg r), .bool true]) ∧ Below w.heap.size w w' := by
  have X0 := heap_alloc2_old w (vcell x) (vcell V.zero)
  have R0 := heap_alloc_new (w.alloc (vcell x)) (vcell V.zero)
  rw [World.size_alloc] at R0
  go_enter Tryz.func19, Tryz.ntmps19
  go_wp2_with fail
  (refine (HU.out _ ).mono ?_; rintro e u1 ⟨rfl, hb⟩; obtain ⟨hc, hf⟩ := Flow.bcell hb; have hz := hb.size; (try simp only [World.size_alloc, World.size_setCell, World.size_drew] at hz); obtain ⟨z0, z1⟩ := Flow.zs2 (show w.heap.size + 2 ≤ u1.heap.size by omega))
  have X1 := (hb.block w.heap.size (by simp <;> omega)).trans X0
  have R1 := (hb.block (w.heap.size + 1) (by simp)).trans R0
  have B1 : Below w.heap.size w u1 := by (repeat (first | exact Below.refl _ _ | refine Below.setCell ?_ (by first | omega | (simp <;> omega)) _ | refine Below.alloc ?_ (by first | omega | (simp <;> omega)) _ | refine Below.drew ?_ | refine Below.trans ?_ (Below.mono (by assumption) (by first | omega | (simp <;> omega)))))
  have y1 : w.heap.size + 1 < u1.heap.size := by omega
  clear X0 R0
  go_wp2_with fail
  (refine (HC.out _ ).mono ?_; rintro e u2 ⟨rfl, hb⟩; obtain ⟨hc, hf⟩ := Flow.bcell hb; have hz := hb.size; (try simp only [World.size_alloc, World.size_setCell, World.size_drew] at hz); obtain ⟨z0, z1⟩ := Flow.zs2 (show w.heap.size + 2 ≤ u2.heap.size by omega))
  have X2 := (hb.block w.heap.size (by omega)).trans X1
  have R2 := (hb.block (w.heap.size + 1) y1).trans R1
  have B2 : Below w.heap.size w u2 := B1.trans (hb.mono (by omega))
  have y2 : w.heap.size + 1 < u2.heap.size := by omega
  clear hb hc hf X1 R1 B1
  obtain ⟨xc, xf, xl⟩ := block_cells X2
  obtain ⟨u3, e3, X3, S3⟩ := store4 X2 0 1 2 3 (uv z.a) (uv z.b) (uv z.c) (uv z.d)
  have R3 := (S3.other (w.heap.size + 1) (by omega)).trans R2
  have B3 : Below w.heap.size w u3 := B2.trans (S3.below _ (Nat.le_refl _))
  have y3 : w.heap.size + 1 < u3.heap.size := by rw [S3.size]; exact y2
  have y3' : w.heap.size < u3.heap.size := by omega
  replace X3 : u3.heap[w.heap.size]? = some (vcell z) := X3
  clear S3 R2 X2
  obtain ⟨zc, zf, zl⟩ := block_cells X3
  obtain ⟨rc, rf, rl⟩ := block_cells R3
  go_wp2_with fail
  (refine (lanes12_c 1 z r HL _ ).mono ?_; rintro e u4 ⟨rfl, hb⟩; obtain ⟨hc, hf⟩ := Flow.bcell hb; have hz := hb.size; (try simp only [World.size_alloc, World.size_setCell, World.size_drew] at hz); obtain ⟨z0, z1⟩ := Flow.zs2 (show w.heap.size + 2 ≤ u4.heap.size by omega))
  have X4 := (hb.block w.heap.size (by omega)).trans X3
  have R4 := (hb.block (w.heap.size + 1) (by omega)).trans R3
  have B4 : Below w.heap.size w u4 := B3.trans (hb.mono (by omega))
  have y4 : w.heap.size + 1 < u4.heap.size := by omega
  have y4' : w.heap.size < u4.heap.size := by omega
  clear hb hc hf xc xf xl zc zf zl rc rf rl
  (try clear e3)
  obtain ⟨zc, zf, zl⟩ := block_cells X4
  obtain ⟨rc, rf, rl⟩ := block_cells R4
  have xc := zc
  have xf := zf
  have xl := zl
  go_wp2_with fail
  refine Flow.bodyPost_k rfl (fun K hK => ?_)
  simp only [results, Tryz.results19]
  go_simp
  refine hK _ ⟨?_, ?_⟩
  · rfl
  · first
      | exact (((B4.setCell (Nat.le_succ _) _).setCell (Nat.le_succ _) _).setCell (Nat.le_succ _) _).setCell (Nat.le_succ _) _
      | (repeat (first | exact Below.refl _ _ | refine Below.setCell ?_ (by first | omega | (simp <;> omega)) _ | refine Below.alloc ?_ (by first | omega | (simp <;> omega)) _ | refine Below.drew ?_ | refine Below.trans ?_ (Below.mono (by assumption) (by first | omega | (simp <;> omega)))))
set_option maxRecDepth 100000 in
theorem un12_10 (p to off : Int) (x z : V) (HU : Hid (IsUnC (10 : Int) p to off true)) (HC : Hid (ClipC p x z)) (r : V) (HL : Hid (LanesC 53 2 z V.zero r)) (w : World) : Calls Tryz.prog 19 #[iv (10 : Int), iv p, iv to, iv off, vv x] w fun e w' => e = .returned (.tuple #[vv (V.neg r), .bool true]) ∧ Below w.heap.size w w' := by
  have X0 := heap_alloc2_old w (vcell x) (vcell V.zero)
  have R0 := heap_alloc_new (w.alloc (vcell x)) (vcell V.zero)
  rw [World.size_alloc] at R0
  go_enter Tryz.func19, Tryz.ntmps19
  go_wp2_with fail
  (refine (HU.out _ ).mono ?_; rintro e u1 ⟨rfl, hb⟩; obtain ⟨hc, hf⟩ := Flow.bcell hb; have hz := hb.size; (try simp only [World.size_alloc, World.size_setCell, World.size_drew] at hz); obtain ⟨z0, z1⟩ := Flow.zs2 (show w.heap.size + 2 ≤ u1.heap.size by omega))
  have X1 := (hb.block w.heap.size (by simp <;> omega)).trans X0
  have R1 := (hb.block (w.heap.size + 1) (by simp)).trans R0
  have B1 : Below w.heap.size w u1 := by (repeat (first | exact Below.refl _ _ | refine Below.setCell ?_ (by first | omega | (simp <;> omega)) _ | refine Below.alloc ?_ (by first | omega | (simp <;> omega)) _ | refine Below.drew ?_ | refine Below.trans ?_ (Below.mono (by assumption) (by first | omega | (simp <;> omega)))))
  have y1 : w.heap.size + 1 < u1.heap.size := by omega
  clear X0 R0
  go_wp2_with fail
  (refine (HC.out _ ).mono ?_; rintro e u2 ⟨rfl, hb⟩; obtain ⟨hc, hf⟩ := Flow.bcell hb; have hz := hb.size; (try simp only [World.size_alloc, World.size_setCell, World.size_drew] at hz); obtain ⟨z0, z1⟩ := Flow.zs2 (show w.heap.size + 2 ≤ u2.heap.size by omega))
  have X2 := (hb.block w.heap.size (by omega)).trans X1
  have R2 := (hb.block (w.heap.size + 1) y1).trans R1
  have B2 : Below w.heap.size w u2 := B1.trans (hb.mono (by omega))
  have y2 : w.heap.size + 1 < u2.heap.size := by omega
  clear hb hc hf X1 R1 B1
  obtain ⟨xc, xf, xl⟩ := block_cells X2
  obtain ⟨u3, e3, X3, S3⟩ := store4 X2 0 1 2 3 (uv z.a) (uv z.b) (uv z.c) (uv z.d)
  have R3 := (S3.other (w.heap.size + 1) (by omega)).trans R2
  have B3 : Below w.heap.size w u3 := B2.trans (S3.below _ (Nat.le_refl _))
  have y3 : w.heap.size + 1 < u3.heap.size := by rw [S3.size]; exact y2
  have y3' : w.heap.size < u3.heap.size := by omega
  replace X3 : u3.heap[w.heap.size]? = some (vcell z) := X3
  clear S3 R2 X2
  obtain ⟨zc, zf, zl⟩ := block_cells X3
  obtain ⟨rc, rf, rl⟩ := block_cells R3
  go_wp2_with fail
  (refine (lanes12_c 2 z r HL _ ).mono ?_; rintro e u4 ⟨rfl, hb⟩; obtain ⟨hc, hf⟩ := Flow.bcell hb; have hz := hb.size; (try simp only [World.size_alloc, World.size_setCell, World.size_drew] at hz); obtain ⟨z0, z1⟩ := Flow.zs2 (show w.heap.size + 2 ≤ u4.heap.size by omega))
  have X4 := (hb.block w.heap.size (by omega)).trans X3
  have R4 := (hb.block (w.heap.size + 1) (by omega)).trans R3
  have B4 : Below w.heap.size w u4 := B3.trans (hb.mono (by omega))
  have y4 : w.heap.size + 1 < u4.heap.size := by omega
  have y4' : w.heap.size < u4.heap.size := by omega
  clear hb hc hf xc xf xl zc zf zl rc rf rl
  (try clear e3)
  obtain ⟨zc, zf, zl⟩ := block_cells X4
  obtain ⟨rc, rf, rl⟩ := block_cells R4
  have xc := zc
  have xf := zf
  have xl := zl
  go_wp2_with fail
  refine Flow.bodyPost_k rfl (fun K hK => ?_)
  simp only [results, Tryz.results19]
  go_simp
  refine hK _ ⟨?_, ?_⟩
  · rfl
  · first
      | exact (((B4.setCell (Nat.le_succ _) _).setCell (Nat.le_succ _) _).setCell (Nat.le_succ _) _).setCell (Nat.le_succ _) _
      | (repeat (first | exact Below.refl _ _ | refine Below.setCell ?_ (by first | omega | (simp <;> omega)) _ | refine Below.alloc ?_ (by first | omega | (simp <;> omega)) _ | refine Below.drew ?_ | refine Below.trans ?_ (Below.mono (by assumption) (by first | omega | (simp <;> omega)))))
set_option maxRecDepth 100000 in
theorem un12_13 (p to off : Int) (x z : V) (HU : Hid (IsUnC (13 : Int) p to off true)) (HC : Hid (ClipC p x z)) (w : World) : Calls Tryz.prog 19 #[iv (13 : Int), iv p, iv to, iv off, vv x] w fun e w' => e = .returned (.tuple #[vv (V.word (Rf.mseven z 16)), .bool true]) ∧ Below w.heap.size w w' := by
  have X0 := heap_alloc2_old w (vcell x) (vcell V.zero)
  have R0 := heap_alloc_new (w.alloc (vcell x)) (vcell V.zero)
  rw [World.size_alloc] at R0
  go_enter Tryz.func19, Tryz.ntmps19
  go_wp2_with fail
  (refine (HU.out _ ).mono ?_; rintro e u1 ⟨rfl, hb⟩; obtain ⟨hc, hf⟩ := Flow.bcell hb; have hz := hb.size; (try simp only [World.size_alloc, World.size_setCell, World.size_drew] at hz); obtain ⟨z0, z1⟩ := Flow.zs2 (show w.heap.size + 2 ≤ u1.heap.size by omega))
  have X1 := (hb.block w.heap.size (by simp <;> omega)).trans X0
  have R1 := (hb.block (w.heap.size + 1) (by simp)).trans R0
  have B1 : Below w.heap.size w u1 := by (repeat (first | exact Below.refl _ _ | refine Below.setCell ?_ (by first | omega | (simp <;> omega)) _ | refine Below.alloc ?_ (by first | omega | (simp <;> omega)) _ | refine Below.drew ?_ | refine Below.trans ?_ (Below.mono (by assumption) (by first | omega | (simp <;> omega)))))
  have y1 : w.heap.size + 1 < u1.heap.size := by omega
  clear X0 R0
  go_wp2_with fail
  (refine (HC.out _ ).mono ?_; rintro e u2 ⟨rfl, hb⟩; obtain ⟨hc, hf⟩ := Flow.bcell hb; have hz := hb.size; (try simp only [World.size_alloc, World.size_setCell, World.size_drew] at hz); obtain ⟨z0, z1⟩ := Flow.zs2 (show w.heap.size + 2 ≤ u2.heap.size by omega))
  have X2 := (hb.block w.heap.size (by omega)).trans X1
  have R2 := (hb.block (w.heap.size + 1) y1).trans R1
  have B2 : Below w.heap.size w u2 := B1.trans (hb.mono (by omega))
  have y2 : w.heap.size + 1 < u2.heap.size := by omega
  clear hb hc hf X1 R1 B1
  obtain ⟨xc, xf, xl⟩ := block_cells X2
  obtain ⟨u3, e3, X3, S3⟩ := store4 X2 0 1 2 3 (uv z.a) (uv z.b) (uv z.c) (uv z.d)
  have R3 := (S3.other (w.heap.size + 1) (by omega)).trans R2
  have B3 : Below w.heap.size w u3 := B2.trans (S3.below _ (Nat.le_refl _))
  have y3 : w.heap.size + 1 < u3.heap.size := by rw [S3.size]; exact y2
  have y3' : w.heap.size < u3.heap.size := by omega
  replace X3 : u3.heap[w.heap.size]? = some (vcell z) := X3
  clear S3 R2 X2
  obtain ⟨zc, zf, zl⟩ := block_cells X3
  obtain ⟨rc, rf, rl⟩ := block_cells R3
  go_wp2_with fail
  (refine (mask7_c z _ ).mono ?_; rintro e u4 ⟨rfl, hb⟩; obtain ⟨hc, hf⟩ := Flow.bcell hb; have hz := hb.size; (try simp only [World.size_alloc, World.size_setCell, World.size_drew] at hz); obtain ⟨z0, z1⟩ := Flow.zs2 (show w.heap.size + 2 ≤ u4.heap.size by omega))
  have X4 := (hb.block w.heap.size (by omega)).trans X3
  have R4 := (hb.block (w.heap.size + 1) (by omega)).trans R3
  have B4 : Below w.heap.size w u4 := B3.trans (hb.mono (by omega))
  have y4 : w.heap.size + 1 < u4.heap.size := by omega
  have y4' : w.heap.size < u4.heap.size := by omega
  clear hb hc hf xc xf xl zc zf zl rc rf rl
  (try clear e3)
  obtain ⟨zc, zf, zl⟩ := block_cells X4
  obtain ⟨rc, rf, rl⟩ := block_cells R4
  have xc := zc
  have xf := zf
  have xl := zl
  go_wp2_with fail
  (refine (wordv_c (Rf.mseven z 16) _ ).mono ?_; rintro e u5 ⟨rfl, hb⟩; obtain ⟨hc, hf⟩ := Flow.bcell hb; have hz := hb.size; (try simp only [World.size_alloc, World.size_setCell, World.size_drew] at hz); obtain ⟨z0, z1⟩ := Flow.zs2 (show w.heap.size + 2 ≤ u5.heap.size by omega))
  have X5 := (hb.block w.heap.size (by omega)).trans X4
  have R5 := (hb.block (w.heap.size + 1) (by omega)).trans R4
  have B5 : Below w.heap.size w u5 := B4.trans (hb.mono (by omega))
  have y5 : w.heap.size + 1 < u5.heap.size := by omega
  have y5' : w.heap.size < u5.heap.size := by omega
  clear hb hc hf xc xf xl zc zf zl rc rf rl
  (try clear e3)
  obtain ⟨zc, zf, zl⟩ := block_cells X5
  obtain ⟨rc, rf, rl⟩ := block_cells R5
  have xc := zc
  have xf := zf
  have xl := zl
  go_wp2_with fail
  refine Flow.bodyPost_k rfl (fun K hK => ?_)
  simp only [results, Tryz.results19]
  go_simp
  refine hK _ ⟨?_, ?_⟩
  · rfl
  · first
      | exact (((B5.setCell (Nat.le_succ _) _).setCell (Nat.le_succ _) _).setCell (Nat.le_succ _) _).setCell (Nat.le_succ _) _
      | (repeat (first | exact Below.refl _ _ | refine Below.setCell ?_ (by first | omega | (simp <;> omega)) _ | refine Below.alloc ?_ (by first | omega | (simp <;> omega)) _ | refine Below.drew ?_ | refine Below.trans ?_ (Below.mono (by assumption) (by first | omega | (simp <;> omega)))))
end Go.Proofs.YtboknfppecgjmaaGreat
