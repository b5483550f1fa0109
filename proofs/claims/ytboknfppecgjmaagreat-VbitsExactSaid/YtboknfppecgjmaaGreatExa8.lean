/- Part 8 of the proof's texts: Shuf. -/
import Derived.Deep.RegionHeld
import Derived.Test.YtboknfppecgjmaaGreatExa7
set_option maxHeartbeats 16000000
namespace Go.Proofs.YtboknfppecgjmaaGreat
set_option linter.unusedVariables false
set_option linter.unusedSimpArgs false
open Go.RowKit Go.Shelf
def shufPart (a y b : V) : Nat → V
  | 0 => V.zero
  | n + 1 => (shufPart a y b n).set (n / 4) ((shufPart a y b n).get (n / 4) ||| Vb.shufByte a y b n <<< (8 * (n % 4)))
theorem wp_loop_count {P : Program} {c : Code} {Q : Exit → Act → World → Prop} {a : Act} {w : World} (N : Nat) (F : Nat → Act → World → Prop) (h0 : F 0 a w)
    (step : ∀ n a w, n < N → F n a w → c.wp P (Exit.then (F (n + 1)) Q) a w) (last : ∀ a w, F N a w → c.wp P (Exit.then (fun _ _ => False) Q) a w) : (Code.loop c).wp P Q a w := by
  refine wp_loop_rounds (N + 1) ?_
  have key : ∀ m n a w, n + m = N → F n a w → Code.rounds P c Q (m + 1) a w := by
    intro m
    induction m with
    | zero =>
      intro n a w hn hF
      have : n = N := by omega
      subst this
      rw [rounds_succ]
      exact Code.wp_mono (fun e a w h => by cases e <;> first | exact h | exact h.elim) (last a w hF)
    | succ m ih =>
      intro n a w hn hF
      rw [rounds_succ]
      exact Code.wp_mono (fun e a w h => by
        unfold Exit.then at *
        split at h <;> first | exact ih _ _ _ (by omega) h | exact h) (step n a w (by omega) hF)
  exact key N 0 a w (by omega) h0
def shufFrame (o : Vb.Binary) (B : Nat) (n : Nat) (t : Array Value) : Array Value :=
  #[bnv o, .pointer (some ⟨B, 0, none⟩), .pointer (some ⟨B + 1, 0, none⟩), .pointer (some ⟨B + 1 + 1, 0, none⟩), t.getD 4 undef, t.getD 5 undef, t.getD 6 undef, t.getD 7 undef, iv n,
    t.getD 9 undef, t.getD 10 undef, t.getD 11 undef, t.getD 12 undef, t.getD 13 undef, t.getD 14 undef, t.getD 15 undef, t.getD 16 undef, t.getD 17 undef, t.getD 18 undef, t.getD 19 undef, t.getD 20 undef, t.getD 21 undef, t.getD 22 undef, t.getD 23 undef, t.getD 24 undef, t.getD 25 undef, t.getD 26 undef, t.getD 27 undef, t.getD 28 undef, t.getD 29 undef, t.getD 30 undef, t.getD 31 undef, t.getD 32 undef, t.getD 33 undef, t.getD 34 undef, t.getD 35 undef, t.getD 36 undef, t.getD 37 undef, t.getD 38 undef, t.getD 39 undef, t.getD 40 undef, t.getD 41 undef, t.getD 42 undef, t.getD 43 undef, t.getD 44 undef, t.getD 45 undef, t.getD 46 undef, t.getD 47 undef, t.getD 48 undef, t.getD 49 undef, t.getD 50 undef, t.getD 51 undef]
structure ShufRel (o : Vb.Binary) (w : World) (n : Nat) (w' : World) : Prop where
  below : Below w.heap.size w w'
  size : w.heap.size + 3 ≤ w'.heap.size
  box : ∀ k, w'.cell? ⟨w.heap.size, k, none⟩ = (w.alloc (.cells #[iv o.op, iv o.ty, iv o.off, uv o.x.a, uv o.x.b, uv o.x.c, uv o.x.d, uv o.a.a, uv o.a.b, uv o.a.c, uv o.a.d, uv o.y.a, uv o.y.b, uv o.y.c, uv o.y.d, uv o.b.a, uv o.b.b, uv o.b.c, uv o.b.d] 84)).cell? ⟨w.heap.size, k, none⟩
  out0 : w'.cell? ⟨w.heap.size + 1 + 1, 0, none⟩ = some (uv (shufPart o.a o.y o.b n).a)
  out1 : w'.cell? ⟨w.heap.size + 1 + 1, 1, none⟩ = some (uv (shufPart o.a o.y o.b n).b)
  out2 : w'.cell? ⟨w.heap.size + 1 + 1, 2, none⟩ = some (uv (shufPart o.a o.y o.b n).c)
  out3 : w'.cell? ⟨w.heap.size + 1 + 1, 3, none⟩ = some (uv (shufPart o.a o.y o.b n).d)
  res : ∀ k, k < 4 → w'.cell? ⟨w.heap.size + 1, k, none⟩ = some (uv 0#32)
  froz : ∀ b k, w.heap.size ≤ b → b < w.heap.size + 3 → w'.frozen? ⟨b, k, none⟩ = false
def ShufAt (o : Vb.Binary) (w : World) (n : Nat) (a : Act) (w' : World) : Prop := ∃ t, a = ⟨shufFrame o w.heap.size n t, []⟩ ∧ ShufRel o w n w'
theorem ShufAt.mk {o : Vb.Binary} {w w' : World} {n : Nat} {t : Array Value} (h : t = shufFrame o w.heap.size n t) (r : ShufRel o w n w') : ShufAt o w n ⟨t, []⟩ w' := ⟨t, by rw [← h], r⟩
theorem ShufRel.step {o : Vb.Binary} {w w0 w1 : World} {n : Nat} (j : Nat) {v : BitVec 32} (hj : j = n / 4) (hn : n < 16) (hR : ShufRel o w n w0) (hb : Below w0.heap.size w0 w1)
    (hv : v = (shufPart o.a o.y o.b n).get j ||| Vb.shufByte o.a o.y o.b n <<< (8 * (n % 4))) : ShufRel o w (n + 1) (w1.setCell ⟨w.heap.size + 1 + 1, j, none⟩ (uv v)) := by
  obtain ⟨hbe, hz, hbox, h0, h1, h2, h3, hr, hfz⟩ := hR
  obtain ⟨hc, hf⟩ := Flow.bcell hb
  have hs := hb.size
  have e : shufPart o.a o.y o.b (n + 1) = (shufPart o.a o.y o.b n).set j v := by rw [hv, hj]; rfl
  have hj4 : j = 0 ∨ j = 1 ∨ j = 2 ∨ j = 3 := by omega
  have g : ∀ k, k < 4 → w1.cell? ⟨w.heap.size + 1 + 1, k, none⟩ = some (uv ((shufPart o.a o.y o.b n).get k)) := by
    intro k hk
    have : k = 0 ∨ k = 1 ∨ k = 2 ∨ k = 3 := by omega
    rw [hc _ _ (by omega)]
    rcases this with rfl | rfl | rfl | rfl
    · exact h0
    · exact h1
    · exact h2
    · exact h3
  have g0 := g 0 (by omega)
  have g1 := g 1 (by omega)
  have g2 := g 2 (by omega)
  have g3 := g 3 (by omega)
  clear g hj hv h0 h1 h2 h3
  refine ⟨?_, ?_, ?_, ?_, ?_, ?_, ?_, ?_, ?_⟩
  · exact Below.setCell (hbe.trans (hb.mono (by omega))) (by simp; omega) _
  · simp only [World.size_setCell]; omega
  · intro k
    rw [World.cell?_setCell_far _ _ _ _ (by simp; omega), hc _ _ (by omega)]
    exact hbox k
  · rw [e]; rcases hj4 with rfl | rfl | rfl | rfl <;> (try go_simp) <;> (try rfl)
  · rw [e]; rcases hj4 with rfl | rfl | rfl | rfl <;> (try go_simp) <;> (try rfl)
  · rw [e]; rcases hj4 with rfl | rfl | rfl | rfl <;> (try go_simp) <;> (try rfl)
  · rw [e]; rcases hj4 with rfl | rfl | rfl | rfl <;> (try go_simp) <;> (try rfl)
  · intro k hk
    rw [World.cell?_setCell_far _ _ _ _ (by simp), hc _ _ (by omega)]
    exact hr k hk
  · intro b k h1 h2
    have := hf b k (by omega)
    have h3 := hfz b k h1 h2
    go_simp
theorem m8 (n : Nat) : 8 * (n % 4) % 4294967296 = 8 * (n % 4) := by omega
theorem shufPart_16 (a y b : V) : shufPart a y b 16 = V.gen (Vb.shufWord a y b) := by
  simp only [shufPart, V.gen, Vb.shufWord, V.set, V.get, V.zero]
  simp
theorem lt16 {n : Nat} (h : n < 16) : n = 0 ∨ n = 1 ∨ n = 2 ∨ n = 3 ∨ n = 4 ∨ n = 5 ∨ n = 6 ∨ n = 7 ∨ n = 8 ∨ n = 9 ∨ n = 10 ∨ n = 11 ∨ n = 12 ∨ n = 13 ∨ n = 14 ∨ n = 15 := by
  revert n; decide
theorem q_lt (z : BitVec 32) : ((z &&& 15#32) / 4#32).toNat < 4 := by
  have : (z &&& 15#32).toNat ≤ 15 := by rw [BitVec.toNat_and]; exact Nat.and_le_right
  rw [BitVec.toNat_udiv]; show (z &&& 15#32).toNat / 4 < 4; omega
theorem q_ok (z : BitVec 32) : (0 ≤ U ((z &&& 15#32) / 4#32) ∧ U ((z &&& 15#32) / 4#32) < 4) = True := by
  have h1 := U_nonneg ((z &&& 15#32) / 4#32)
  have h2 := q_lt z
  have h3 : U ((z &&& 15#32) / 4#32) < 4 := by unfold U; omega
  simp [h1, h3]
theorem box_get (o : Vb.Binary) (z : BitVec 32) : [iv o.op, iv o.ty, iv o.off, uv o.x.a, uv o.x.b, uv o.x.c, uv o.x.d, uv o.a.a, uv o.a.b, uv o.a.c, uv o.a.d, uv o.y.a, uv o.y.b, uv o.y.c, uv o.y.d, uv o.b.a, uv o.b.b, uv o.b.c, uv o.b.d][7 + (U ((z &&& 15#32) / 4#32)).toNat]? = some (uv (o.a.get ((z &&& 15#32) / 4#32).toNat)) := by
  have h := q_lt z
  have e : (U ((z &&& 15#32) / 4#32)).toNat = ((z &&& 15#32) / 4#32).toNat := by unfold U; omega
  rw [e]
  generalize ((z &&& 15#32) / 4#32).toNat = k at h
  have : k = 0 ∨ k = 1 ∨ k = 2 ∨ k = 3 := by omega
  rcases this with rfl | rfl | rfl | rfl <;> rfl
theorem w0 : IntKind.i64.wrap 0 = 0 := rfl
theorem w1' : IntKind.i64.wrap 1 = 1 := rfl
theorem w2 : IntKind.i64.wrap 2 = 2 := rfl
theorem w3 : IntKind.i64.wrap 3 = 3 := rfl
attribute [local go_sem] U_eq_zero q_ok box_get w0 w1' w2 w3
theorem bi_shuf_c (o : Vb.Binary) (w : World) : Calls Tryz.prog 109 #[bnv o] w fun e w' => e = .returned (vv o.shuf) ∧ Below w.heap.size w w' := by
  go_enter Tryz.func109, Tryz.ntmps109
  go_wp2
  refine wp_loop_count 16 (ShufAt o w) ?_ ?_ ?_
  · refine ShufAt.mk rfl ⟨?_, ?_, ?_, ?_, ?_, ?_, ?_, ?_, ?_⟩
    · (repeat (first | exact Below.refl _ _ | refine Below.setCell ?_ (by first | omega | (simp <;> omega)) _ | refine Below.alloc ?_ (by first | omega | (simp <;> omega)) _ | refine Below.drew ?_ | refine Below.trans ?_ (Below.mono (by assumption) (by first | omega | (simp <;> omega)))))
    · simp
    · intro k; go_simp
    · go_simp; rfl
    · go_simp; rfl
    · go_simp; rfl
    · go_simp; rfl
    · intro k hk
      have : k = 0 ∨ k = 1 ∨ k = 2 ∨ k = 3 := by omega
      rcases this with rfl | rfl | rfl | rfl <;> go_simp
    · intro b k h1 h2
      have : b = w.heap.size ∨ b = w.heap.size + 1 ∨ b = w.heap.size + 1 + 1 := by omega
      rcases this with rfl | rfl | rfl <;> go_simp
  · intro n a w1 hn hF
    obtain ⟨t, rfl, hR⟩ := hF
    simp only [shufFrame]
    obtain ⟨m, hm⟩ : ∃ m : Int, m = n := ⟨_, rfl⟩
    rw [← hm]
    have hcs := lt16 hn
    clear hn
    have HREL := Lib.hid hR
    obtain ⟨hb, hz, hbox, h0, h1, h2, h3, hr, hfz⟩ := hR
    obtain ⟨z0, z1, z2⟩ := Flow.zs3 hz
    have HR := Lib.hid hr; have HFZ := Lib.hid hfz
    clear hr hfz
    have hf2 : ∀ k, w1.frozen? ⟨w.heap.size + 1 + 1, k, none⟩ = false := fun k => HFZ.out _ k (by omega) (by omega)
    rcases hcs with rfl | rfl | rfl | rfl | rfl | rfl | rfl | rfl | rfl | rfl | rfl | rfl | rfl | rfl | rfl | rfl
    · replace hm : m = 0 := hm
      subst hm
      go_wp2
      all_goals
        refine Flow.wp_region_below 9 (by kernel_rfl) (by kernel_rfl) (fun R hRc hRt => ?_)
        simp only [List.take_succ_cons, List.take_zero, List.drop_succ_cons, List.drop_zero]
        iterate 9
          first
            | refine Flow.flow_skip rfl ?_
            | (apply Flow.flow_step; rfl; (intro w1 hb; have hc := hRc.out w1 hb; go_simp; (first | with_reducible exact ⟨rfl, hb⟩)))
          simp only [Act.put, List.setIfInBounds_toArray, List.set_cons_zero, List.set_cons_succ]
        apply Flow.flow_nil
        clear hRc hRt
        intro w1 hb
        obtain ⟨hc, hf⟩ := Flow.bcell hb
        have hz := hb.size
        (try simp only [World.size_alloc, World.size_setCell, World.size_drew] at hz)
        obtain ⟨z0, z1, z2⟩ := Flow.zs3 (show w.heap.size + 3 ≤ w1.heap.size by omega)
        go_wp2
        exact ShufAt.mk rfl (ShufRel.step 0 rfl (by omega) HREL.out hb (by simp_all [Vb.shufByte, V.get, m8]))
    · replace hm : m = 1 := hm
      subst hm
      go_wp2
      all_goals
        refine Flow.wp_region_below 9 (by kernel_rfl) (by kernel_rfl) (fun R hRc hRt => ?_)
        simp only [List.take_succ_cons, List.take_zero, List.drop_succ_cons, List.drop_zero]
        iterate 9
          first
            | refine Flow.flow_skip rfl ?_
            | (apply Flow.flow_step; rfl; (intro w1 hb; have hc := hRc.out w1 hb; go_simp; (first | with_reducible exact ⟨rfl, hb⟩)))
          simp only [Act.put, List.setIfInBounds_toArray, List.set_cons_zero, List.set_cons_succ]
        apply Flow.flow_nil
        clear hRc hRt
        intro w1 hb
        obtain ⟨hc, hf⟩ := Flow.bcell hb
        have hz := hb.size
        (try simp only [World.size_alloc, World.size_setCell, World.size_drew] at hz)
        obtain ⟨z0, z1, z2⟩ := Flow.zs3 (show w.heap.size + 3 ≤ w1.heap.size by omega)
        go_wp2
        exact ShufAt.mk rfl (ShufRel.step 0 rfl (by omega) HREL.out hb (by simp_all [Vb.shufByte, V.get, m8]))
    · replace hm : m = 2 := hm
      subst hm
      go_wp2
      all_goals
        refine Flow.wp_region_below 9 (by kernel_rfl) (by kernel_rfl) (fun R hRc hRt => ?_)
        simp only [List.take_succ_cons, List.take_zero, List.drop_succ_cons, List.drop_zero]
        iterate 9
          first
            | refine Flow.flow_skip rfl ?_
            | (apply Flow.flow_step; rfl; (intro w1 hb; have hc := hRc.out w1 hb; go_simp; (first | with_reducible exact ⟨rfl, hb⟩)))
          simp only [Act.put, List.setIfInBounds_toArray, List.set_cons_zero, List.set_cons_succ]
        apply Flow.flow_nil
        clear hRc hRt
        intro w1 hb
        obtain ⟨hc, hf⟩ := Flow.bcell hb
        have hz := hb.size
        (try simp only [World.size_alloc, World.size_setCell, World.size_drew] at hz)
        obtain ⟨z0, z1, z2⟩ := Flow.zs3 (show w.heap.size + 3 ≤ w1.heap.size by omega)
        go_wp2
        exact ShufAt.mk rfl (ShufRel.step 0 rfl (by omega) HREL.out hb (by simp_all [Vb.shufByte, V.get, m8]))
    · replace hm : m = 3 := hm
      subst hm
      go_wp2
      all_goals
        refine Flow.wp_region_below 9 (by kernel_rfl) (by kernel_rfl) (fun R hRc hRt => ?_)
        simp only [List.take_succ_cons, List.take_zero, List.drop_succ_cons, List.drop_zero]
        iterate 9
          first
            | refine Flow.flow_skip rfl ?_
            | (apply Flow.flow_step; rfl; (intro w1 hb; have hc := hRc.out w1 hb; go_simp; (first | with_reducible exact ⟨rfl, hb⟩)))
          simp only [Act.put, List.setIfInBounds_toArray, List.set_cons_zero, List.set_cons_succ]
        apply Flow.flow_nil
        clear hRc hRt
        intro w1 hb
        obtain ⟨hc, hf⟩ := Flow.bcell hb
        have hz := hb.size
        (try simp only [World.size_alloc, World.size_setCell, World.size_drew] at hz)
        obtain ⟨z0, z1, z2⟩ := Flow.zs3 (show w.heap.size + 3 ≤ w1.heap.size by omega)
        go_wp2
        exact ShufAt.mk rfl (ShufRel.step 0 rfl (by omega) HREL.out hb (by simp_all [Vb.shufByte, V.get, m8]))
    · replace hm : m = 4 := hm
      subst hm
      go_wp2
      all_goals
        refine Flow.wp_region_below 9 (by kernel_rfl) (by kernel_rfl) (fun R hRc hRt => ?_)
        simp only [List.take_succ_cons, List.take_zero, List.drop_succ_cons, List.drop_zero]
        iterate 9
          first
            | refine Flow.flow_skip rfl ?_
            | (apply Flow.flow_step; rfl; (intro w1 hb; have hc := hRc.out w1 hb; go_simp; (first | with_reducible exact ⟨rfl, hb⟩)))
          simp only [Act.put, List.setIfInBounds_toArray, List.set_cons_zero, List.set_cons_succ]
        apply Flow.flow_nil
        clear hRc hRt
        intro w1 hb
        obtain ⟨hc, hf⟩ := Flow.bcell hb
        have hz := hb.size
        (try simp only [World.size_alloc, World.size_setCell, World.size_drew] at hz)
        obtain ⟨z0, z1, z2⟩ := Flow.zs3 (show w.heap.size + 3 ≤ w1.heap.size by omega)
        go_wp2
        exact ShufAt.mk rfl (ShufRel.step 1 rfl (by omega) HREL.out hb (by simp_all [Vb.shufByte, V.get, m8]))
    · replace hm : m = 5 := hm
      subst hm
      go_wp2
      all_goals
        refine Flow.wp_region_below 9 (by kernel_rfl) (by kernel_rfl) (fun R hRc hRt => ?_)
        simp only [List.take_succ_cons, List.take_zero, List.drop_succ_cons, List.drop_zero]
        iterate 9
          first
            | refine Flow.flow_skip rfl ?_
            | (apply Flow.flow_step; rfl; (intro w1 hb; have hc := hRc.out w1 hb; go_simp; (first | with_reducible exact ⟨rfl, hb⟩)))
          simp only [Act.put, List.setIfInBounds_toArray, List.set_cons_zero, List.set_cons_succ]
        apply Flow.flow_nil
        clear hRc hRt
        intro w1 hb
        obtain ⟨hc, hf⟩ := Flow.bcell hb
        have hz := hb.size
        (try simp only [World.size_alloc, World.size_setCell, World.size_drew] at hz)
        obtain ⟨z0, z1, z2⟩ := Flow.zs3 (show w.heap.size + 3 ≤ w1.heap.size by omega)
        go_wp2
        exact ShufAt.mk rfl (ShufRel.step 1 rfl (by omega) HREL.out hb (by simp_all [Vb.shufByte, V.get, m8]))
    · replace hm : m = 6 := hm
      subst hm
      go_wp2
      all_goals
        refine Flow.wp_region_below 9 (by kernel_rfl) (by kernel_rfl) (fun R hRc hRt => ?_)
        simp only [List.take_succ_cons, List.take_zero, List.drop_succ_cons, List.drop_zero]
        iterate 9
          first
            | refine Flow.flow_skip rfl ?_
            | (apply Flow.flow_step; rfl; (intro w1 hb; have hc := hRc.out w1 hb; go_simp; (first | with_reducible exact ⟨rfl, hb⟩)))
          simp only [Act.put, List.setIfInBounds_toArray, List.set_cons_zero, List.set_cons_succ]
        apply Flow.flow_nil
        clear hRc hRt
        intro w1 hb
        obtain ⟨hc, hf⟩ := Flow.bcell hb
        have hz := hb.size
        (try simp only [World.size_alloc, World.size_setCell, World.size_drew] at hz)
        obtain ⟨z0, z1, z2⟩ := Flow.zs3 (show w.heap.size + 3 ≤ w1.heap.size by omega)
        go_wp2
        exact ShufAt.mk rfl (ShufRel.step 1 rfl (by omega) HREL.out hb (by simp_all [Vb.shufByte, V.get, m8]))
    · replace hm : m = 7 := hm
      subst hm
      go_wp2
      all_goals
        refine Flow.wp_region_below 9 (by kernel_rfl) (by kernel_rfl) (fun R hRc hRt => ?_)
        simp only [List.take_succ_cons, List.take_zero, List.drop_succ_cons, List.drop_zero]
        iterate 9
          first
            | refine Flow.flow_skip rfl ?_
            | (apply Flow.flow_step; rfl; (intro w1 hb; have hc := hRc.out w1 hb; go_simp; (first | with_reducible exact ⟨rfl, hb⟩)))
          simp only [Act.put, List.setIfInBounds_toArray, List.set_cons_zero, List.set_cons_succ]
        apply Flow.flow_nil
        clear hRc hRt
        intro w1 hb
        obtain ⟨hc, hf⟩ := Flow.bcell hb
        have hz := hb.size
        (try simp only [World.size_alloc, World.size_setCell, World.size_drew] at hz)
        obtain ⟨z0, z1, z2⟩ := Flow.zs3 (show w.heap.size + 3 ≤ w1.heap.size by omega)
        go_wp2
        exact ShufAt.mk rfl (ShufRel.step 1 rfl (by omega) HREL.out hb (by simp_all [Vb.shufByte, V.get, m8]))
    · replace hm : m = 8 := hm
      subst hm
      go_wp2
      all_goals
        refine Flow.wp_region_below 9 (by kernel_rfl) (by kernel_rfl) (fun R hRc hRt => ?_)
        simp only [List.take_succ_cons, List.take_zero, List.drop_succ_cons, List.drop_zero]
        iterate 9
          first
            | refine Flow.flow_skip rfl ?_
            | (apply Flow.flow_step; rfl; (intro w1 hb; have hc := hRc.out w1 hb; go_simp; (first | with_reducible exact ⟨rfl, hb⟩)))
          simp only [Act.put, List.setIfInBounds_toArray, List.set_cons_zero, List.set_cons_succ]
        apply Flow.flow_nil
        clear hRc hRt
        intro w1 hb
        obtain ⟨hc, hf⟩ := Flow.bcell hb
        have hz := hb.size
        (try simp only [World.size_alloc, World.size_setCell, World.size_drew] at hz)
        obtain ⟨z0, z1, z2⟩ := Flow.zs3 (show w.heap.size + 3 ≤ w1.heap.size by omega)
        go_wp2
        exact ShufAt.mk rfl (ShufRel.step 2 rfl (by omega) HREL.out hb (by simp_all [Vb.shufByte, V.get, m8]))
    · replace hm : m = 9 := hm
      subst hm
      go_wp2
      all_goals
        refine Flow.wp_region_below 9 (by kernel_rfl) (by kernel_rfl) (fun R hRc hRt => ?_)
        simp only [List.take_succ_cons, List.take_zero, List.drop_succ_cons, List.drop_zero]
        iterate 9
          first
            | refine Flow.flow_skip rfl ?_
            | (apply Flow.flow_step; rfl; (intro w1 hb; have hc := hRc.out w1 hb; go_simp; (first | with_reducible exact ⟨rfl, hb⟩)))
          simp only [Act.put, List.setIfInBounds_toArray, List.set_cons_zero, List.set_cons_succ]
        apply Flow.flow_nil
        clear hRc hRt
        intro w1 hb
        obtain ⟨hc, hf⟩ := Flow.bcell hb
        have hz := hb.size
        (try simp only [World.size_alloc, World.size_setCell, World.size_drew] at hz)
        obtain ⟨z0, z1, z2⟩ := Flow.zs3 (show w.heap.size + 3 ≤ w1.heap.size by omega)
        go_wp2
        exact ShufAt.mk rfl (ShufRel.step 2 rfl (by omega) HREL.out hb (by simp_all [Vb.shufByte, V.get, m8]))
    · replace hm : m = 10 := hm
      subst hm
      go_wp2
      all_goals
        refine Flow.wp_region_below 9 (by kernel_rfl) (by kernel_rfl) (fun R hRc hRt => ?_)
        simp only [List.take_succ_cons, List.take_zero, List.drop_succ_cons, List.drop_zero]
        iterate 9
          first
            | refine Flow.flow_skip rfl ?_
            | (apply Flow.flow_step; rfl; (intro w1 hb; have hc := hRc.out w1 hb; go_simp; (first | with_reducible exact ⟨rfl, hb⟩)))
          simp only [Act.put, List.setIfInBounds_toArray, List.set_cons_zero, List.set_cons_succ]
        apply Flow.flow_nil
        clear hRc hRt
        intro w1 hb
        obtain ⟨hc, hf⟩ := Flow.bcell hb
        have hz := hb.size
        (try simp only [World.size_alloc, World.size_setCell, World.size_drew] at hz)
        obtain ⟨z0, z1, z2⟩ := Flow.zs3 (show w.heap.size + 3 ≤ w1.heap.size by omega)
        go_wp2
        exact ShufAt.mk rfl (ShufRel.step 2 rfl (by omega) HREL.out hb (by simp_all [Vb.shufByte, V.get, m8]))
    · replace hm : m = 11 := hm
      subst hm
      go_wp2
      all_goals
        refine Flow.wp_region_below 9 (by kernel_rfl) (by kernel_rfl) (fun R hRc hRt => ?_)
        simp only [List.take_succ_cons, List.take_zero, List.drop_succ_cons, List.drop_zero]
        iterate 9
          first
            | refine Flow.flow_skip rfl ?_
            | (apply Flow.flow_step; rfl; (intro w1 hb; have hc := hRc.out w1 hb; go_simp; (first | with_reducible exact ⟨rfl, hb⟩)))
          simp only [Act.put, List.setIfInBounds_toArray, List.set_cons_zero, List.set_cons_succ]
        apply Flow.flow_nil
        clear hRc hRt
        intro w1 hb
        obtain ⟨hc, hf⟩ := Flow.bcell hb
        have hz := hb.size
        (try simp only [World.size_alloc, World.size_setCell, World.size_drew] at hz)
        obtain ⟨z0, z1, z2⟩ := Flow.zs3 (show w.heap.size + 3 ≤ w1.heap.size by omega)
        go_wp2
        exact ShufAt.mk rfl (ShufRel.step 2 rfl (by omega) HREL.out hb (by simp_all [Vb.shufByte, V.get, m8]))
    · replace hm : m = 12 := hm
      subst hm
      go_wp2
      all_goals
        refine Flow.wp_region_below 9 (by kernel_rfl) (by kernel_rfl) (fun R hRc hRt => ?_)
        simp only [List.take_succ_cons, List.take_zero, List.drop_succ_cons, List.drop_zero]
        iterate 9
          first
            | refine Flow.flow_skip rfl ?_
            | (apply Flow.flow_step; rfl; (intro w1 hb; have hc := hRc.out w1 hb; go_simp; (first | with_reducible exact ⟨rfl, hb⟩)))
          simp only [Act.put, List.setIfInBounds_toArray, List.set_cons_zero, List.set_cons_succ]
        apply Flow.flow_nil
        clear hRc hRt
        intro w1 hb
        obtain ⟨hc, hf⟩ := Flow.bcell hb
        have hz := hb.size
        (try simp only [World.size_alloc, World.size_setCell, World.size_drew] at hz)
        obtain ⟨z0, z1, z2⟩ := Flow.zs3 (show w.heap.size + 3 ≤ w1.heap.size by omega)
        go_wp2
        exact ShufAt.mk rfl (ShufRel.step 3 rfl (by omega) HREL.out hb (by simp_all [Vb.shufByte, V.get, m8]))
    · replace hm : m = 13 := hm
      subst hm
      go_wp2
      all_goals
        refine Flow.wp_region_below 9 (by kernel_rfl) (by kernel_rfl) (fun R hRc hRt => ?_)
        simp only [List.take_succ_cons, List.take_zero, List.drop_succ_cons, List.drop_zero]
        iterate 9
          first
            | refine Flow.flow_skip rfl ?_
            | (apply Flow.flow_step; rfl; (intro w1 hb; have hc := hRc.out w1 hb; go_simp; (first | with_reducible exact ⟨rfl, hb⟩)))
          simp only [Act.put, List.setIfInBounds_toArray, List.set_cons_zero, List.set_cons_succ]
        apply Flow.flow_nil
        clear hRc hRt
        intro w1 hb
        obtain ⟨hc, hf⟩ := Flow.bcell hb
        have hz := hb.size
        (try simp only [World.size_alloc, World.size_setCell, World.size_drew] at hz)
        obtain ⟨z0, z1, z2⟩ := Flow.zs3 (show w.heap.size + 3 ≤ w1.heap.size by omega)
        go_wp2
        exact ShufAt.mk rfl (ShufRel.step 3 rfl (by omega) HREL.out hb (by simp_all [Vb.shufByte, V.get, m8]))
    · replace hm : m = 14 := hm
      subst hm
      go_wp2
      all_goals
        refine Flow.wp_region_below 9 (by kernel_rfl) (by kernel_rfl) (fun R hRc hRt => ?_)
        simp only [List.take_succ_cons, List.take_zero, List.drop_succ_cons, List.drop_zero]
        iterate 9
          first
            | refine Flow.flow_skip rfl ?_
            | (apply Flow.flow_step; rfl; (intro w1 hb; have hc := hRc.out w1 hb; go_simp; (first | with_reducible exact ⟨rfl, hb⟩)))
          simp only [Act.put, List.setIfInBounds_toArray, List.set_cons_zero, List.set_cons_succ]
        apply Flow.flow_nil
        clear hRc hRt
        intro w1 hb
        obtain ⟨hc, hf⟩ := Flow.bcell hb
        have hz := hb.size
        (try simp only [World.size_alloc, World.size_setCell, World.size_drew] at hz)
        obtain ⟨z0, z1, z2⟩ := Flow.zs3 (show w.heap.size + 3 ≤ w1.heap.size by omega)
        go_wp2
        exact ShufAt.mk rfl (ShufRel.step 3 rfl (by omega) HREL.out hb (by simp_all [Vb.shufByte, V.get, m8]))
    · replace hm : m = 15 := hm
      subst hm
      go_wp2
      all_goals
        refine Flow.wp_region_below 9 (by kernel_rfl) (by kernel_rfl) (fun R hRc hRt => ?_)
        simp only [List.take_succ_cons, List.take_zero, List.drop_succ_cons, List.drop_zero]
        iterate 9
          first
            | refine Flow.flow_skip rfl ?_
            | (apply Flow.flow_step; rfl; (intro w1 hb; have hc := hRc.out w1 hb; go_simp; (first | with_reducible exact ⟨rfl, hb⟩)))
          simp only [Act.put, List.setIfInBounds_toArray, List.set_cons_zero, List.set_cons_succ]
        apply Flow.flow_nil
        clear hRc hRt
        intro w1 hb
        obtain ⟨hc, hf⟩ := Flow.bcell hb
        have hz := hb.size
        (try simp only [World.size_alloc, World.size_setCell, World.size_drew] at hz)
        obtain ⟨z0, z1, z2⟩ := Flow.zs3 (show w.heap.size + 3 ≤ w1.heap.size by omega)
        go_wp2
        exact ShufAt.mk rfl (ShufRel.step 3 rfl (by omega) HREL.out hb (by simp_all [Vb.shufByte, V.get, m8]))
  · intro a w1 hF
    obtain ⟨t, rfl, hR⟩ := hF
    obtain ⟨hb, hz, hbox, h0, h1, h2, h3, hr, hfz⟩ := hR
    obtain ⟨z0, z1, z2⟩ := Flow.zs3 hz
    have hf1 : ∀ k, w1.frozen? ⟨w.heap.size + 1, k, none⟩ = false := fun k => hfz _ k (by omega) (by omega)
    have r0 := hr 0 (by omega)
    have r1 := hr 1 (by omega)
    have r2 := hr 2 (by omega)
    have r3 := hr 3 (by omega)
    clear hr hfz hbox
    simp only [shufFrame]
    go_wp2
    refine Flow.bodyPost_k rfl (fun K hK => ?_)
    simp only [results, Tryz.results109]
    go_simp
    refine hK _ ⟨?_, ?_⟩
    · exact ret_vv (x := shufPart o.a o.y o.b 16) (shufPart_16 _ _ _)
    · (repeat (first | exact Below.refl _ _ | refine Below.setCell ?_ (by first | omega | (simp <;> omega)) _ | refine Below.alloc ?_ (by first | omega | (simp <;> omega)) _ | refine Below.drew ?_ | refine Below.trans ?_ (Below.mono (by assumption) (by first | omega | (simp <;> omega)))))
end Go.Proofs.YtboknfppecgjmaaGreat
