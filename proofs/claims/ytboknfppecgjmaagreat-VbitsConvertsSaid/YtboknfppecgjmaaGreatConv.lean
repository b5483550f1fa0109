/- VbitsConverts: the walk. -/
import Derived.Test.YtboknfppecgjmaaGreatR12Un
import Derived.Test.YtboknfppecgjmaaGreatR12Bin
import Derived.Test.YtboknfppecgjmaaGreatFlowZ
import Derived.Test.YtboknfppecgjmaaGreatFlowS
import Derived.Test.YtboknfppecgjmaaGreatBin
import Derived.Test.YtboknfppecgjmaaGreatCommutes
import Derived.Test.YtboknfppecgjmaaGreatLaw
namespace Go.Proofs.YtboknfppecgjmaaGreat
set_option linter.unusedVariables false
set_option linter.unusedSimpArgs false
open Go.RowKit Go.Shelf
/-- Four variables that hold vectors, and a slice of two numbers. -/
structure CO (n g : Nat) (x a y b : V) (W : World) : Prop where
  X : W.heap[n]? = some (vcell x)
  A : W.heap[n + 1]? = some (vcell a)
  Y : W.heap[n + 1 + 1]? = some (vcell y)
  B : W.heap[n + 1 + 1 + 1]? = some (vcell b)
  G : W.heap[g]? = some (.cells #[.int .i64 8, .int .i64 16] 3)
theorem CO.lt {n g : Nat} {x a y b : V} {W : World} (K : CO n g x a y b W) : n + 1 + 1 + 1 < W.heap.size ∧ g < W.heap.size := ⟨(Array.getElem?_eq_some_iff.1 K.B).1, (Array.getElem?_eq_some_iff.1 K.G).1⟩
theorem CO.step {n g : Nat} {x a y b : V} {W W' : World} (K : CO n g x a y b W) (hb : Below W.heap.size W W') : CO n g x a y b W' := by
  have h1 := K.lt
  exact ⟨(hb.block _ (by omega)).trans K.X, (hb.block _ (by omega)).trans K.A, (hb.block _ (by omega)).trans K.Y, (hb.block _ h1.1).trans K.B, (hb.block _ h1.2).trans K.G⟩
theorem CO.store {n g c : Nat} {x a y b : V} {W W' : World} (K : CO n g x a y b W) (hS : Stored c W W') (h1 : n + 1 + 1 + 1 < c) (h2 : g < c) : CO n g x a y b W' :=
  ⟨(hS.other _ (by omega)).trans K.X, (hS.other _ (by omega)).trans K.A, (hS.other _ (by omega)).trans K.Y, (hS.other _ (by omega)).trans K.B, (hS.other _ (by omega)).trans K.G⟩
/-- The inner loop's memory. -/
structure CI (bA bB t : Nat) (s p : V) (W : World) : Prop where
  S : W.heap[bA]? = some (vcell s)
  P : W.heap[bB]? = some (vcell p)
  T : W.heap[t]? = some (.cells #[.int .i64 2, .int .i64 3] 3)
theorem CI.step {bA bB t : Nat} {s p : V} {W W' : World} (K : CI bA bB t s p W) (hb : Below W.heap.size W W') : CI bA bB t s p W' :=
  ⟨(hb.block _ (Array.getElem?_eq_some_iff.1 K.S).1).trans K.S, (hb.block _ (Array.getElem?_eq_some_iff.1 K.P).1).trans K.P, (hb.block _ (Array.getElem?_eq_some_iff.1 K.T).1).trans K.T⟩
/-- What one round of the inner loop calls. -/
structure ConvH (x a : V) (t o : Int) (W Lg : V) : Prop where
  u1 : ∀ w, Calls Tryz.prog 18 #[iv o, iv t, iv 32, iv 0, vv (x.and (Vb.ones t)), vv (a.and (Vb.ones t))] w fun e w' => e = .returned (.tuple #[vv W, iv 0]) ∧ Below w.heap.size w w'
  u2 : ∀ w, Calls Tryz.prog 19 #[iv o, iv t, iv 32, iv 0, vv (x.and (Vb.ones t))] w fun e w' => e = .returned (.tuple #[vv Lg, .bool true]) ∧ Below w.heap.size w w'
  u3 : ∀ w, Calls Tryz.prog 18 #[iv 4, iv 32, iv t, iv 0, vv Lg, vv W] w fun e w' => e = .returned (.tuple #[vv (a.and (Vb.ones t)), iv 0]) ∧ Below w.heap.size w w'
theorem heap_alloc4' (w : World) (a b c d : Obj) : ((((w.alloc a).alloc b).alloc c).alloc d).heap[w.heap.size]? = some a ∧ ((((w.alloc a).alloc b).alloc c).alloc d).heap[w.heap.size + 1]? = some b ∧
    ((((w.alloc a).alloc b).alloc c).alloc d).heap[w.heap.size + 1 + 1]? = some c ∧ ((((w.alloc a).alloc b).alloc c).alloc d).heap[w.heap.size + 1 + 1 + 1]? = some d := heap_alloc4 w a b c d
set_option maxRecDepth 100000 in
set_option maxHeartbeats 16000000 in
theorem conv_w0 (HS : Hid SaneC) (x a y b : V) (k : Int) (W82 L82 W83 L83 W162 L162 W163 L163 : V) (H82 : Hid (ConvH x a 8 2 W82 L82)) (H83 : Hid (ConvH x a 8 3 W83 L83)) (H162 : Hid (ConvH x a 16 2 W162 L162)) (H163 : Hid (ConvH x a 16 3 W163 L163)) (hj : Hid (wrap64 ((IntKind.u64.wrap k).tmod 4) = 0)) (sp pt wt : V)
    (G1 : Hid (∀ w, Calls Tryz.prog 18 #[iv 11, iv 32, iv 128, iv 0, vv (V.word x.a), vv (V.word a.a)] w fun e w' => e = .returned (.tuple #[vv sp, iv 0]) ∧ Below w.heap.size w w'))
    (G2 : Hid (∀ w, Calls Tryz.prog 18 #[iv 12, iv 128, iv 32, iv 0, vv ⟨x.a, x.a, x.a, x.a⟩, vv sp] w fun e w' => e = .returned (.tuple #[vv (V.word a.a), iv 0]) ∧ Below w.heap.size w w'))
    (G3 : Hid (∀ w, Calls Tryz.prog 21 #[iv 30, iv 128, iv 0, vv x, vv a, vv (V.word y.a), vv (V.word b.a)] w fun e w' => e = .returned (.tuple #[vv pt, iv 0]) ∧ Below w.heap.size w w'))
    (G4 : Hid (∀ w, Calls Tryz.prog 22 #[iv 30, iv 128, iv 0, vv x, vv (V.word y.a)] w fun e w' => e = .returned (.tuple #[vv wt, .bool true]) ∧ Below w.heap.size w w'))
    (G5 : Hid (∀ w, Calls Tryz.prog 18 #[iv 12, iv 128, iv 32, iv 0, vv wt, vv pt] w fun e w' => e = .returned (.tuple #[vv (V.word b.a), iv 0]) ∧ Below w.heap.size w w'))
    (G6 : Hid (∀ w, Calls Tryz.prog 21 #[iv 30, iv 128, iv 0, vv x, vv a, vv (V.word x.a), vv (V.word a.a)] w fun e w' => e = .returned (.tuple #[vv a, iv 0]) ∧ Below w.heap.size w w'))
    (w : World) :
    Calls Tryz.prog 4 #[vv x, vv a, vv y, vv b, iv k] w fun e w' => e = .returned (.bool true) ∧ Below w.heap.size w w' := by
  obtain ⟨X0, A0, Y0, D0⟩ := heap_alloc4 w (vcell x) (vcell a) (vcell y) (vcell b)
  go_enter Tryz.func4, Tryz.ntmps4
  go_wp2_with fail
  (refine (HS.out _ ).mono ?_; rintro e u1 ⟨rfl, hb⟩; obtain ⟨hc, hf⟩ := Flow.bcell hb; have hz := hb.size; (try simp only [World.size_alloc, World.size_setCell, World.size_drew] at hz))
  have hz1 : w.heap.size + 4 ≤ u1.heap.size := by have := hb.size; simp only [World.size_alloc] at this; omega
  have X1 := (hb.block w.heap.size (by simp <;> omega)).trans X0
  have A1 := (hb.block (w.heap.size + 1) (by simp <;> omega)).trans A0
  have Y1 := (hb.block (w.heap.size + 1 + 1) (by simp <;> omega)).trans Y0
  have D1 := (hb.block (w.heap.size + 1 + 1 + 1) (by simp)).trans D0
  have B1 : Below w.heap.size w u1 := by (repeat (first | exact Below.refl _ _ | refine Below.setCell ?_ (by first | omega | (simp <;> omega)) _ | refine Below.alloc ?_ (by first | omega | (simp <;> omega)) _ | refine Below.drew ?_ | refine Below.trans ?_ (Below.mono (by assumption) (by first | omega | (simp <;> omega)))))
  clear X0 A0 Y0 D0 hb hc hf
  go_wp2_with fail
  generalize hu : World.alloc _ _ = v0
  have K0 : CO w.heap.size u1.heap.size x a y b v0 := by
    rw [← hu]
    exact ⟨(Below.heap_alloc u1 _ _ (by omega)).trans X1, (Below.heap_alloc u1 _ _ (by omega)).trans A1, (Below.heap_alloc u1 _ _ (by omega)).trans Y1, (Below.heap_alloc u1 _ _ (by omega)).trans D1, heap_alloc_new u1 _⟩
  have B0 : Below w.heap.size w v0 := by rw [← hu]; exact B1.alloc (by omega) _
  clear hu X1 A1 Y1 D1 B1 hz
  generalize u1.heap.size = g at *
  refine wp_loop_rounds 3 ?_
  rw [rounds_succ]
  obtain ⟨xc, xf, xl⟩ := block_cells K0.X
  obtain ⟨ac, af, al⟩ := block_cells K0.A
  obtain ⟨gc, gf, gl⟩ := block_cells K0.G
  go_wp2_with fail
  refine FlowZ.wp_region_vars 10 8 9 13 14 (vcell V.zero) (vcell V.zero) (by kernel_rfl) (by kernel_rfl) (by kernel_rfl) (fun X hXc hXt hsp hA hB => ?_)
  simp only [List.take_succ_cons, List.take_zero, List.drop_succ_cons, List.drop_zero]
  iterate 10
    first
      | (refine FlowZ.flow_sp hsp rfl (hA.out _ _ rfl (fun w1 => ?_)) ?_; go_simp)
      | (refine FlowZ.flow_sp hsp rfl (hB.out _ _ rfl (fun w1 => ?_)) ?_; go_simp)
      | (apply FlowZ.flow_step hsp; rfl; rfl; (intro s1 w1 hb; have hc := hXc.out s1 w1 hb; go_simp; (first | with_reducible exact ⟨rfl, hb⟩ | with_reducible exact rfl | (go_at_call 17; refine (rones_c _ _).mono ?_; rintro e w2 ⟨rfl, hb2⟩; exact ⟨_, rfl, rfl, hXt.out _ _ _ hb hb2⟩) | (go_at_call 15; refine (rand_c _ _ _).mono ?_; rintro e w2 ⟨rfl, hb2⟩; exact ⟨_, rfl, rfl, hXt.out _ _ _ hb hb2⟩))))
    (try simp only [Act.put, List.setIfInBounds_toArray, List.set_cons_zero, List.set_cons_succ])
  apply FlowZ.flow_nil
  clear hXc hXt hsp hA hB xc xf xl ac af al gc gf gl
  intro bA bB v1 hb hbA hbB hne hoA hoB
  simp only [Act.put, List.setIfInBounds_toArray, List.set_cons_zero, List.set_cons_succ]
  have L0 := K0.lt
  have J1 := K0.step hb
  have C1 : Below w.heap.size w v1 := B0.trans (hb.mono (by omega))
  have kA1 : w.heap.size + 1 + 1 + 1 < bA := by omega
  have kA2 : g < bA := by omega
  have kB1 : w.heap.size + 1 + 1 + 1 < bB := by omega
  have kB2 : g < bB := by omega
  clear hb
  obtain ⟨v2, e2, O2, S2⟩ := store4 hoA 0 1 2 3 (uv (a.and (Vb.ones 8)).a) (uv (a.and (Vb.ones 8)).b) (uv (a.and (Vb.ones 8)).c) (uv (a.and (Vb.ones 8)).d)
  have J2 := J1.store S2 kA1 kA2
  have P2 := (S2.other bB (fun h => hne h.symm)).trans hoB
  have C2 : Below w.heap.size w v2 := C1.trans (S2.below _ (by omega))
  replace O2 : v2.heap[bA]? = some (vcell (a.and (Vb.ones 8))) := O2
  obtain ⟨v3, e3, O3, S3⟩ := store4 P2 0 1 2 3 (uv (x.and (Vb.ones 8)).a) (uv (x.and (Vb.ones 8)).b) (uv (x.and (Vb.ones 8)).c) (uv (x.and (Vb.ones 8)).d)
  have J3 := J2.store S3 kB1 kB2
  have O4 := (S3.other bA hne).trans O2
  have C3 : Below w.heap.size w v3 := C2.trans (S3.below _ (by omega))
  replace O3 : v3.heap[bB]? = some (vcell (x.and (Vb.ones 8))) := O3
  obtain ⟨sc, sf, sl⟩ := block_cells hoA
  obtain ⟨pc, pf, pl⟩ := block_cells P2
  have lA : bA < v3.heap.size := (Array.getElem?_eq_some_iff.1 O4).1
  have lB : bB < v3.heap.size := (Array.getElem?_eq_some_iff.1 O3).1
  have L3 := J3.lt
  clear S2 S3
  go_wp2_with fail
  generalize hu : World.alloc _ _ = v4
  have Q4 : CO w.heap.size g x a y b v4 := by rw [← hu]; exact J3.step (((Below.refl _ _).alloc (Nat.le_refl _) _))
  have U4 : CI bA bB v3.heap.size (a.and (Vb.ones 8)) (x.and (Vb.ones 8)) v4 := by
    rw [← hu]
    exact ⟨(Below.heap_alloc v3 _ _ lA).trans O4, (Below.heap_alloc v3 _ _ lB).trans O3, heap_alloc_new v3 _⟩
  have D4 : Below w.heap.size w v4 := by rw [← hu]; exact C3.alloc (by omega) _
  have kt : v3.heap.size < v4.heap.size := by rw [← hu]; simp
  clear hu e2 e3 sc sf sl pc pf pl J1 J2 J3 C1 C2 C3 O2 O3 O4 P2 hoA hoB
  generalize v3.heap.size = tt at *
  refine wp_loop_rounds 3 ?_
  rw [rounds_succ]
  obtain ⟨tc, tf, tl⟩ := block_cells U4.T
  obtain ⟨sc, sf, sl⟩ := block_cells U4.S
  obtain ⟨pc, pf, pl⟩ := block_cells U4.P
  go_wp2_with fail
  clear tc tf tl
  refine (H82.out.u1 _).mono ?_
  rintro e v5 ⟨rfl, hb⟩
  have Q5 := Q4.step hb
  have U5 := U4.step hb
  have D5 : Below w.heap.size w v5 := D4.trans (hb.mono (by have := Q4.lt; omega))
  have M5 := Q5.lt
  clear hb
  clear sc sf sl pc pf pl
  obtain ⟨sc, sf, sl⟩ := block_cells U5.S
  obtain ⟨pc, pf, pl⟩ := block_cells U5.P
  go_wp2_with fail
  refine (H82.out.u2 _).mono ?_
  rintro e v6 ⟨rfl, hb⟩
  have hN := heap_alloc_new v5 (vcell W82)
  have N1 := (hb.block v5.heap.size (by simp)).trans hN
  have Q6 := (Q5.step ((Below.refl _ _).alloc (Nat.le_refl _) (vcell W82))).step hb
  have U6 := (U5.step ((Below.refl _ _).alloc (Nat.le_refl _) (vcell W82))).step hb
  have D6 : Below w.heap.size w v6 := (D5.alloc (by omega) _).trans (hb.mono (by simp; omega))
  have M6 := Q6.lt
  have n1 : v5.heap.size < v6.heap.size := (Array.getElem?_eq_some_iff.1 N1).1
  clear hb hN
  clear sc sf sl pc pf pl
  obtain ⟨sc, sf, sl⟩ := block_cells U6.S
  obtain ⟨pc, pf, pl⟩ := block_cells U6.P
  obtain ⟨nc, nf, nl⟩ := block_cells N1
  go_wp2_with fail
  refine (H82.out.u3 _).mono ?_
  rintro e v7 ⟨rfl, hb⟩
  have Q7 := (Q6.step ((Below.refl _ _).alloc (Nat.le_refl _) (vcell L82))).step hb
  have U7 := (U6.step ((Below.refl _ _).alloc (Nat.le_refl _) (vcell L82))).step hb
  have D7 : Below w.heap.size w v7 := (D6.alloc (by omega) _).trans (hb.mono (by simp; omega))
  have M7 := Q7.lt
  clear hb nc nf nl N1 n1
  clear sc sf sl pc pf pl
  obtain ⟨sc, sf, sl⟩ := block_cells U7.S
  obtain ⟨pc, pf, pl⟩ := block_cells U7.P
  go_wp2_with fail
  generalize hu : World.alloc _ _ = v8
  have Q8 : CO w.heap.size g x a y b v8 := by rw [← hu]; exact Q7.step ((Below.refl _ _).alloc (Nat.le_refl _) _)
  have U8 : CI bA bB tt (a.and (Vb.ones 8)) (x.and (Vb.ones 8)) v8 := by rw [← hu]; exact U7.step ((Below.refl _ _).alloc (Nat.le_refl _) _)
  have D8 : Below w.heap.size w v8 := by rw [← hu]; exact D7.alloc (by omega) _
  clear hu Q4 Q5 Q6 Q7 U4 U5 U6 U7 D4 D5 D6 D7 M5 M6 M7
  clear sc sf sl pc pf pl
  rw [rounds_succ]
  obtain ⟨tc, tf, tl⟩ := block_cells U8.T
  obtain ⟨sc, sf, sl⟩ := block_cells U8.S
  obtain ⟨pc, pf, pl⟩ := block_cells U8.P
  go_wp2_with fail
  clear tc tf tl
  refine (H83.out.u1 _).mono ?_
  rintro e v9 ⟨rfl, hb⟩
  have Q9 := Q8.step hb
  have U9 := U8.step hb
  have D9 : Below w.heap.size w v9 := D8.trans (hb.mono (by have := Q8.lt; omega))
  have M9 := Q9.lt
  clear hb
  clear sc sf sl pc pf pl
  obtain ⟨sc, sf, sl⟩ := block_cells U9.S
  obtain ⟨pc, pf, pl⟩ := block_cells U9.P
  go_wp2_with fail
  refine (H83.out.u2 _).mono ?_
  rintro e v10 ⟨rfl, hb⟩
  have hN := heap_alloc_new v9 (vcell W83)
  have N1 := (hb.block v9.heap.size (by simp)).trans hN
  have Q10 := (Q9.step ((Below.refl _ _).alloc (Nat.le_refl _) (vcell W83))).step hb
  have U10 := (U9.step ((Below.refl _ _).alloc (Nat.le_refl _) (vcell W83))).step hb
  have D10 : Below w.heap.size w v10 := (D9.alloc (by omega) _).trans (hb.mono (by simp; omega))
  have M10 := Q10.lt
  have n1 : v9.heap.size < v10.heap.size := (Array.getElem?_eq_some_iff.1 N1).1
  clear hb hN
  clear sc sf sl pc pf pl
  obtain ⟨sc, sf, sl⟩ := block_cells U10.S
  obtain ⟨pc, pf, pl⟩ := block_cells U10.P
  obtain ⟨nc, nf, nl⟩ := block_cells N1
  go_wp2_with fail
  refine (H83.out.u3 _).mono ?_
  rintro e v11 ⟨rfl, hb⟩
  have Q11 := (Q10.step ((Below.refl _ _).alloc (Nat.le_refl _) (vcell L83))).step hb
  have U11 := (U10.step ((Below.refl _ _).alloc (Nat.le_refl _) (vcell L83))).step hb
  have D11 : Below w.heap.size w v11 := (D10.alloc (by omega) _).trans (hb.mono (by simp; omega))
  have M11 := Q11.lt
  clear hb nc nf nl N1 n1
  clear sc sf sl pc pf pl
  obtain ⟨sc, sf, sl⟩ := block_cells U11.S
  obtain ⟨pc, pf, pl⟩ := block_cells U11.P
  go_wp2_with fail
  generalize hu : World.alloc _ _ = v12
  have Q12 : CO w.heap.size g x a y b v12 := by rw [← hu]; exact Q11.step ((Below.refl _ _).alloc (Nat.le_refl _) _)
  have U12 : CI bA bB tt (a.and (Vb.ones 8)) (x.and (Vb.ones 8)) v12 := by rw [← hu]; exact U11.step ((Below.refl _ _).alloc (Nat.le_refl _) _)
  have D12 : Below w.heap.size w v12 := by rw [← hu]; exact D11.alloc (by omega) _
  clear hu Q8 Q9 Q10 Q11 U8 U9 U10 U11 D8 D9 D10 D11 M9 M10 M11
  clear sc sf sl pc pf pl
  rw [rounds_succ]
  go_wp2_with fail
  have K12 := Q12
  have B12 := D12
  clear Q12 U12 D12 K0 B0
  rw [rounds_succ]
  obtain ⟨xc, xf, xl⟩ := block_cells K12.X
  obtain ⟨ac, af, al⟩ := block_cells K12.A
  obtain ⟨gc, gf, gl⟩ := block_cells K12.G
  go_wp2_with fail
  refine FlowZ.wp_region_vars 10 8 9 13 14 (vcell V.zero) (vcell V.zero) (by kernel_rfl) (by kernel_rfl) (by kernel_rfl) (fun X hXc hXt hsp hA hB => ?_)
  simp only [List.take_succ_cons, List.take_zero, List.drop_succ_cons, List.drop_zero]
  iterate 10
    first
      | (refine FlowZ.flow_sp hsp rfl (hA.out _ _ rfl (fun w1 => ?_)) ?_; go_simp)
      | (refine FlowZ.flow_sp hsp rfl (hB.out _ _ rfl (fun w1 => ?_)) ?_; go_simp)
      | (apply FlowZ.flow_step hsp; rfl; rfl; (intro s1 w1 hb; have hc := hXc.out s1 w1 hb; go_simp; (first | with_reducible exact ⟨rfl, hb⟩ | with_reducible exact rfl | (go_at_call 17; refine (rones_c _ _).mono ?_; rintro e w2 ⟨rfl, hb2⟩; exact ⟨_, rfl, rfl, hXt.out _ _ _ hb hb2⟩) | (go_at_call 15; refine (rand_c _ _ _).mono ?_; rintro e w2 ⟨rfl, hb2⟩; exact ⟨_, rfl, rfl, hXt.out _ _ _ hb hb2⟩))))
    (try simp only [Act.put, List.setIfInBounds_toArray, List.set_cons_zero, List.set_cons_succ])
  apply FlowZ.flow_nil
  clear hXc hXt hsp hA hB xc xf xl ac af al gc gf gl
  intro bA bB v1 hb hbA hbB hne hoA hoB
  simp only [Act.put, List.setIfInBounds_toArray, List.set_cons_zero, List.set_cons_succ]
  have L12 := K12.lt
  have J1 := K12.step hb
  have C1 : Below w.heap.size w v1 := B12.trans (hb.mono (by omega))
  have kA1 : w.heap.size + 1 + 1 + 1 < bA := by omega
  have kA2 : g < bA := by omega
  have kB1 : w.heap.size + 1 + 1 + 1 < bB := by omega
  have kB2 : g < bB := by omega
  clear hb
  obtain ⟨v2, e2, O2, S2⟩ := store4 hoA 0 1 2 3 (uv (a.and (Vb.ones 16)).a) (uv (a.and (Vb.ones 16)).b) (uv (a.and (Vb.ones 16)).c) (uv (a.and (Vb.ones 16)).d)
  have J2 := J1.store S2 kA1 kA2
  have P2 := (S2.other bB (fun h => hne h.symm)).trans hoB
  have C2 : Below w.heap.size w v2 := C1.trans (S2.below _ (by omega))
  replace O2 : v2.heap[bA]? = some (vcell (a.and (Vb.ones 16))) := O2
  obtain ⟨v3, e3, O3, S3⟩ := store4 P2 0 1 2 3 (uv (x.and (Vb.ones 16)).a) (uv (x.and (Vb.ones 16)).b) (uv (x.and (Vb.ones 16)).c) (uv (x.and (Vb.ones 16)).d)
  have J3 := J2.store S3 kB1 kB2
  have O4 := (S3.other bA hne).trans O2
  have C3 : Below w.heap.size w v3 := C2.trans (S3.below _ (by omega))
  replace O3 : v3.heap[bB]? = some (vcell (x.and (Vb.ones 16))) := O3
  obtain ⟨sc, sf, sl⟩ := block_cells hoA
  obtain ⟨pc, pf, pl⟩ := block_cells P2
  have lA : bA < v3.heap.size := (Array.getElem?_eq_some_iff.1 O4).1
  have lB : bB < v3.heap.size := (Array.getElem?_eq_some_iff.1 O3).1
  have L3 := J3.lt
  clear S2 S3
  go_wp2_with fail
  generalize hu : World.alloc _ _ = v4
  have Q4 : CO w.heap.size g x a y b v4 := by rw [← hu]; exact J3.step (((Below.refl _ _).alloc (Nat.le_refl _) _))
  have U4 : CI bA bB v3.heap.size (a.and (Vb.ones 16)) (x.and (Vb.ones 16)) v4 := by
    rw [← hu]
    exact ⟨(Below.heap_alloc v3 _ _ lA).trans O4, (Below.heap_alloc v3 _ _ lB).trans O3, heap_alloc_new v3 _⟩
  have D4 : Below w.heap.size w v4 := by rw [← hu]; exact C3.alloc (by omega) _
  have kt : v3.heap.size < v4.heap.size := by rw [← hu]; simp
  clear hu e2 e3 sc sf sl pc pf pl J1 J2 J3 C1 C2 C3 O2 O3 O4 P2 hoA hoB
  generalize v3.heap.size = tt at *
  refine wp_loop_rounds 3 ?_
  rw [rounds_succ]
  obtain ⟨tc, tf, tl⟩ := block_cells U4.T
  obtain ⟨sc, sf, sl⟩ := block_cells U4.S
  obtain ⟨pc, pf, pl⟩ := block_cells U4.P
  go_wp2_with fail
  clear tc tf tl
  refine (H162.out.u1 _).mono ?_
  rintro e v5 ⟨rfl, hb⟩
  have Q5 := Q4.step hb
  have U5 := U4.step hb
  have D5 : Below w.heap.size w v5 := D4.trans (hb.mono (by have := Q4.lt; omega))
  have M5 := Q5.lt
  clear hb
  clear sc sf sl pc pf pl
  obtain ⟨sc, sf, sl⟩ := block_cells U5.S
  obtain ⟨pc, pf, pl⟩ := block_cells U5.P
  go_wp2_with fail
  refine (H162.out.u2 _).mono ?_
  rintro e v6 ⟨rfl, hb⟩
  have hN := heap_alloc_new v5 (vcell W162)
  have N1 := (hb.block v5.heap.size (by simp)).trans hN
  have Q6 := (Q5.step ((Below.refl _ _).alloc (Nat.le_refl _) (vcell W162))).step hb
  have U6 := (U5.step ((Below.refl _ _).alloc (Nat.le_refl _) (vcell W162))).step hb
  have D6 : Below w.heap.size w v6 := (D5.alloc (by omega) _).trans (hb.mono (by simp; omega))
  have M6 := Q6.lt
  have n1 : v5.heap.size < v6.heap.size := (Array.getElem?_eq_some_iff.1 N1).1
  clear hb hN
  clear sc sf sl pc pf pl
  obtain ⟨sc, sf, sl⟩ := block_cells U6.S
  obtain ⟨pc, pf, pl⟩ := block_cells U6.P
  obtain ⟨nc, nf, nl⟩ := block_cells N1
  go_wp2_with fail
  refine (H162.out.u3 _).mono ?_
  rintro e v7 ⟨rfl, hb⟩
  have Q7 := (Q6.step ((Below.refl _ _).alloc (Nat.le_refl _) (vcell L162))).step hb
  have U7 := (U6.step ((Below.refl _ _).alloc (Nat.le_refl _) (vcell L162))).step hb
  have D7 : Below w.heap.size w v7 := (D6.alloc (by omega) _).trans (hb.mono (by simp; omega))
  have M7 := Q7.lt
  clear hb nc nf nl N1 n1
  clear sc sf sl pc pf pl
  obtain ⟨sc, sf, sl⟩ := block_cells U7.S
  obtain ⟨pc, pf, pl⟩ := block_cells U7.P
  go_wp2_with fail
  generalize hu : World.alloc _ _ = v8
  have Q8 : CO w.heap.size g x a y b v8 := by rw [← hu]; exact Q7.step ((Below.refl _ _).alloc (Nat.le_refl _) _)
  have U8 : CI bA bB tt (a.and (Vb.ones 16)) (x.and (Vb.ones 16)) v8 := by rw [← hu]; exact U7.step ((Below.refl _ _).alloc (Nat.le_refl _) _)
  have D8 : Below w.heap.size w v8 := by rw [← hu]; exact D7.alloc (by omega) _
  clear hu Q4 Q5 Q6 Q7 U4 U5 U6 U7 D4 D5 D6 D7 M5 M6 M7
  clear sc sf sl pc pf pl
  rw [rounds_succ]
  obtain ⟨tc, tf, tl⟩ := block_cells U8.T
  obtain ⟨sc, sf, sl⟩ := block_cells U8.S
  obtain ⟨pc, pf, pl⟩ := block_cells U8.P
  go_wp2_with fail
  clear tc tf tl
  refine (H163.out.u1 _).mono ?_
  rintro e v9 ⟨rfl, hb⟩
  have Q9 := Q8.step hb
  have U9 := U8.step hb
  have D9 : Below w.heap.size w v9 := D8.trans (hb.mono (by have := Q8.lt; omega))
  have M9 := Q9.lt
  clear hb
  clear sc sf sl pc pf pl
  obtain ⟨sc, sf, sl⟩ := block_cells U9.S
  obtain ⟨pc, pf, pl⟩ := block_cells U9.P
  go_wp2_with fail
  refine (H163.out.u2 _).mono ?_
  rintro e v10 ⟨rfl, hb⟩
  have hN := heap_alloc_new v9 (vcell W163)
  have N1 := (hb.block v9.heap.size (by simp)).trans hN
  have Q10 := (Q9.step ((Below.refl _ _).alloc (Nat.le_refl _) (vcell W163))).step hb
  have U10 := (U9.step ((Below.refl _ _).alloc (Nat.le_refl _) (vcell W163))).step hb
  have D10 : Below w.heap.size w v10 := (D9.alloc (by omega) _).trans (hb.mono (by simp; omega))
  have M10 := Q10.lt
  have n1 : v9.heap.size < v10.heap.size := (Array.getElem?_eq_some_iff.1 N1).1
  clear hb hN
  clear sc sf sl pc pf pl
  obtain ⟨sc, sf, sl⟩ := block_cells U10.S
  obtain ⟨pc, pf, pl⟩ := block_cells U10.P
  obtain ⟨nc, nf, nl⟩ := block_cells N1
  go_wp2_with fail
  refine (H163.out.u3 _).mono ?_
  rintro e v11 ⟨rfl, hb⟩
  have Q11 := (Q10.step ((Below.refl _ _).alloc (Nat.le_refl _) (vcell L163))).step hb
  have U11 := (U10.step ((Below.refl _ _).alloc (Nat.le_refl _) (vcell L163))).step hb
  have D11 : Below w.heap.size w v11 := (D10.alloc (by omega) _).trans (hb.mono (by simp; omega))
  have M11 := Q11.lt
  clear hb nc nf nl N1 n1
  clear sc sf sl pc pf pl
  obtain ⟨sc, sf, sl⟩ := block_cells U11.S
  obtain ⟨pc, pf, pl⟩ := block_cells U11.P
  go_wp2_with fail
  generalize hu : World.alloc _ _ = v12
  have Q12 : CO w.heap.size g x a y b v12 := by rw [← hu]; exact Q11.step ((Below.refl _ _).alloc (Nat.le_refl _) _)
  have U12 : CI bA bB tt (a.and (Vb.ones 16)) (x.and (Vb.ones 16)) v12 := by rw [← hu]; exact U11.step ((Below.refl _ _).alloc (Nat.le_refl _) _)
  have D12 : Below w.heap.size w v12 := by rw [← hu]; exact D11.alloc (by omega) _
  clear hu Q8 Q9 Q10 Q11 U8 U9 U10 U11 D8 D9 D10 D11 M9 M10 M11
  clear sc sf sl pc pf pl
  rw [rounds_succ]
  go_wp2_with fail
  clear U12 K12 B12
  rw [rounds_succ]
  go_wp2_with fail
  obtain ⟨xc, xf, xl⟩ := block_cells Q12.X
  obtain ⟨ac, af, al⟩ := block_cells Q12.A
  have L12 := Q12.lt
  have hj' := hj.out
  rw [hj']
  clear hj'
  refine FlowS.wp_region_store 10 11 12 24 _ (uv 0#32) (uv 0#32) (uv 0#32) (uv 0#32) (uv (sp).a) (uv (sp).b) (uv (sp).c) (uv (sp).d) 24 rfl rfl rfl (fun a w => by kernel_rfl) (by kernel_rfl) (by omega) (by omega) (by kernel_rfl) (by kernel_rfl) (fun R hRc hRt hRo hRs => ?_)
  simp only [List.take_succ_cons, List.take_zero, List.drop_succ_cons, List.drop_zero]
  iterate 12
    first
      | (refine FlowS.flow_make rfl ?_)
      | (refine FlowS.flow_store rfl rfl rfl ?_ ?_; (intro b1 w1 hb; have hzb := hRo.out b1 w1 hb; obtain ⟨hoc, hof, hos⟩ := FlowA.made_cells hzb; clear hzb; simp only [Act.put, List.setIfInBounds_toArray, List.set_cons_zero, List.set_cons_succ]; go_simp; exact hRs.out _ _ hb))
      | refine FlowS.flow_skip rfl rfl rfl ?_
      | (apply FlowS.flow_step; rfl; rfl; rfl; (intro s1 w1 hb; have hc := hRc.out s1 w1 hb; go_simp; (first | with_reducible exact ⟨rfl, hb⟩ | (go_at_call 20; refine (v_c _ _ ).mono ?_; rintro e w2 ⟨rfl, hb2⟩; exact ⟨_, rfl, rfl, hRt.out _ _ _ hb hb2⟩) | (go_at_call 18; refine (G1.out _ ).mono ?_; rintro e w2 ⟨rfl, hb2⟩; exact ⟨_, rfl, rfl, hRt.out _ _ _ hb hb2⟩))))
    simp only [Act.put, List.setIfInBounds_toArray, List.set_cons_zero, List.set_cons_succ]
  apply FlowS.flow_nil
  clear hRc hRt hRo hRs
  intro bS v13 hb hbb hob
  simp only [Act.put, List.setIfInBounds_toArray, List.set_cons_zero, List.set_cons_succ]
  obtain ⟨hc, hf⟩ := Flow.bcell hb
  have hz := hb.size
  (try simp only [World.size_alloc, World.size_setCell, World.size_drew] at hz)
  (try simp only [World.size_alloc, World.size_setCell, World.size_drew] at hbb)
  have Q13 := Q12.step hb
  have S13 : v13.heap[bS]? = some (vcell sp) := hob
  have D13 : Below w.heap.size w v13 := D12.trans (hb.mono (by omega))
  have L13 := Q13.lt
  clear hb hob hbb hc hf hz xc xf xl ac af al Q12 D12 L12
  obtain ⟨xc, xf, xl⟩ := block_cells Q13.X
  obtain ⟨sc, sf, sl⟩ := block_cells S13
  go_wp2_with fail
  refine (G2.out _).mono ?_
  rintro e v14 ⟨rfl, hb⟩
  have Q14 := Q13.step hb
  have D14 : Below w.heap.size w v14 := D13.trans (hb.mono (by omega))
  have L14 := Q14.lt
  clear hb xc xf xl sc sf sl S13 Q13 D13 L13
  go_wp2_with fail
  generalize hu : World.alloc _ _ = v15
  have O15 : v15.heap[v14.heap.size]? = some (vcell (V.word a.a)) := by rw [← hu]; exact heap_alloc_new v14 _
  have Q15 : CO w.heap.size g x a y b v15 := by rw [← hu]; exact Q14.step ((Below.refl _ _).alloc (Nat.le_refl _) _)
  have D15 : Below w.heap.size w v15 := by rw [← hu]; exact D14.alloc (by omega) _
  have L15 := Q15.lt
  clear hu Q14 D14 L14
  generalize v14.heap.size = bO at *
  obtain ⟨ac, af, al⟩ := block_cells Q15.A
  obtain ⟨oc, of, ol⟩ := block_cells O15
  refine Flow.wp_region_below 12 (by kernel_rfl) (by kernel_rfl) (fun R hRc hRt => ?_)
  simp only [List.take_succ_cons, List.take_zero, List.drop_succ_cons, List.drop_zero]
  iterate 12
    first
      | refine Flow.flow_skip rfl ?_
      | (apply Flow.flow_step; rfl; (intro w1 hb; have hc := hRc.out w1 hb; go_simp; (first | with_reducible exact ⟨rfl, hb⟩ | (go_at_call 20; refine (v_c _ _ ).mono ?_; rintro e w2 ⟨rfl, hb2⟩; exact ⟨_, rfl, rfl, hRt.out _ _ hb hb2⟩))))
      | (apply Flow.flow_guardT rfl rfl rfl; (intro hg w1 hb; have hc := hRc.out w1 hb; go_simp; (first | with_reducible exact ⟨rfl, hb⟩ | (go_at_call 20; refine (v_c _ _ ).mono ?_; rintro e w2 ⟨rfl, hb2⟩; exact ⟨_, rfl, rfl, hRt.out _ _ hb hb2⟩))))
      | (apply Flow.flow_guardF rfl rfl rfl; (intro hg w1 hb; have hc := hRc.out w1 hb; go_simp; (first | with_reducible exact ⟨rfl, hb⟩ | (go_at_call 20; refine (v_c _ _ ).mono ?_; rintro e w2 ⟨rfl, hb2⟩; exact ⟨_, rfl, rfl, hRt.out _ _ hb hb2⟩))))
      | (apply Flow.flow_guardT2 rfl rfl rfl; (intro hp hg w1 hb; have hc := hRc.out w1 hb; go_simp; (first | with_reducible exact ⟨rfl, hb⟩ | (go_at_call 20; refine (v_c _ _ ).mono ?_; rintro e w2 ⟨rfl, hb2⟩; exact ⟨_, rfl, rfl, hRt.out _ _ hb hb2⟩))))
      | (apply Flow.flow_guardF2 rfl rfl rfl; (intro hp hg w1 hb; have hc := hRc.out w1 hb; go_simp; (first | with_reducible exact ⟨rfl, hb⟩ | (go_at_call 20; refine (v_c _ _ ).mono ?_; rintro e w2 ⟨rfl, hb2⟩; exact ⟨_, rfl, rfl, hRt.out _ _ hb hb2⟩))))
    simp only [Act.put, List.setIfInBounds_toArray, List.set_cons_zero, List.set_cons_succ]
  apply Flow.flow_nil
  clear hRc hRt
  intro w1 hb
  obtain ⟨hc, hf⟩ := Flow.bcell hb
  have hz := hb.size
  (try simp only [World.size_alloc, World.size_setCell, World.size_drew] at hz)
  have Q16 := Q15.step hb
  have D16 : Below w.heap.size w w1 := D15.trans (hb.mono (by omega))
  clear hb hc hf hz ac af al oc of ol O15 Q15 D15 L15
  have L16 := Q16.lt
  obtain ⟨v16, hv⟩ : ∃ v, v = w1 := ⟨_, rfl⟩
  subst hv
  go_wp2_with fail
  obtain ⟨xc, xf, xl⟩ := block_cells Q16.X
  obtain ⟨ac, af, al⟩ := block_cells Q16.A
  obtain ⟨yc, yf, yl⟩ := block_cells Q16.Y
  obtain ⟨bc, bf, bl⟩ := block_cells Q16.B
  refine FlowS.wp_region_store 13 14 15 28 _ (uv 0#32) (uv 0#32) (uv 0#32) (uv 0#32) (uv (pt).a) (uv (pt).b) (uv (pt).c) (uv (pt).d) 24 rfl rfl rfl (fun a w => by kernel_rfl) (by kernel_rfl) (by omega) (by omega) (by kernel_rfl) (by kernel_rfl) (fun R hRc hRt hRo hRs => ?_)
  simp only [List.take_succ_cons, List.take_zero, List.drop_succ_cons, List.drop_zero]
  iterate 15
    first
      | (refine FlowS.flow_make rfl ?_)
      | (refine FlowS.flow_store rfl rfl rfl ?_ ?_; (intro b1 w1 hb; have hzb := hRo.out b1 w1 hb; obtain ⟨hoc, hof, hos⟩ := FlowA.made_cells hzb; clear hzb; simp only [Act.put, List.setIfInBounds_toArray, List.set_cons_zero, List.set_cons_succ]; go_simp; exact hRs.out _ _ hb))
      | refine FlowS.flow_skip rfl rfl rfl ?_
      | (apply FlowS.flow_step; rfl; rfl; rfl; (intro s1 w1 hb; have hc := hRc.out s1 w1 hb; go_simp; (first | with_reducible exact ⟨rfl, hb⟩ | (go_at_call 20; refine (v_c _ _ ).mono ?_; rintro e w2 ⟨rfl, hb2⟩; exact ⟨_, rfl, rfl, hRt.out _ _ _ hb hb2⟩) | (go_at_call 21; refine (G3.out _ ).mono ?_; rintro e w2 ⟨rfl, hb2⟩; exact ⟨_, rfl, rfl, hRt.out _ _ _ hb hb2⟩))))
    simp only [Act.put, List.setIfInBounds_toArray, List.set_cons_zero, List.set_cons_succ]
  apply FlowS.flow_nil
  clear hRc hRt hRo hRs
  intro bP v17 hb hbb hob
  simp only [Act.put, List.setIfInBounds_toArray, List.set_cons_zero, List.set_cons_succ]
  obtain ⟨hc, hf⟩ := Flow.bcell hb
  have hz := hb.size
  (try simp only [World.size_alloc, World.size_setCell, World.size_drew] at hz)
  (try simp only [World.size_alloc, World.size_setCell, World.size_drew] at hbb)
  have Q17 := Q16.step hb
  have P17 : v17.heap[bP]? = some (vcell pt) := hob
  have D17 : Below w.heap.size w v17 := D16.trans (hb.mono (by omega))
  have L17 := Q17.lt
  clear hb hob hbb hc hf hz xc xf xl ac af al yc yf yl bc bf bl Q16 D16 L16
  go_wp2_with fail
  obtain ⟨xc, xf, xl⟩ := block_cells Q17.X
  obtain ⟨yc, yf, yl⟩ := block_cells Q17.Y
  refine FlowS.wp_region_store 9 10 11 29 _ (uv 0#32) (uv 0#32) (uv 0#32) (uv 0#32) (uv (wt).a) (uv (wt).b) (uv (wt).c) (uv (wt).d) 24 rfl rfl rfl (fun a w => by kernel_rfl) (by kernel_rfl) (by omega) (by omega) (by kernel_rfl) (by kernel_rfl) (fun R hRc hRt hRo hRs => ?_)
  simp only [List.take_succ_cons, List.take_zero, List.drop_succ_cons, List.drop_zero]
  iterate 11
    first
      | (refine FlowS.flow_make rfl ?_)
      | (refine FlowS.flow_store rfl rfl rfl ?_ ?_; (intro b1 w1 hb; have hzb := hRo.out b1 w1 hb; obtain ⟨hoc, hof, hos⟩ := FlowA.made_cells hzb; clear hzb; simp only [Act.put, List.setIfInBounds_toArray, List.set_cons_zero, List.set_cons_succ]; go_simp; exact hRs.out _ _ hb))
      | refine FlowS.flow_skip rfl rfl rfl ?_
      | (apply FlowS.flow_step; rfl; rfl; rfl; (intro s1 w1 hb; have hc := hRc.out s1 w1 hb; go_simp; (first | with_reducible exact ⟨rfl, hb⟩ | (go_at_call 20; refine (v_c _ _ ).mono ?_; rintro e w2 ⟨rfl, hb2⟩; exact ⟨_, rfl, rfl, hRt.out _ _ _ hb hb2⟩) | (go_at_call 22; refine (G4.out _ ).mono ?_; rintro e w2 ⟨rfl, hb2⟩; exact ⟨_, rfl, rfl, hRt.out _ _ _ hb hb2⟩))))
    simp only [Act.put, List.setIfInBounds_toArray, List.set_cons_zero, List.set_cons_succ]
  apply FlowS.flow_nil
  clear hRc hRt hRo hRs
  intro bW v18 hb hbb hob
  simp only [Act.put, List.setIfInBounds_toArray, List.set_cons_zero, List.set_cons_succ]
  obtain ⟨hc, hf⟩ := Flow.bcell hb
  have hz := hb.size
  (try simp only [World.size_alloc, World.size_setCell, World.size_drew] at hz)
  (try simp only [World.size_alloc, World.size_setCell, World.size_drew] at hbb)
  have Q18 := Q17.step hb
  have P18 : v18.heap[bP]? = some (vcell pt) := (hb.block _ (Array.getElem?_eq_some_iff.1 P17).1).trans P17
  have W18 : v18.heap[bW]? = some (vcell wt) := hob
  have D18 : Below w.heap.size w v18 := D17.trans (hb.mono (by omega))
  have L18 := Q18.lt
  clear hb hob hbb hc hf hz xc xf xl yc yf yl P17 Q17 D17 L17
  obtain ⟨pc, pf, pl⟩ := block_cells P18
  obtain ⟨sc, sf, sl⟩ := block_cells W18
  go_wp2_with fail
  refine (G5.out _).mono ?_
  rintro e v19 ⟨rfl, hb⟩
  have Q19 := Q18.step hb
  have D19 : Below w.heap.size w v19 := D18.trans (hb.mono (by omega))
  have L19 := Q19.lt
  clear hb pc pf pl sc sf sl P18 W18 Q18 D18 L18
  go_wp2_with fail
  generalize hu : World.alloc _ _ = v20
  have O20 : v20.heap[v19.heap.size]? = some (vcell (V.word b.a)) := by rw [← hu]; exact heap_alloc_new v19 _
  have Q20 : CO w.heap.size g x a y b v20 := by rw [← hu]; exact Q19.step ((Below.refl _ _).alloc (Nat.le_refl _) _)
  have D20 : Below w.heap.size w v20 := by rw [← hu]; exact D19.alloc (by omega) _
  have L20 := Q20.lt
  clear hu Q19 D19 L19
  generalize v19.heap.size = bG at *
  obtain ⟨bc, bf, bl⟩ := block_cells Q20.B
  obtain ⟨oc, of, ol⟩ := block_cells O20
  refine Flow.wp_region_below 12 (by kernel_rfl) (by kernel_rfl) (fun R hRc hRt => ?_)
  simp only [List.take_succ_cons, List.take_zero, List.drop_succ_cons, List.drop_zero]
  iterate 12
    first
      | refine Flow.flow_skip rfl ?_
      | (apply Flow.flow_step; rfl; (intro w1 hb; have hc := hRc.out w1 hb; go_simp; (first | with_reducible exact ⟨rfl, hb⟩ | (go_at_call 20; refine (v_c _ _ ).mono ?_; rintro e w2 ⟨rfl, hb2⟩; exact ⟨_, rfl, rfl, hRt.out _ _ hb hb2⟩))))
      | (apply Flow.flow_guardT rfl rfl rfl; (intro hg w1 hb; have hc := hRc.out w1 hb; go_simp; (first | with_reducible exact ⟨rfl, hb⟩ | (go_at_call 20; refine (v_c _ _ ).mono ?_; rintro e w2 ⟨rfl, hb2⟩; exact ⟨_, rfl, rfl, hRt.out _ _ hb hb2⟩))))
      | (apply Flow.flow_guardF rfl rfl rfl; (intro hg w1 hb; have hc := hRc.out w1 hb; go_simp; (first | with_reducible exact ⟨rfl, hb⟩ | (go_at_call 20; refine (v_c _ _ ).mono ?_; rintro e w2 ⟨rfl, hb2⟩; exact ⟨_, rfl, rfl, hRt.out _ _ hb hb2⟩))))
      | (apply Flow.flow_guardT2 rfl rfl rfl; (intro hp hg w1 hb; have hc := hRc.out w1 hb; go_simp; (first | with_reducible exact ⟨rfl, hb⟩ | (go_at_call 20; refine (v_c _ _ ).mono ?_; rintro e w2 ⟨rfl, hb2⟩; exact ⟨_, rfl, rfl, hRt.out _ _ hb hb2⟩))))
      | (apply Flow.flow_guardF2 rfl rfl rfl; (intro hp hg w1 hb; have hc := hRc.out w1 hb; go_simp; (first | with_reducible exact ⟨rfl, hb⟩ | (go_at_call 20; refine (v_c _ _ ).mono ?_; rintro e w2 ⟨rfl, hb2⟩; exact ⟨_, rfl, rfl, hRt.out _ _ hb hb2⟩))))
    simp only [Act.put, List.setIfInBounds_toArray, List.set_cons_zero, List.set_cons_succ]
  apply Flow.flow_nil
  clear hRc hRt
  intro w1 hb
  obtain ⟨hc, hf⟩ := Flow.bcell hb
  have hz := hb.size
  (try simp only [World.size_alloc, World.size_setCell, World.size_drew] at hz)
  have Q21 := Q20.step hb
  have D21 : Below w.heap.size w w1 := D20.trans (hb.mono (by omega))
  clear hb hc hf hz bc bf bl oc of ol O20 Q20 D20 L20
  have L21 := Q21.lt
  obtain ⟨v21, hv⟩ : ∃ v, v = w1 := ⟨_, rfl⟩
  subst hv
  go_wp2_with fail
  obtain ⟨xc, xf, xl⟩ := block_cells Q21.X
  obtain ⟨ac, af, al⟩ := block_cells Q21.A
  refine FlowS.wp_region_store 15 16 17 32 _ (uv 0#32) (uv 0#32) (uv 0#32) (uv 0#32) (uv (a).a) (uv (a).b) (uv (a).c) (uv (a).d) 24 rfl rfl rfl (fun a w => by kernel_rfl) (by kernel_rfl) (by omega) (by omega) (by kernel_rfl) (by kernel_rfl) (fun R hRc hRt hRo hRs => ?_)
  simp only [List.take_succ_cons, List.take_zero, List.drop_succ_cons, List.drop_zero]
  iterate 17
    first
      | (refine FlowS.flow_make rfl ?_)
      | (refine FlowS.flow_store rfl rfl rfl ?_ ?_; (intro b1 w1 hb; have hzb := hRo.out b1 w1 hb; obtain ⟨hoc, hof, hos⟩ := FlowA.made_cells hzb; clear hzb; simp only [Act.put, List.setIfInBounds_toArray, List.set_cons_zero, List.set_cons_succ]; go_simp; exact hRs.out _ _ hb))
      | refine FlowS.flow_skip rfl rfl rfl ?_
      | (apply FlowS.flow_step; rfl; rfl; rfl; (intro s1 w1 hb; have hc := hRc.out s1 w1 hb; go_simp; (first | with_reducible exact ⟨rfl, hb⟩ | (go_at_call 20; refine (v_c _ _ ).mono ?_; rintro e w2 ⟨rfl, hb2⟩; exact ⟨_, rfl, rfl, hRt.out _ _ _ hb hb2⟩) | (go_at_call 21; refine (G6.out _ ).mono ?_; rintro e w2 ⟨rfl, hb2⟩; exact ⟨_, rfl, rfl, hRt.out _ _ _ hb hb2⟩))))
    simp only [Act.put, List.setIfInBounds_toArray, List.set_cons_zero, List.set_cons_succ]
  apply FlowS.flow_nil
  clear hRc hRt hRo hRs
  intro bE v22 hb hbb hob
  simp only [Act.put, List.setIfInBounds_toArray, List.set_cons_zero, List.set_cons_succ]
  obtain ⟨hc, hf⟩ := Flow.bcell hb
  have hz := hb.size
  (try simp only [World.size_alloc, World.size_setCell, World.size_drew] at hz)
  (try simp only [World.size_alloc, World.size_setCell, World.size_drew] at hbb)
  have Q22 := Q21.step hb
  have E22 : v22.heap[bE]? = some (vcell a) := hob
  have D22 : Below w.heap.size w v22 := D21.trans (hb.mono (by omega))
  have L22 := Q22.lt
  clear hb hob hbb hc hf hz xc xf xl ac af al Q21 D21 L21
  obtain ⟨ac, af, al⟩ := block_cells Q22.A
  obtain ⟨sc, sf, sl⟩ := block_cells E22
  go_wp2_with fail
  go_ret
  exact ⟨rfl, D22⟩

set_option maxRecDepth 100000 in
set_option maxHeartbeats 16000000 in
theorem conv_w1 (HS : Hid SaneC) (x a y b : V) (k : Int) (W82 L82 W83 L83 W162 L162 W163 L163 : V) (H82 : Hid (ConvH x a 8 2 W82 L82)) (H83 : Hid (ConvH x a 8 3 W83 L83)) (H162 : Hid (ConvH x a 16 2 W162 L162)) (H163 : Hid (ConvH x a 16 3 W163 L163)) (hj : Hid (wrap64 ((IntKind.u64.wrap k).tmod 4) = 1)) (sp pt wt : V)
    (G1 : Hid (∀ w, Calls Tryz.prog 18 #[iv 11, iv 32, iv 128, iv 0, vv (V.word x.a), vv (V.word a.a)] w fun e w' => e = .returned (.tuple #[vv sp, iv 0]) ∧ Below w.heap.size w w'))
    (G2 : Hid (∀ w, Calls Tryz.prog 18 #[iv 12, iv 128, iv 32, iv 1, vv ⟨x.a, x.a, x.a, x.a⟩, vv sp] w fun e w' => e = .returned (.tuple #[vv (V.word a.a), iv 0]) ∧ Below w.heap.size w w'))
    (G3 : Hid (∀ w, Calls Tryz.prog 21 #[iv 30, iv 128, iv 1, vv x, vv a, vv (V.word y.a), vv (V.word b.a)] w fun e w' => e = .returned (.tuple #[vv pt, iv 0]) ∧ Below w.heap.size w w'))
    (G4 : Hid (∀ w, Calls Tryz.prog 22 #[iv 30, iv 128, iv 1, vv x, vv (V.word y.a)] w fun e w' => e = .returned (.tuple #[vv wt, .bool true]) ∧ Below w.heap.size w w'))
    (G5 : Hid (∀ w, Calls Tryz.prog 18 #[iv 12, iv 128, iv 32, iv 1, vv wt, vv pt] w fun e w' => e = .returned (.tuple #[vv (V.word b.a), iv 0]) ∧ Below w.heap.size w w'))
    (G6 : Hid (∀ w, Calls Tryz.prog 21 #[iv 30, iv 128, iv 1, vv x, vv a, vv (V.word x.b), vv (V.word a.b)] w fun e w' => e = .returned (.tuple #[vv a, iv 0]) ∧ Below w.heap.size w w'))
    (w : World) :
    Calls Tryz.prog 4 #[vv x, vv a, vv y, vv b, iv k] w fun e w' => e = .returned (.bool true) ∧ Below w.heap.size w w' := by
  obtain ⟨X0, A0, Y0, D0⟩ := heap_alloc4 w (vcell x) (vcell a) (vcell y) (vcell b)
  go_enter Tryz.func4, Tryz.ntmps4
  go_wp2_with fail
  (refine (HS.out _ ).mono ?_; rintro e u1 ⟨rfl, hb⟩; obtain ⟨hc, hf⟩ := Flow.bcell hb; have hz := hb.size; (try simp only [World.size_alloc, World.size_setCell, World.size_drew] at hz))
  have hz1 : w.heap.size + 4 ≤ u1.heap.size := by have := hb.size; simp only [World.size_alloc] at this; omega
  have X1 := (hb.block w.heap.size (by simp <;> omega)).trans X0
  have A1 := (hb.block (w.heap.size + 1) (by simp <;> omega)).trans A0
  have Y1 := (hb.block (w.heap.size + 1 + 1) (by simp <;> omega)).trans Y0
  have D1 := (hb.block (w.heap.size + 1 + 1 + 1) (by simp)).trans D0
  have B1 : Below w.heap.size w u1 := by (repeat (first | exact Below.refl _ _ | refine Below.setCell ?_ (by first | omega | (simp <;> omega)) _ | refine Below.alloc ?_ (by first | omega | (simp <;> omega)) _ | refine Below.drew ?_ | refine Below.trans ?_ (Below.mono (by assumption) (by first | omega | (simp <;> omega)))))
  clear X0 A0 Y0 D0 hb hc hf
  go_wp2_with fail
  generalize hu : World.alloc _ _ = v0
  have K0 : CO w.heap.size u1.heap.size x a y b v0 := by
    rw [← hu]
    exact ⟨(Below.heap_alloc u1 _ _ (by omega)).trans X1, (Below.heap_alloc u1 _ _ (by omega)).trans A1, (Below.heap_alloc u1 _ _ (by omega)).trans Y1, (Below.heap_alloc u1 _ _ (by omega)).trans D1, heap_alloc_new u1 _⟩
  have B0 : Below w.heap.size w v0 := by rw [← hu]; exact B1.alloc (by omega) _
  clear hu X1 A1 Y1 D1 B1 hz
  generalize u1.heap.size = g at *
  refine wp_loop_rounds 3 ?_
  rw [rounds_succ]
  obtain ⟨xc, xf, xl⟩ := block_cells K0.X
  obtain ⟨ac, af, al⟩ := block_cells K0.A
  obtain ⟨gc, gf, gl⟩ := block_cells K0.G
  go_wp2_with fail
  refine FlowZ.wp_region_vars 10 8 9 13 14 (vcell V.zero) (vcell V.zero) (by kernel_rfl) (by kernel_rfl) (by kernel_rfl) (fun X hXc hXt hsp hA hB => ?_)
  simp only [List.take_succ_cons, List.take_zero, List.drop_succ_cons, List.drop_zero]
  iterate 10
    first
      | (refine FlowZ.flow_sp hsp rfl (hA.out _ _ rfl (fun w1 => ?_)) ?_; go_simp)
      | (refine FlowZ.flow_sp hsp rfl (hB.out _ _ rfl (fun w1 => ?_)) ?_; go_simp)
      | (apply FlowZ.flow_step hsp; rfl; rfl; (intro s1 w1 hb; have hc := hXc.out s1 w1 hb; go_simp; (first | with_reducible exact ⟨rfl, hb⟩ | with_reducible exact rfl | (go_at_call 17; refine (rones_c _ _).mono ?_; rintro e w2 ⟨rfl, hb2⟩; exact ⟨_, rfl, rfl, hXt.out _ _ _ hb hb2⟩) | (go_at_call 15; refine (rand_c _ _ _).mono ?_; rintro e w2 ⟨rfl, hb2⟩; exact ⟨_, rfl, rfl, hXt.out _ _ _ hb hb2⟩))))
    (try simp only [Act.put, List.setIfInBounds_toArray, List.set_cons_zero, List.set_cons_succ])
  apply FlowZ.flow_nil
  clear hXc hXt hsp hA hB xc xf xl ac af al gc gf gl
  intro bA bB v1 hb hbA hbB hne hoA hoB
  simp only [Act.put, List.setIfInBounds_toArray, List.set_cons_zero, List.set_cons_succ]
  have L0 := K0.lt
  have J1 := K0.step hb
  have C1 : Below w.heap.size w v1 := B0.trans (hb.mono (by omega))
  have kA1 : w.heap.size + 1 + 1 + 1 < bA := by omega
  have kA2 : g < bA := by omega
  have kB1 : w.heap.size + 1 + 1 + 1 < bB := by omega
  have kB2 : g < bB := by omega
  clear hb
  obtain ⟨v2, e2, O2, S2⟩ := store4 hoA 0 1 2 3 (uv (a.and (Vb.ones 8)).a) (uv (a.and (Vb.ones 8)).b) (uv (a.and (Vb.ones 8)).c) (uv (a.and (Vb.ones 8)).d)
  have J2 := J1.store S2 kA1 kA2
  have P2 := (S2.other bB (fun h => hne h.symm)).trans hoB
  have C2 : Below w.heap.size w v2 := C1.trans (S2.below _ (by omega))
  replace O2 : v2.heap[bA]? = some (vcell (a.and (Vb.ones 8))) := O2
  obtain ⟨v3, e3, O3, S3⟩ := store4 P2 0 1 2 3 (uv (x.and (Vb.ones 8)).a) (uv (x.and (Vb.ones 8)).b) (uv (x.and (Vb.ones 8)).c) (uv (x.and (Vb.ones 8)).d)
  have J3 := J2.store S3 kB1 kB2
  have O4 := (S3.other bA hne).trans O2
  have C3 : Below w.heap.size w v3 := C2.trans (S3.below _ (by omega))
  replace O3 : v3.heap[bB]? = some (vcell (x.and (Vb.ones 8))) := O3
  obtain ⟨sc, sf, sl⟩ := block_cells hoA
  obtain ⟨pc, pf, pl⟩ := block_cells P2
  have lA : bA < v3.heap.size := (Array.getElem?_eq_some_iff.1 O4).1
  have lB : bB < v3.heap.size := (Array.getElem?_eq_some_iff.1 O3).1
  have L3 := J3.lt
  clear S2 S3
  go_wp2_with fail
  generalize hu : World.alloc _ _ = v4
  have Q4 : CO w.heap.size g x a y b v4 := by rw [← hu]; exact J3.step (((Below.refl _ _).alloc (Nat.le_refl _) _))
  have U4 : CI bA bB v3.heap.size (a.and (Vb.ones 8)) (x.and (Vb.ones 8)) v4 := by
    rw [← hu]
    exact ⟨(Below.heap_alloc v3 _ _ lA).trans O4, (Below.heap_alloc v3 _ _ lB).trans O3, heap_alloc_new v3 _⟩
  have D4 : Below w.heap.size w v4 := by rw [← hu]; exact C3.alloc (by omega) _
  have kt : v3.heap.size < v4.heap.size := by rw [← hu]; simp
  clear hu e2 e3 sc sf sl pc pf pl J1 J2 J3 C1 C2 C3 O2 O3 O4 P2 hoA hoB
  generalize v3.heap.size = tt at *
  refine wp_loop_rounds 3 ?_
  rw [rounds_succ]
  obtain ⟨tc, tf, tl⟩ := block_cells U4.T
  obtain ⟨sc, sf, sl⟩ := block_cells U4.S
  obtain ⟨pc, pf, pl⟩ := block_cells U4.P
  go_wp2_with fail
  clear tc tf tl
  refine (H82.out.u1 _).mono ?_
  rintro e v5 ⟨rfl, hb⟩
  have Q5 := Q4.step hb
  have U5 := U4.step hb
  have D5 : Below w.heap.size w v5 := D4.trans (hb.mono (by have := Q4.lt; omega))
  have M5 := Q5.lt
  clear hb
  clear sc sf sl pc pf pl
  obtain ⟨sc, sf, sl⟩ := block_cells U5.S
  obtain ⟨pc, pf, pl⟩ := block_cells U5.P
  go_wp2_with fail
  refine (H82.out.u2 _).mono ?_
  rintro e v6 ⟨rfl, hb⟩
  have hN := heap_alloc_new v5 (vcell W82)
  have N1 := (hb.block v5.heap.size (by simp)).trans hN
  have Q6 := (Q5.step ((Below.refl _ _).alloc (Nat.le_refl _) (vcell W82))).step hb
  have U6 := (U5.step ((Below.refl _ _).alloc (Nat.le_refl _) (vcell W82))).step hb
  have D6 : Below w.heap.size w v6 := (D5.alloc (by omega) _).trans (hb.mono (by simp; omega))
  have M6 := Q6.lt
  have n1 : v5.heap.size < v6.heap.size := (Array.getElem?_eq_some_iff.1 N1).1
  clear hb hN
  clear sc sf sl pc pf pl
  obtain ⟨sc, sf, sl⟩ := block_cells U6.S
  obtain ⟨pc, pf, pl⟩ := block_cells U6.P
  obtain ⟨nc, nf, nl⟩ := block_cells N1
  go_wp2_with fail
  refine (H82.out.u3 _).mono ?_
  rintro e v7 ⟨rfl, hb⟩
  have Q7 := (Q6.step ((Below.refl _ _).alloc (Nat.le_refl _) (vcell L82))).step hb
  have U7 := (U6.step ((Below.refl _ _).alloc (Nat.le_refl _) (vcell L82))).step hb
  have D7 : Below w.heap.size w v7 := (D6.alloc (by omega) _).trans (hb.mono (by simp; omega))
  have M7 := Q7.lt
  clear hb nc nf nl N1 n1
  clear sc sf sl pc pf pl
  obtain ⟨sc, sf, sl⟩ := block_cells U7.S
  obtain ⟨pc, pf, pl⟩ := block_cells U7.P
  go_wp2_with fail
  generalize hu : World.alloc _ _ = v8
  have Q8 : CO w.heap.size g x a y b v8 := by rw [← hu]; exact Q7.step ((Below.refl _ _).alloc (Nat.le_refl _) _)
  have U8 : CI bA bB tt (a.and (Vb.ones 8)) (x.and (Vb.ones 8)) v8 := by rw [← hu]; exact U7.step ((Below.refl _ _).alloc (Nat.le_refl _) _)
  have D8 : Below w.heap.size w v8 := by rw [← hu]; exact D7.alloc (by omega) _
  clear hu Q4 Q5 Q6 Q7 U4 U5 U6 U7 D4 D5 D6 D7 M5 M6 M7
  clear sc sf sl pc pf pl
  rw [rounds_succ]
  obtain ⟨tc, tf, tl⟩ := block_cells U8.T
  obtain ⟨sc, sf, sl⟩ := block_cells U8.S
  obtain ⟨pc, pf, pl⟩ := block_cells U8.P
  go_wp2_with fail
  clear tc tf tl
  refine (H83.out.u1 _).mono ?_
  rintro e v9 ⟨rfl, hb⟩
  have Q9 := Q8.step hb
  have U9 := U8.step hb
  have D9 : Below w.heap.size w v9 := D8.trans (hb.mono (by have := Q8.lt; omega))
  have M9 := Q9.lt
  clear hb
  clear sc sf sl pc pf pl
  obtain ⟨sc, sf, sl⟩ := block_cells U9.S
  obtain ⟨pc, pf, pl⟩ := block_cells U9.P
  go_wp2_with fail
  refine (H83.out.u2 _).mono ?_
  rintro e v10 ⟨rfl, hb⟩
  have hN := heap_alloc_new v9 (vcell W83)
  have N1 := (hb.block v9.heap.size (by simp)).trans hN
  have Q10 := (Q9.step ((Below.refl _ _).alloc (Nat.le_refl _) (vcell W83))).step hb
  have U10 := (U9.step ((Below.refl _ _).alloc (Nat.le_refl _) (vcell W83))).step hb
  have D10 : Below w.heap.size w v10 := (D9.alloc (by omega) _).trans (hb.mono (by simp; omega))
  have M10 := Q10.lt
  have n1 : v9.heap.size < v10.heap.size := (Array.getElem?_eq_some_iff.1 N1).1
  clear hb hN
  clear sc sf sl pc pf pl
  obtain ⟨sc, sf, sl⟩ := block_cells U10.S
  obtain ⟨pc, pf, pl⟩ := block_cells U10.P
  obtain ⟨nc, nf, nl⟩ := block_cells N1
  go_wp2_with fail
  refine (H83.out.u3 _).mono ?_
  rintro e v11 ⟨rfl, hb⟩
  have Q11 := (Q10.step ((Below.refl _ _).alloc (Nat.le_refl _) (vcell L83))).step hb
  have U11 := (U10.step ((Below.refl _ _).alloc (Nat.le_refl _) (vcell L83))).step hb
  have D11 : Below w.heap.size w v11 := (D10.alloc (by omega) _).trans (hb.mono (by simp; omega))
  have M11 := Q11.lt
  clear hb nc nf nl N1 n1
  clear sc sf sl pc pf pl
  obtain ⟨sc, sf, sl⟩ := block_cells U11.S
  obtain ⟨pc, pf, pl⟩ := block_cells U11.P
  go_wp2_with fail
  generalize hu : World.alloc _ _ = v12
  have Q12 : CO w.heap.size g x a y b v12 := by rw [← hu]; exact Q11.step ((Below.refl _ _).alloc (Nat.le_refl _) _)
  have U12 : CI bA bB tt (a.and (Vb.ones 8)) (x.and (Vb.ones 8)) v12 := by rw [← hu]; exact U11.step ((Below.refl _ _).alloc (Nat.le_refl _) _)
  have D12 : Below w.heap.size w v12 := by rw [← hu]; exact D11.alloc (by omega) _
  clear hu Q8 Q9 Q10 Q11 U8 U9 U10 U11 D8 D9 D10 D11 M9 M10 M11
  clear sc sf sl pc pf pl
  rw [rounds_succ]
  go_wp2_with fail
  have K12 := Q12
  have B12 := D12
  clear Q12 U12 D12 K0 B0
  rw [rounds_succ]
  obtain ⟨xc, xf, xl⟩ := block_cells K12.X
  obtain ⟨ac, af, al⟩ := block_cells K12.A
  obtain ⟨gc, gf, gl⟩ := block_cells K12.G
  go_wp2_with fail
  refine FlowZ.wp_region_vars 10 8 9 13 14 (vcell V.zero) (vcell V.zero) (by kernel_rfl) (by kernel_rfl) (by kernel_rfl) (fun X hXc hXt hsp hA hB => ?_)
  simp only [List.take_succ_cons, List.take_zero, List.drop_succ_cons, List.drop_zero]
  iterate 10
    first
      | (refine FlowZ.flow_sp hsp rfl (hA.out _ _ rfl (fun w1 => ?_)) ?_; go_simp)
      | (refine FlowZ.flow_sp hsp rfl (hB.out _ _ rfl (fun w1 => ?_)) ?_; go_simp)
      | (apply FlowZ.flow_step hsp; rfl; rfl; (intro s1 w1 hb; have hc := hXc.out s1 w1 hb; go_simp; (first | with_reducible exact ⟨rfl, hb⟩ | with_reducible exact rfl | (go_at_call 17; refine (rones_c _ _).mono ?_; rintro e w2 ⟨rfl, hb2⟩; exact ⟨_, rfl, rfl, hXt.out _ _ _ hb hb2⟩) | (go_at_call 15; refine (rand_c _ _ _).mono ?_; rintro e w2 ⟨rfl, hb2⟩; exact ⟨_, rfl, rfl, hXt.out _ _ _ hb hb2⟩))))
    (try simp only [Act.put, List.setIfInBounds_toArray, List.set_cons_zero, List.set_cons_succ])
  apply FlowZ.flow_nil
  clear hXc hXt hsp hA hB xc xf xl ac af al gc gf gl
  intro bA bB v1 hb hbA hbB hne hoA hoB
  simp only [Act.put, List.setIfInBounds_toArray, List.set_cons_zero, List.set_cons_succ]
  have L12 := K12.lt
  have J1 := K12.step hb
  have C1 : Below w.heap.size w v1 := B12.trans (hb.mono (by omega))
  have kA1 : w.heap.size + 1 + 1 + 1 < bA := by omega
  have kA2 : g < bA := by omega
  have kB1 : w.heap.size + 1 + 1 + 1 < bB := by omega
  have kB2 : g < bB := by omega
  clear hb
  obtain ⟨v2, e2, O2, S2⟩ := store4 hoA 0 1 2 3 (uv (a.and (Vb.ones 16)).a) (uv (a.and (Vb.ones 16)).b) (uv (a.and (Vb.ones 16)).c) (uv (a.and (Vb.ones 16)).d)
  have J2 := J1.store S2 kA1 kA2
  have P2 := (S2.other bB (fun h => hne h.symm)).trans hoB
  have C2 : Below w.heap.size w v2 := C1.trans (S2.below _ (by omega))
  replace O2 : v2.heap[bA]? = some (vcell (a.and (Vb.ones 16))) := O2
  obtain ⟨v3, e3, O3, S3⟩ := store4 P2 0 1 2 3 (uv (x.and (Vb.ones 16)).a) (uv (x.and (Vb.ones 16)).b) (uv (x.and (Vb.ones 16)).c) (uv (x.and (Vb.ones 16)).d)
  have J3 := J2.store S3 kB1 kB2
  have O4 := (S3.other bA hne).trans O2
  have C3 : Below w.heap.size w v3 := C2.trans (S3.below _ (by omega))
  replace O3 : v3.heap[bB]? = some (vcell (x.and (Vb.ones 16))) := O3
  obtain ⟨sc, sf, sl⟩ := block_cells hoA
  obtain ⟨pc, pf, pl⟩ := block_cells P2
  have lA : bA < v3.heap.size := (Array.getElem?_eq_some_iff.1 O4).1
  have lB : bB < v3.heap.size := (Array.getElem?_eq_some_iff.1 O3).1
  have L3 := J3.lt
  clear S2 S3
  go_wp2_with fail
  generalize hu : World.alloc _ _ = v4
  have Q4 : CO w.heap.size g x a y b v4 := by rw [← hu]; exact J3.step (((Below.refl _ _).alloc (Nat.le_refl _) _))
  have U4 : CI bA bB v3.heap.size (a.and (Vb.ones 16)) (x.and (Vb.ones 16)) v4 := by
    rw [← hu]
    exact ⟨(Below.heap_alloc v3 _ _ lA).trans O4, (Below.heap_alloc v3 _ _ lB).trans O3, heap_alloc_new v3 _⟩
  have D4 : Below w.heap.size w v4 := by rw [← hu]; exact C3.alloc (by omega) _
  have kt : v3.heap.size < v4.heap.size := by rw [← hu]; simp
  clear hu e2 e3 sc sf sl pc pf pl J1 J2 J3 C1 C2 C3 O2 O3 O4 P2 hoA hoB
  generalize v3.heap.size = tt at *
  refine wp_loop_rounds 3 ?_
  rw [rounds_succ]
  obtain ⟨tc, tf, tl⟩ := block_cells U4.T
  obtain ⟨sc, sf, sl⟩ := block_cells U4.S
  obtain ⟨pc, pf, pl⟩ := block_cells U4.P
  go_wp2_with fail
  clear tc tf tl
  refine (H162.out.u1 _).mono ?_
  rintro e v5 ⟨rfl, hb⟩
  have Q5 := Q4.step hb
  have U5 := U4.step hb
  have D5 : Below w.heap.size w v5 := D4.trans (hb.mono (by have := Q4.lt; omega))
  have M5 := Q5.lt
  clear hb
  clear sc sf sl pc pf pl
  obtain ⟨sc, sf, sl⟩ := block_cells U5.S
  obtain ⟨pc, pf, pl⟩ := block_cells U5.P
  go_wp2_with fail
  refine (H162.out.u2 _).mono ?_
  rintro e v6 ⟨rfl, hb⟩
  have hN := heap_alloc_new v5 (vcell W162)
  have N1 := (hb.block v5.heap.size (by simp)).trans hN
  have Q6 := (Q5.step ((Below.refl _ _).alloc (Nat.le_refl _) (vcell W162))).step hb
  have U6 := (U5.step ((Below.refl _ _).alloc (Nat.le_refl _) (vcell W162))).step hb
  have D6 : Below w.heap.size w v6 := (D5.alloc (by omega) _).trans (hb.mono (by simp; omega))
  have M6 := Q6.lt
  have n1 : v5.heap.size < v6.heap.size := (Array.getElem?_eq_some_iff.1 N1).1
  clear hb hN
  clear sc sf sl pc pf pl
  obtain ⟨sc, sf, sl⟩ := block_cells U6.S
  obtain ⟨pc, pf, pl⟩ := block_cells U6.P
  obtain ⟨nc, nf, nl⟩ := block_cells N1
  go_wp2_with fail
  refine (H162.out.u3 _).mono ?_
  rintro e v7 ⟨rfl, hb⟩
  have Q7 := (Q6.step ((Below.refl _ _).alloc (Nat.le_refl _) (vcell L162))).step hb
  have U7 := (U6.step ((Below.refl _ _).alloc (Nat.le_refl _) (vcell L162))).step hb
  have D7 : Below w.heap.size w v7 := (D6.alloc (by omega) _).trans (hb.mono (by simp; omega))
  have M7 := Q7.lt
  clear hb nc nf nl N1 n1
  clear sc sf sl pc pf pl
  obtain ⟨sc, sf, sl⟩ := block_cells U7.S
  obtain ⟨pc, pf, pl⟩ := block_cells U7.P
  go_wp2_with fail
  generalize hu : World.alloc _ _ = v8
  have Q8 : CO w.heap.size g x a y b v8 := by rw [← hu]; exact Q7.step ((Below.refl _ _).alloc (Nat.le_refl _) _)
  have U8 : CI bA bB tt (a.and (Vb.ones 16)) (x.and (Vb.ones 16)) v8 := by rw [← hu]; exact U7.step ((Below.refl _ _).alloc (Nat.le_refl _) _)
  have D8 : Below w.heap.size w v8 := by rw [← hu]; exact D7.alloc (by omega) _
  clear hu Q4 Q5 Q6 Q7 U4 U5 U6 U7 D4 D5 D6 D7 M5 M6 M7
  clear sc sf sl pc pf pl
  rw [rounds_succ]
  obtain ⟨tc, tf, tl⟩ := block_cells U8.T
  obtain ⟨sc, sf, sl⟩ := block_cells U8.S
  obtain ⟨pc, pf, pl⟩ := block_cells U8.P
  go_wp2_with fail
  clear tc tf tl
  refine (H163.out.u1 _).mono ?_
  rintro e v9 ⟨rfl, hb⟩
  have Q9 := Q8.step hb
  have U9 := U8.step hb
  have D9 : Below w.heap.size w v9 := D8.trans (hb.mono (by have := Q8.lt; omega))
  have M9 := Q9.lt
  clear hb
  clear sc sf sl pc pf pl
  obtain ⟨sc, sf, sl⟩ := block_cells U9.S
  obtain ⟨pc, pf, pl⟩ := block_cells U9.P
  go_wp2_with fail
  refine (H163.out.u2 _).mono ?_
  rintro e v10 ⟨rfl, hb⟩
  have hN := heap_alloc_new v9 (vcell W163)
  have N1 := (hb.block v9.heap.size (by simp)).trans hN
  have Q10 := (Q9.step ((Below.refl _ _).alloc (Nat.le_refl _) (vcell W163))).step hb
  have U10 := (U9.step ((Below.refl _ _).alloc (Nat.le_refl _) (vcell W163))).step hb
  have D10 : Below w.heap.size w v10 := (D9.alloc (by omega) _).trans (hb.mono (by simp; omega))
  have M10 := Q10.lt
  have n1 : v9.heap.size < v10.heap.size := (Array.getElem?_eq_some_iff.1 N1).1
  clear hb hN
  clear sc sf sl pc pf pl
  obtain ⟨sc, sf, sl⟩ := block_cells U10.S
  obtain ⟨pc, pf, pl⟩ := block_cells U10.P
  obtain ⟨nc, nf, nl⟩ := block_cells N1
  go_wp2_with fail
  refine (H163.out.u3 _).mono ?_
  rintro e v11 ⟨rfl, hb⟩
  have Q11 := (Q10.step ((Below.refl _ _).alloc (Nat.le_refl _) (vcell L163))).step hb
  have U11 := (U10.step ((Below.refl _ _).alloc (Nat.le_refl _) (vcell L163))).step hb
  have D11 : Below w.heap.size w v11 := (D10.alloc (by omega) _).trans (hb.mono (by simp; omega))
  have M11 := Q11.lt
  clear hb nc nf nl N1 n1
  clear sc sf sl pc pf pl
  obtain ⟨sc, sf, sl⟩ := block_cells U11.S
  obtain ⟨pc, pf, pl⟩ := block_cells U11.P
  go_wp2_with fail
  generalize hu : World.alloc _ _ = v12
  have Q12 : CO w.heap.size g x a y b v12 := by rw [← hu]; exact Q11.step ((Below.refl _ _).alloc (Nat.le_refl _) _)
  have U12 : CI bA bB tt (a.and (Vb.ones 16)) (x.and (Vb.ones 16)) v12 := by rw [← hu]; exact U11.step ((Below.refl _ _).alloc (Nat.le_refl _) _)
  have D12 : Below w.heap.size w v12 := by rw [← hu]; exact D11.alloc (by omega) _
  clear hu Q8 Q9 Q10 Q11 U8 U9 U10 U11 D8 D9 D10 D11 M9 M10 M11
  clear sc sf sl pc pf pl
  rw [rounds_succ]
  go_wp2_with fail
  clear U12 K12 B12
  rw [rounds_succ]
  go_wp2_with fail
  obtain ⟨xc, xf, xl⟩ := block_cells Q12.X
  obtain ⟨ac, af, al⟩ := block_cells Q12.A
  have L12 := Q12.lt
  have hj' := hj.out
  rw [hj']
  clear hj'
  refine FlowS.wp_region_store 10 11 12 24 _ (uv 0#32) (uv 0#32) (uv 0#32) (uv 0#32) (uv (sp).a) (uv (sp).b) (uv (sp).c) (uv (sp).d) 24 rfl rfl rfl (fun a w => by kernel_rfl) (by kernel_rfl) (by omega) (by omega) (by kernel_rfl) (by kernel_rfl) (fun R hRc hRt hRo hRs => ?_)
  simp only [List.take_succ_cons, List.take_zero, List.drop_succ_cons, List.drop_zero]
  iterate 12
    first
      | (refine FlowS.flow_make rfl ?_)
      | (refine FlowS.flow_store rfl rfl rfl ?_ ?_; (intro b1 w1 hb; have hzb := hRo.out b1 w1 hb; obtain ⟨hoc, hof, hos⟩ := FlowA.made_cells hzb; clear hzb; simp only [Act.put, List.setIfInBounds_toArray, List.set_cons_zero, List.set_cons_succ]; go_simp; exact hRs.out _ _ hb))
      | refine FlowS.flow_skip rfl rfl rfl ?_
      | (apply FlowS.flow_step; rfl; rfl; rfl; (intro s1 w1 hb; have hc := hRc.out s1 w1 hb; go_simp; (first | with_reducible exact ⟨rfl, hb⟩ | (go_at_call 20; refine (v_c _ _ ).mono ?_; rintro e w2 ⟨rfl, hb2⟩; exact ⟨_, rfl, rfl, hRt.out _ _ _ hb hb2⟩) | (go_at_call 18; refine (G1.out _ ).mono ?_; rintro e w2 ⟨rfl, hb2⟩; exact ⟨_, rfl, rfl, hRt.out _ _ _ hb hb2⟩))))
    simp only [Act.put, List.setIfInBounds_toArray, List.set_cons_zero, List.set_cons_succ]
  apply FlowS.flow_nil
  clear hRc hRt hRo hRs
  intro bS v13 hb hbb hob
  simp only [Act.put, List.setIfInBounds_toArray, List.set_cons_zero, List.set_cons_succ]
  obtain ⟨hc, hf⟩ := Flow.bcell hb
  have hz := hb.size
  (try simp only [World.size_alloc, World.size_setCell, World.size_drew] at hz)
  (try simp only [World.size_alloc, World.size_setCell, World.size_drew] at hbb)
  have Q13 := Q12.step hb
  have S13 : v13.heap[bS]? = some (vcell sp) := hob
  have D13 : Below w.heap.size w v13 := D12.trans (hb.mono (by omega))
  have L13 := Q13.lt
  clear hb hob hbb hc hf hz xc xf xl ac af al Q12 D12 L12
  obtain ⟨xc, xf, xl⟩ := block_cells Q13.X
  obtain ⟨sc, sf, sl⟩ := block_cells S13
  go_wp2_with fail
  refine (G2.out _).mono ?_
  rintro e v14 ⟨rfl, hb⟩
  have Q14 := Q13.step hb
  have D14 : Below w.heap.size w v14 := D13.trans (hb.mono (by omega))
  have L14 := Q14.lt
  clear hb xc xf xl sc sf sl S13 Q13 D13 L13
  go_wp2_with fail
  generalize hu : World.alloc _ _ = v15
  have O15 : v15.heap[v14.heap.size]? = some (vcell (V.word a.a)) := by rw [← hu]; exact heap_alloc_new v14 _
  have Q15 : CO w.heap.size g x a y b v15 := by rw [← hu]; exact Q14.step ((Below.refl _ _).alloc (Nat.le_refl _) _)
  have D15 : Below w.heap.size w v15 := by rw [← hu]; exact D14.alloc (by omega) _
  have L15 := Q15.lt
  clear hu Q14 D14 L14
  generalize v14.heap.size = bO at *
  obtain ⟨ac, af, al⟩ := block_cells Q15.A
  obtain ⟨oc, of, ol⟩ := block_cells O15
  refine Flow.wp_region_below 12 (by kernel_rfl) (by kernel_rfl) (fun R hRc hRt => ?_)
  simp only [List.take_succ_cons, List.take_zero, List.drop_succ_cons, List.drop_zero]
  iterate 12
    first
      | refine Flow.flow_skip rfl ?_
      | (apply Flow.flow_step; rfl; (intro w1 hb; have hc := hRc.out w1 hb; go_simp; (first | with_reducible exact ⟨rfl, hb⟩ | (go_at_call 20; refine (v_c _ _ ).mono ?_; rintro e w2 ⟨rfl, hb2⟩; exact ⟨_, rfl, rfl, hRt.out _ _ hb hb2⟩))))
      | (apply Flow.flow_guardT rfl rfl rfl; (intro hg w1 hb; have hc := hRc.out w1 hb; go_simp; (first | with_reducible exact ⟨rfl, hb⟩ | (go_at_call 20; refine (v_c _ _ ).mono ?_; rintro e w2 ⟨rfl, hb2⟩; exact ⟨_, rfl, rfl, hRt.out _ _ hb hb2⟩))))
      | (apply Flow.flow_guardF rfl rfl rfl; (intro hg w1 hb; have hc := hRc.out w1 hb; go_simp; (first | with_reducible exact ⟨rfl, hb⟩ | (go_at_call 20; refine (v_c _ _ ).mono ?_; rintro e w2 ⟨rfl, hb2⟩; exact ⟨_, rfl, rfl, hRt.out _ _ hb hb2⟩))))
      | (apply Flow.flow_guardT2 rfl rfl rfl; (intro hp hg w1 hb; have hc := hRc.out w1 hb; go_simp; (first | with_reducible exact ⟨rfl, hb⟩ | (go_at_call 20; refine (v_c _ _ ).mono ?_; rintro e w2 ⟨rfl, hb2⟩; exact ⟨_, rfl, rfl, hRt.out _ _ hb hb2⟩))))
      | (apply Flow.flow_guardF2 rfl rfl rfl; (intro hp hg w1 hb; have hc := hRc.out w1 hb; go_simp; (first | with_reducible exact ⟨rfl, hb⟩ | (go_at_call 20; refine (v_c _ _ ).mono ?_; rintro e w2 ⟨rfl, hb2⟩; exact ⟨_, rfl, rfl, hRt.out _ _ hb hb2⟩))))
    simp only [Act.put, List.setIfInBounds_toArray, List.set_cons_zero, List.set_cons_succ]
  apply Flow.flow_nil
  clear hRc hRt
  intro w1 hb
  obtain ⟨hc, hf⟩ := Flow.bcell hb
  have hz := hb.size
  (try simp only [World.size_alloc, World.size_setCell, World.size_drew] at hz)
  have Q16 := Q15.step hb
  have D16 : Below w.heap.size w w1 := D15.trans (hb.mono (by omega))
  clear hb hc hf hz ac af al oc of ol O15 Q15 D15 L15
  have L16 := Q16.lt
  obtain ⟨v16, hv⟩ : ∃ v, v = w1 := ⟨_, rfl⟩
  subst hv
  go_wp2_with fail
  obtain ⟨xc, xf, xl⟩ := block_cells Q16.X
  obtain ⟨ac, af, al⟩ := block_cells Q16.A
  obtain ⟨yc, yf, yl⟩ := block_cells Q16.Y
  obtain ⟨bc, bf, bl⟩ := block_cells Q16.B
  refine FlowS.wp_region_store 13 14 15 28 _ (uv 0#32) (uv 0#32) (uv 0#32) (uv 0#32) (uv (pt).a) (uv (pt).b) (uv (pt).c) (uv (pt).d) 24 rfl rfl rfl (fun a w => by kernel_rfl) (by kernel_rfl) (by omega) (by omega) (by kernel_rfl) (by kernel_rfl) (fun R hRc hRt hRo hRs => ?_)
  simp only [List.take_succ_cons, List.take_zero, List.drop_succ_cons, List.drop_zero]
  iterate 15
    first
      | (refine FlowS.flow_make rfl ?_)
      | (refine FlowS.flow_store rfl rfl rfl ?_ ?_; (intro b1 w1 hb; have hzb := hRo.out b1 w1 hb; obtain ⟨hoc, hof, hos⟩ := FlowA.made_cells hzb; clear hzb; simp only [Act.put, List.setIfInBounds_toArray, List.set_cons_zero, List.set_cons_succ]; go_simp; exact hRs.out _ _ hb))
      | refine FlowS.flow_skip rfl rfl rfl ?_
      | (apply FlowS.flow_step; rfl; rfl; rfl; (intro s1 w1 hb; have hc := hRc.out s1 w1 hb; go_simp; (first | with_reducible exact ⟨rfl, hb⟩ | (go_at_call 20; refine (v_c _ _ ).mono ?_; rintro e w2 ⟨rfl, hb2⟩; exact ⟨_, rfl, rfl, hRt.out _ _ _ hb hb2⟩) | (go_at_call 21; refine (G3.out _ ).mono ?_; rintro e w2 ⟨rfl, hb2⟩; exact ⟨_, rfl, rfl, hRt.out _ _ _ hb hb2⟩))))
    simp only [Act.put, List.setIfInBounds_toArray, List.set_cons_zero, List.set_cons_succ]
  apply FlowS.flow_nil
  clear hRc hRt hRo hRs
  intro bP v17 hb hbb hob
  simp only [Act.put, List.setIfInBounds_toArray, List.set_cons_zero, List.set_cons_succ]
  obtain ⟨hc, hf⟩ := Flow.bcell hb
  have hz := hb.size
  (try simp only [World.size_alloc, World.size_setCell, World.size_drew] at hz)
  (try simp only [World.size_alloc, World.size_setCell, World.size_drew] at hbb)
  have Q17 := Q16.step hb
  have P17 : v17.heap[bP]? = some (vcell pt) := hob
  have D17 : Below w.heap.size w v17 := D16.trans (hb.mono (by omega))
  have L17 := Q17.lt
  clear hb hob hbb hc hf hz xc xf xl ac af al yc yf yl bc bf bl Q16 D16 L16
  go_wp2_with fail
  obtain ⟨xc, xf, xl⟩ := block_cells Q17.X
  obtain ⟨yc, yf, yl⟩ := block_cells Q17.Y
  refine FlowS.wp_region_store 9 10 11 29 _ (uv 0#32) (uv 0#32) (uv 0#32) (uv 0#32) (uv (wt).a) (uv (wt).b) (uv (wt).c) (uv (wt).d) 24 rfl rfl rfl (fun a w => by kernel_rfl) (by kernel_rfl) (by omega) (by omega) (by kernel_rfl) (by kernel_rfl) (fun R hRc hRt hRo hRs => ?_)
  simp only [List.take_succ_cons, List.take_zero, List.drop_succ_cons, List.drop_zero]
  iterate 11
    first
      | (refine FlowS.flow_make rfl ?_)
      | (refine FlowS.flow_store rfl rfl rfl ?_ ?_; (intro b1 w1 hb; have hzb := hRo.out b1 w1 hb; obtain ⟨hoc, hof, hos⟩ := FlowA.made_cells hzb; clear hzb; simp only [Act.put, List.setIfInBounds_toArray, List.set_cons_zero, List.set_cons_succ]; go_simp; exact hRs.out _ _ hb))
      | refine FlowS.flow_skip rfl rfl rfl ?_
      | (apply FlowS.flow_step; rfl; rfl; rfl; (intro s1 w1 hb; have hc := hRc.out s1 w1 hb; go_simp; (first | with_reducible exact ⟨rfl, hb⟩ | (go_at_call 20; refine (v_c _ _ ).mono ?_; rintro e w2 ⟨rfl, hb2⟩; exact ⟨_, rfl, rfl, hRt.out _ _ _ hb hb2⟩) | (go_at_call 22; refine (G4.out _ ).mono ?_; rintro e w2 ⟨rfl, hb2⟩; exact ⟨_, rfl, rfl, hRt.out _ _ _ hb hb2⟩))))
    simp only [Act.put, List.setIfInBounds_toArray, List.set_cons_zero, List.set_cons_succ]
  apply FlowS.flow_nil
  clear hRc hRt hRo hRs
  intro bW v18 hb hbb hob
  simp only [Act.put, List.setIfInBounds_toArray, List.set_cons_zero, List.set_cons_succ]
  obtain ⟨hc, hf⟩ := Flow.bcell hb
  have hz := hb.size
  (try simp only [World.size_alloc, World.size_setCell, World.size_drew] at hz)
  (try simp only [World.size_alloc, World.size_setCell, World.size_drew] at hbb)
  have Q18 := Q17.step hb
  have P18 : v18.heap[bP]? = some (vcell pt) := (hb.block _ (Array.getElem?_eq_some_iff.1 P17).1).trans P17
  have W18 : v18.heap[bW]? = some (vcell wt) := hob
  have D18 : Below w.heap.size w v18 := D17.trans (hb.mono (by omega))
  have L18 := Q18.lt
  clear hb hob hbb hc hf hz xc xf xl yc yf yl P17 Q17 D17 L17
  obtain ⟨pc, pf, pl⟩ := block_cells P18
  obtain ⟨sc, sf, sl⟩ := block_cells W18
  go_wp2_with fail
  refine (G5.out _).mono ?_
  rintro e v19 ⟨rfl, hb⟩
  have Q19 := Q18.step hb
  have D19 : Below w.heap.size w v19 := D18.trans (hb.mono (by omega))
  have L19 := Q19.lt
  clear hb pc pf pl sc sf sl P18 W18 Q18 D18 L18
  go_wp2_with fail
  generalize hu : World.alloc _ _ = v20
  have O20 : v20.heap[v19.heap.size]? = some (vcell (V.word b.a)) := by rw [← hu]; exact heap_alloc_new v19 _
  have Q20 : CO w.heap.size g x a y b v20 := by rw [← hu]; exact Q19.step ((Below.refl _ _).alloc (Nat.le_refl _) _)
  have D20 : Below w.heap.size w v20 := by rw [← hu]; exact D19.alloc (by omega) _
  have L20 := Q20.lt
  clear hu Q19 D19 L19
  generalize v19.heap.size = bG at *
  obtain ⟨bc, bf, bl⟩ := block_cells Q20.B
  obtain ⟨oc, of, ol⟩ := block_cells O20
  refine Flow.wp_region_below 12 (by kernel_rfl) (by kernel_rfl) (fun R hRc hRt => ?_)
  simp only [List.take_succ_cons, List.take_zero, List.drop_succ_cons, List.drop_zero]
  iterate 12
    first
      | refine Flow.flow_skip rfl ?_
      | (apply Flow.flow_step; rfl; (intro w1 hb; have hc := hRc.out w1 hb; go_simp; (first | with_reducible exact ⟨rfl, hb⟩ | (go_at_call 20; refine (v_c _ _ ).mono ?_; rintro e w2 ⟨rfl, hb2⟩; exact ⟨_, rfl, rfl, hRt.out _ _ hb hb2⟩))))
      | (apply Flow.flow_guardT rfl rfl rfl; (intro hg w1 hb; have hc := hRc.out w1 hb; go_simp; (first | with_reducible exact ⟨rfl, hb⟩ | (go_at_call 20; refine (v_c _ _ ).mono ?_; rintro e w2 ⟨rfl, hb2⟩; exact ⟨_, rfl, rfl, hRt.out _ _ hb hb2⟩))))
      | (apply Flow.flow_guardF rfl rfl rfl; (intro hg w1 hb; have hc := hRc.out w1 hb; go_simp; (first | with_reducible exact ⟨rfl, hb⟩ | (go_at_call 20; refine (v_c _ _ ).mono ?_; rintro e w2 ⟨rfl, hb2⟩; exact ⟨_, rfl, rfl, hRt.out _ _ hb hb2⟩))))
      | (apply Flow.flow_guardT2 rfl rfl rfl; (intro hp hg w1 hb; have hc := hRc.out w1 hb; go_simp; (first | with_reducible exact ⟨rfl, hb⟩ | (go_at_call 20; refine (v_c _ _ ).mono ?_; rintro e w2 ⟨rfl, hb2⟩; exact ⟨_, rfl, rfl, hRt.out _ _ hb hb2⟩))))
      | (apply Flow.flow_guardF2 rfl rfl rfl; (intro hp hg w1 hb; have hc := hRc.out w1 hb; go_simp; (first | with_reducible exact ⟨rfl, hb⟩ | (go_at_call 20; refine (v_c _ _ ).mono ?_; rintro e w2 ⟨rfl, hb2⟩; exact ⟨_, rfl, rfl, hRt.out _ _ hb hb2⟩))))
    simp only [Act.put, List.setIfInBounds_toArray, List.set_cons_zero, List.set_cons_succ]
  apply Flow.flow_nil
  clear hRc hRt
  intro w1 hb
  obtain ⟨hc, hf⟩ := Flow.bcell hb
  have hz := hb.size
  (try simp only [World.size_alloc, World.size_setCell, World.size_drew] at hz)
  have Q21 := Q20.step hb
  have D21 : Below w.heap.size w w1 := D20.trans (hb.mono (by omega))
  clear hb hc hf hz bc bf bl oc of ol O20 Q20 D20 L20
  have L21 := Q21.lt
  obtain ⟨v21, hv⟩ : ∃ v, v = w1 := ⟨_, rfl⟩
  subst hv
  go_wp2_with fail
  obtain ⟨xc, xf, xl⟩ := block_cells Q21.X
  obtain ⟨ac, af, al⟩ := block_cells Q21.A
  refine FlowS.wp_region_store 15 16 17 32 _ (uv 0#32) (uv 0#32) (uv 0#32) (uv 0#32) (uv (a).a) (uv (a).b) (uv (a).c) (uv (a).d) 24 rfl rfl rfl (fun a w => by kernel_rfl) (by kernel_rfl) (by omega) (by omega) (by kernel_rfl) (by kernel_rfl) (fun R hRc hRt hRo hRs => ?_)
  simp only [List.take_succ_cons, List.take_zero, List.drop_succ_cons, List.drop_zero]
  iterate 17
    first
      | (refine FlowS.flow_make rfl ?_)
      | (refine FlowS.flow_store rfl rfl rfl ?_ ?_; (intro b1 w1 hb; have hzb := hRo.out b1 w1 hb; obtain ⟨hoc, hof, hos⟩ := FlowA.made_cells hzb; clear hzb; simp only [Act.put, List.setIfInBounds_toArray, List.set_cons_zero, List.set_cons_succ]; go_simp; exact hRs.out _ _ hb))
      | refine FlowS.flow_skip rfl rfl rfl ?_
      | (apply FlowS.flow_step; rfl; rfl; rfl; (intro s1 w1 hb; have hc := hRc.out s1 w1 hb; go_simp; (first | with_reducible exact ⟨rfl, hb⟩ | (go_at_call 20; refine (v_c _ _ ).mono ?_; rintro e w2 ⟨rfl, hb2⟩; exact ⟨_, rfl, rfl, hRt.out _ _ _ hb hb2⟩) | (go_at_call 21; refine (G6.out _ ).mono ?_; rintro e w2 ⟨rfl, hb2⟩; exact ⟨_, rfl, rfl, hRt.out _ _ _ hb hb2⟩))))
    simp only [Act.put, List.setIfInBounds_toArray, List.set_cons_zero, List.set_cons_succ]
  apply FlowS.flow_nil
  clear hRc hRt hRo hRs
  intro bE v22 hb hbb hob
  simp only [Act.put, List.setIfInBounds_toArray, List.set_cons_zero, List.set_cons_succ]
  obtain ⟨hc, hf⟩ := Flow.bcell hb
  have hz := hb.size
  (try simp only [World.size_alloc, World.size_setCell, World.size_drew] at hz)
  (try simp only [World.size_alloc, World.size_setCell, World.size_drew] at hbb)
  have Q22 := Q21.step hb
  have E22 : v22.heap[bE]? = some (vcell a) := hob
  have D22 : Below w.heap.size w v22 := D21.trans (hb.mono (by omega))
  have L22 := Q22.lt
  clear hb hob hbb hc hf hz xc xf xl ac af al Q21 D21 L21
  obtain ⟨ac, af, al⟩ := block_cells Q22.A
  obtain ⟨sc, sf, sl⟩ := block_cells E22
  go_wp2_with fail
  go_ret
  exact ⟨rfl, D22⟩

set_option maxRecDepth 100000 in
set_option maxHeartbeats 16000000 in
theorem conv_w2 (HS : Hid SaneC) (x a y b : V) (k : Int) (W82 L82 W83 L83 W162 L162 W163 L163 : V) (H82 : Hid (ConvH x a 8 2 W82 L82)) (H83 : Hid (ConvH x a 8 3 W83 L83)) (H162 : Hid (ConvH x a 16 2 W162 L162)) (H163 : Hid (ConvH x a 16 3 W163 L163)) (hj : Hid (wrap64 ((IntKind.u64.wrap k).tmod 4) = 2)) (sp pt wt : V)
    (G1 : Hid (∀ w, Calls Tryz.prog 18 #[iv 11, iv 32, iv 128, iv 0, vv (V.word x.a), vv (V.word a.a)] w fun e w' => e = .returned (.tuple #[vv sp, iv 0]) ∧ Below w.heap.size w w'))
    (G2 : Hid (∀ w, Calls Tryz.prog 18 #[iv 12, iv 128, iv 32, iv 2, vv ⟨x.a, x.a, x.a, x.a⟩, vv sp] w fun e w' => e = .returned (.tuple #[vv (V.word a.a), iv 0]) ∧ Below w.heap.size w w'))
    (G3 : Hid (∀ w, Calls Tryz.prog 21 #[iv 30, iv 128, iv 2, vv x, vv a, vv (V.word y.a), vv (V.word b.a)] w fun e w' => e = .returned (.tuple #[vv pt, iv 0]) ∧ Below w.heap.size w w'))
    (G4 : Hid (∀ w, Calls Tryz.prog 22 #[iv 30, iv 128, iv 2, vv x, vv (V.word y.a)] w fun e w' => e = .returned (.tuple #[vv wt, .bool true]) ∧ Below w.heap.size w w'))
    (G5 : Hid (∀ w, Calls Tryz.prog 18 #[iv 12, iv 128, iv 32, iv 2, vv wt, vv pt] w fun e w' => e = .returned (.tuple #[vv (V.word b.a), iv 0]) ∧ Below w.heap.size w w'))
    (G6 : Hid (∀ w, Calls Tryz.prog 21 #[iv 30, iv 128, iv 2, vv x, vv a, vv (V.word x.c), vv (V.word a.c)] w fun e w' => e = .returned (.tuple #[vv a, iv 0]) ∧ Below w.heap.size w w'))
    (w : World) :
    Calls Tryz.prog 4 #[vv x, vv a, vv y, vv b, iv k] w fun e w' => e = .returned (.bool true) ∧ Below w.heap.size w w' := by
  obtain ⟨X0, A0, Y0, D0⟩ := heap_alloc4 w (vcell x) (vcell a) (vcell y) (vcell b)
  go_enter Tryz.func4, Tryz.ntmps4
  go_wp2_with fail
  (refine (HS.out _ ).mono ?_; rintro e u1 ⟨rfl, hb⟩; obtain ⟨hc, hf⟩ := Flow.bcell hb; have hz := hb.size; (try simp only [World.size_alloc, World.size_setCell, World.size_drew] at hz))
  have hz1 : w.heap.size + 4 ≤ u1.heap.size := by have := hb.size; simp only [World.size_alloc] at this; omega
  have X1 := (hb.block w.heap.size (by simp <;> omega)).trans X0
  have A1 := (hb.block (w.heap.size + 1) (by simp <;> omega)).trans A0
  have Y1 := (hb.block (w.heap.size + 1 + 1) (by simp <;> omega)).trans Y0
  have D1 := (hb.block (w.heap.size + 1 + 1 + 1) (by simp)).trans D0
  have B1 : Below w.heap.size w u1 := by (repeat (first | exact Below.refl _ _ | refine Below.setCell ?_ (by first | omega | (simp <;> omega)) _ | refine Below.alloc ?_ (by first | omega | (simp <;> omega)) _ | refine Below.drew ?_ | refine Below.trans ?_ (Below.mono (by assumption) (by first | omega | (simp <;> omega)))))
  clear X0 A0 Y0 D0 hb hc hf
  go_wp2_with fail
  generalize hu : World.alloc _ _ = v0
  have K0 : CO w.heap.size u1.heap.size x a y b v0 := by
    rw [← hu]
    exact ⟨(Below.heap_alloc u1 _ _ (by omega)).trans X1, (Below.heap_alloc u1 _ _ (by omega)).trans A1, (Below.heap_alloc u1 _ _ (by omega)).trans Y1, (Below.heap_alloc u1 _ _ (by omega)).trans D1, heap_alloc_new u1 _⟩
  have B0 : Below w.heap.size w v0 := by rw [← hu]; exact B1.alloc (by omega) _
  clear hu X1 A1 Y1 D1 B1 hz
  generalize u1.heap.size = g at *
  refine wp_loop_rounds 3 ?_
  rw [rounds_succ]
  obtain ⟨xc, xf, xl⟩ := block_cells K0.X
  obtain ⟨ac, af, al⟩ := block_cells K0.A
  obtain ⟨gc, gf, gl⟩ := block_cells K0.G
  go_wp2_with fail
  refine FlowZ.wp_region_vars 10 8 9 13 14 (vcell V.zero) (vcell V.zero) (by kernel_rfl) (by kernel_rfl) (by kernel_rfl) (fun X hXc hXt hsp hA hB => ?_)
  simp only [List.take_succ_cons, List.take_zero, List.drop_succ_cons, List.drop_zero]
  iterate 10
    first
      | (refine FlowZ.flow_sp hsp rfl (hA.out _ _ rfl (fun w1 => ?_)) ?_; go_simp)
      | (refine FlowZ.flow_sp hsp rfl (hB.out _ _ rfl (fun w1 => ?_)) ?_; go_simp)
      | (apply FlowZ.flow_step hsp; rfl; rfl; (intro s1 w1 hb; have hc := hXc.out s1 w1 hb; go_simp; (first | with_reducible exact ⟨rfl, hb⟩ | with_reducible exact rfl | (go_at_call 17; refine (rones_c _ _).mono ?_; rintro e w2 ⟨rfl, hb2⟩; exact ⟨_, rfl, rfl, hXt.out _ _ _ hb hb2⟩) | (go_at_call 15; refine (rand_c _ _ _).mono ?_; rintro e w2 ⟨rfl, hb2⟩; exact ⟨_, rfl, rfl, hXt.out _ _ _ hb hb2⟩))))
    (try simp only [Act.put, List.setIfInBounds_toArray, List.set_cons_zero, List.set_cons_succ])
  apply FlowZ.flow_nil
  clear hXc hXt hsp hA hB xc xf xl ac af al gc gf gl
  intro bA bB v1 hb hbA hbB hne hoA hoB
  simp only [Act.put, List.setIfInBounds_toArray, List.set_cons_zero, List.set_cons_succ]
  have L0 := K0.lt
  have J1 := K0.step hb
  have C1 : Below w.heap.size w v1 := B0.trans (hb.mono (by omega))
  have kA1 : w.heap.size + 1 + 1 + 1 < bA := by omega
  have kA2 : g < bA := by omega
  have kB1 : w.heap.size + 1 + 1 + 1 < bB := by omega
  have kB2 : g < bB := by omega
  clear hb
  obtain ⟨v2, e2, O2, S2⟩ := store4 hoA 0 1 2 3 (uv (a.and (Vb.ones 8)).a) (uv (a.and (Vb.ones 8)).b) (uv (a.and (Vb.ones 8)).c) (uv (a.and (Vb.ones 8)).d)
  have J2 := J1.store S2 kA1 kA2
  have P2 := (S2.other bB (fun h => hne h.symm)).trans hoB
  have C2 : Below w.heap.size w v2 := C1.trans (S2.below _ (by omega))
  replace O2 : v2.heap[bA]? = some (vcell (a.and (Vb.ones 8))) := O2
  obtain ⟨v3, e3, O3, S3⟩ := store4 P2 0 1 2 3 (uv (x.and (Vb.ones 8)).a) (uv (x.and (Vb.ones 8)).b) (uv (x.and (Vb.ones 8)).c) (uv (x.and (Vb.ones 8)).d)
  have J3 := J2.store S3 kB1 kB2
  have O4 := (S3.other bA hne).trans O2
  have C3 : Below w.heap.size w v3 := C2.trans (S3.below _ (by omega))
  replace O3 : v3.heap[bB]? = some (vcell (x.and (Vb.ones 8))) := O3
  obtain ⟨sc, sf, sl⟩ := block_cells hoA
  obtain ⟨pc, pf, pl⟩ := block_cells P2
  have lA : bA < v3.heap.size := (Array.getElem?_eq_some_iff.1 O4).1
  have lB : bB < v3.heap.size := (Array.getElem?_eq_some_iff.1 O3).1
  have L3 := J3.lt
  clear S2 S3
  go_wp2_with fail
  generalize hu : World.alloc _ _ = v4
  have Q4 : CO w.heap.size g x a y b v4 := by rw [← hu]; exact J3.step (((Below.refl _ _).alloc (Nat.le_refl _) _))
  have U4 : CI bA bB v3.heap.size (a.and (Vb.ones 8)) (x.and (Vb.ones 8)) v4 := by
    rw [← hu]
    exact ⟨(Below.heap_alloc v3 _ _ lA).trans O4, (Below.heap_alloc v3 _ _ lB).trans O3, heap_alloc_new v3 _⟩
  have D4 : Below w.heap.size w v4 := by rw [← hu]; exact C3.alloc (by omega) _
  have kt : v3.heap.size < v4.heap.size := by rw [← hu]; simp
  clear hu e2 e3 sc sf sl pc pf pl J1 J2 J3 C1 C2 C3 O2 O3 O4 P2 hoA hoB
  generalize v3.heap.size = tt at *
  refine wp_loop_rounds 3 ?_
  rw [rounds_succ]
  obtain ⟨tc, tf, tl⟩ := block_cells U4.T
  obtain ⟨sc, sf, sl⟩ := block_cells U4.S
  obtain ⟨pc, pf, pl⟩ := block_cells U4.P
  go_wp2_with fail
  clear tc tf tl
  refine (H82.out.u1 _).mono ?_
  rintro e v5 ⟨rfl, hb⟩
  have Q5 := Q4.step hb
  have U5 := U4.step hb
  have D5 : Below w.heap.size w v5 := D4.trans (hb.mono (by have := Q4.lt; omega))
  have M5 := Q5.lt
  clear hb
  clear sc sf sl pc pf pl
  obtain ⟨sc, sf, sl⟩ := block_cells U5.S
  obtain ⟨pc, pf, pl⟩ := block_cells U5.P
  go_wp2_with fail
  refine (H82.out.u2 _).mono ?_
  rintro e v6 ⟨rfl, hb⟩
  have hN := heap_alloc_new v5 (vcell W82)
  have N1 := (hb.block v5.heap.size (by simp)).trans hN
  have Q6 := (Q5.step ((Below.refl _ _).alloc (Nat.le_refl _) (vcell W82))).step hb
  have U6 := (U5.step ((Below.refl _ _).alloc (Nat.le_refl _) (vcell W82))).step hb
  have D6 : Below w.heap.size w v6 := (D5.alloc (by omega) _).trans (hb.mono (by simp; omega))
  have M6 := Q6.lt
  have n1 : v5.heap.size < v6.heap.size := (Array.getElem?_eq_some_iff.1 N1).1
  clear hb hN
  clear sc sf sl pc pf pl
  obtain ⟨sc, sf, sl⟩ := block_cells U6.S
  obtain ⟨pc, pf, pl⟩ := block_cells U6.P
  obtain ⟨nc, nf, nl⟩ := block_cells N1
  go_wp2_with fail
  refine (H82.out.u3 _).mono ?_
  rintro e v7 ⟨rfl, hb⟩
  have Q7 := (Q6.step ((Below.refl _ _).alloc (Nat.le_refl _) (vcell L82))).step hb
  have U7 := (U6.step ((Below.refl _ _).alloc (Nat.le_refl _) (vcell L82))).step hb
  have D7 : Below w.heap.size w v7 := (D6.alloc (by omega) _).trans (hb.mono (by simp; omega))
  have M7 := Q7.lt
  clear hb nc nf nl N1 n1
  clear sc sf sl pc pf pl
  obtain ⟨sc, sf, sl⟩ := block_cells U7.S
  obtain ⟨pc, pf, pl⟩ := block_cells U7.P
  go_wp2_with fail
  generalize hu : World.alloc _ _ = v8
  have Q8 : CO w.heap.size g x a y b v8 := by rw [← hu]; exact Q7.step ((Below.refl _ _).alloc (Nat.le_refl _) _)
  have U8 : CI bA bB tt (a.and (Vb.ones 8)) (x.and (Vb.ones 8)) v8 := by rw [← hu]; exact U7.step ((Below.refl _ _).alloc (Nat.le_refl _) _)
  have D8 : Below w.heap.size w v8 := by rw [← hu]; exact D7.alloc (by omega) _
  clear hu Q4 Q5 Q6 Q7 U4 U5 U6 U7 D4 D5 D6 D7 M5 M6 M7
  clear sc sf sl pc pf pl
  rw [rounds_succ]
  obtain ⟨tc, tf, tl⟩ := block_cells U8.T
  obtain ⟨sc, sf, sl⟩ := block_cells U8.S
  obtain ⟨pc, pf, pl⟩ := block_cells U8.P
  go_wp2_with fail
  clear tc tf tl
  refine (H83.out.u1 _).mono ?_
  rintro e v9 ⟨rfl, hb⟩
  have Q9 := Q8.step hb
  have U9 := U8.step hb
  have D9 : Below w.heap.size w v9 := D8.trans (hb.mono (by have := Q8.lt; omega))
  have M9 := Q9.lt
  clear hb
  clear sc sf sl pc pf pl
  obtain ⟨sc, sf, sl⟩ := block_cells U9.S
  obtain ⟨pc, pf, pl⟩ := block_cells U9.P
  go_wp2_with fail
  refine (H83.out.u2 _).mono ?_
  rintro e v10 ⟨rfl, hb⟩
  have hN := heap_alloc_new v9 (vcell W83)
  have N1 := (hb.block v9.heap.size (by simp)).trans hN
  have Q10 := (Q9.step ((Below.refl _ _).alloc (Nat.le_refl _) (vcell W83))).step hb
  have U10 := (U9.step ((Below.refl _ _).alloc (Nat.le_refl _) (vcell W83))).step hb
  have D10 : Below w.heap.size w v10 := (D9.alloc (by omega) _).trans (hb.mono (by simp; omega))
  have M10 := Q10.lt
  have n1 : v9.heap.size < v10.heap.size := (Array.getElem?_eq_some_iff.1 N1).1
  clear hb hN
  clear sc sf sl pc pf pl
  obtain ⟨sc, sf, sl⟩ := block_cells U10.S
  obtain ⟨pc, pf, pl⟩ := block_cells U10.P
  obtain ⟨nc, nf, nl⟩ := block_cells N1
  go_wp2_with fail
  refine (H83.out.u3 _).mono ?_
  rintro e v11 ⟨rfl, hb⟩
  have Q11 := (Q10.step ((Below.refl _ _).alloc (Nat.le_refl _) (vcell L83))).step hb
  have U11 := (U10.step ((Below.refl _ _).alloc (Nat.le_refl _) (vcell L83))).step hb
  have D11 : Below w.heap.size w v11 := (D10.alloc (by omega) _).trans (hb.mono (by simp; omega))
  have M11 := Q11.lt
  clear hb nc nf nl N1 n1
  clear sc sf sl pc pf pl
  obtain ⟨sc, sf, sl⟩ := block_cells U11.S
  obtain ⟨pc, pf, pl⟩ := block_cells U11.P
  go_wp2_with fail
  generalize hu : World.alloc _ _ = v12
  have Q12 : CO w.heap.size g x a y b v12 := by rw [← hu]; exact Q11.step ((Below.refl _ _).alloc (Nat.le_refl _) _)
  have U12 : CI bA bB tt (a.and (Vb.ones 8)) (x.and (Vb.ones 8)) v12 := by rw [← hu]; exact U11.step ((Below.refl _ _).alloc (Nat.le_refl _) _)
  have D12 : Below w.heap.size w v12 := by rw [← hu]; exact D11.alloc (by omega) _
  clear hu Q8 Q9 Q10 Q11 U8 U9 U10 U11 D8 D9 D10 D11 M9 M10 M11
  clear sc sf sl pc pf pl
  rw [rounds_succ]
  go_wp2_with fail
  have K12 := Q12
  have B12 := D12
  clear Q12 U12 D12 K0 B0
  rw [rounds_succ]
  obtain ⟨xc, xf, xl⟩ := block_cells K12.X
  obtain ⟨ac, af, al⟩ := block_cells K12.A
  obtain ⟨gc, gf, gl⟩ := block_cells K12.G
  go_wp2_with fail
  refine FlowZ.wp_region_vars 10 8 9 13 14 (vcell V.zero) (vcell V.zero) (by kernel_rfl) (by kernel_rfl) (by kernel_rfl) (fun X hXc hXt hsp hA hB => ?_)
  simp only [List.take_succ_cons, List.take_zero, List.drop_succ_cons, List.drop_zero]
  iterate 10
    first
      | (refine FlowZ.flow_sp hsp rfl (hA.out _ _ rfl (fun w1 => ?_)) ?_; go_simp)
      | (refine FlowZ.flow_sp hsp rfl (hB.out _ _ rfl (fun w1 => ?_)) ?_; go_simp)
      | (apply FlowZ.flow_step hsp; rfl; rfl; (intro s1 w1 hb; have hc := hXc.out s1 w1 hb; go_simp; (first | with_reducible exact ⟨rfl, hb⟩ | with_reducible exact rfl | (go_at_call 17; refine (rones_c _ _).mono ?_; rintro e w2 ⟨rfl, hb2⟩; exact ⟨_, rfl, rfl, hXt.out _ _ _ hb hb2⟩) | (go_at_call 15; refine (rand_c _ _ _).mono ?_; rintro e w2 ⟨rfl, hb2⟩; exact ⟨_, rfl, rfl, hXt.out _ _ _ hb hb2⟩))))
    (try simp only [Act.put, List.setIfInBounds_toArray, List.set_cons_zero, List.set_cons_succ])
  apply FlowZ.flow_nil
  clear hXc hXt hsp hA hB xc xf xl ac af al gc gf gl
  intro bA bB v1 hb hbA hbB hne hoA hoB
  simp only [Act.put, List.setIfInBounds_toArray, List.set_cons_zero, List.set_cons_succ]
  have L12 := K12.lt
  have J1 := K12.step hb
  have C1 : Below w.heap.size w v1 := B12.trans (hb.mono (by omega))
  have kA1 : w.heap.size + 1 + 1 + 1 < bA := by omega
  have kA2 : g < bA := by omega
  have kB1 : w.heap.size + 1 + 1 + 1 < bB := by omega
  have kB2 : g < bB := by omega
  clear hb
  obtain ⟨v2, e2, O2, S2⟩ := store4 hoA 0 1 2 3 (uv (a.and (Vb.ones 16)).a) (uv (a.and (Vb.ones 16)).b) (uv (a.and (Vb.ones 16)).c) (uv (a.and (Vb.ones 16)).d)
  have J2 := J1.store S2 kA1 kA2
  have P2 := (S2.other bB (fun h => hne h.symm)).trans hoB
  have C2 : Below w.heap.size w v2 := C1.trans (S2.below _ (by omega))
  replace O2 : v2.heap[bA]? = some (vcell (a.and (Vb.ones 16))) := O2
  obtain ⟨v3, e3, O3, S3⟩ := store4 P2 0 1 2 3 (uv (x.and (Vb.ones 16)).a) (uv (x.and (Vb.ones 16)).b) (uv (x.and (Vb.ones 16)).c) (uv (x.and (Vb.ones 16)).d)
  have J3 := J2.store S3 kB1 kB2
  have O4 := (S3.other bA hne).trans O2
  have C3 : Below w.heap.size w v3 := C2.trans (S3.below _ (by omega))
  replace O3 : v3.heap[bB]? = some (vcell (x.and (Vb.ones 16))) := O3
  obtain ⟨sc, sf, sl⟩ := block_cells hoA
  obtain ⟨pc, pf, pl⟩ := block_cells P2
  have lA : bA < v3.heap.size := (Array.getElem?_eq_some_iff.1 O4).1
  have lB : bB < v3.heap.size := (Array.getElem?_eq_some_iff.1 O3).1
  have L3 := J3.lt
  clear S2 S3
  go_wp2_with fail
  generalize hu : World.alloc _ _ = v4
  have Q4 : CO w.heap.size g x a y b v4 := by rw [← hu]; exact J3.step (((Below.refl _ _).alloc (Nat.le_refl _) _))
  have U4 : CI bA bB v3.heap.size (a.and (Vb.ones 16)) (x.and (Vb.ones 16)) v4 := by
    rw [← hu]
    exact ⟨(Below.heap_alloc v3 _ _ lA).trans O4, (Below.heap_alloc v3 _ _ lB).trans O3, heap_alloc_new v3 _⟩
  have D4 : Below w.heap.size w v4 := by rw [← hu]; exact C3.alloc (by omega) _
  have kt : v3.heap.size < v4.heap.size := by rw [← hu]; simp
  clear hu e2 e3 sc sf sl pc pf pl J1 J2 J3 C1 C2 C3 O2 O3 O4 P2 hoA hoB
  generalize v3.heap.size = tt at *
  refine wp_loop_rounds 3 ?_
  rw [rounds_succ]
  obtain ⟨tc, tf, tl⟩ := block_cells U4.T
  obtain ⟨sc, sf, sl⟩ := block_cells U4.S
  obtain ⟨pc, pf, pl⟩ := block_cells U4.P
  go_wp2_with fail
  clear tc tf tl
  refine (H162.out.u1 _).mono ?_
  rintro e v5 ⟨rfl, hb⟩
  have Q5 := Q4.step hb
  have U5 := U4.step hb
  have D5 : Below w.heap.size w v5 := D4.trans (hb.mono (by have := Q4.lt; omega))
  have M5 := Q5.lt
  clear hb
  clear sc sf sl pc pf pl
  obtain ⟨sc, sf, sl⟩ := block_cells U5.S
  obtain ⟨pc, pf, pl⟩ := block_cells U5.P
  go_wp2_with fail
  refine (H162.out.u2 _).mono ?_
  rintro e v6 ⟨rfl, hb⟩
  have hN := heap_alloc_new v5 (vcell W162)
  have N1 := (hb.block v5.heap.size (by simp)).trans hN
  have Q6 := (Q5.step ((Below.refl _ _).alloc (Nat.le_refl _) (vcell W162))).step hb
  have U6 := (U5.step ((Below.refl _ _).alloc (Nat.le_refl _) (vcell W162))).step hb
  have D6 : Below w.heap.size w v6 := (D5.alloc (by omega) _).trans (hb.mono (by simp; omega))
  have M6 := Q6.lt
  have n1 : v5.heap.size < v6.heap.size := (Array.getElem?_eq_some_iff.1 N1).1
  clear hb hN
  clear sc sf sl pc pf pl
  obtain ⟨sc, sf, sl⟩ := block_cells U6.S
  obtain ⟨pc, pf, pl⟩ := block_cells U6.P
  obtain ⟨nc, nf, nl⟩ := block_cells N1
  go_wp2_with fail
  refine (H162.out.u3 _).mono ?_
  rintro e v7 ⟨rfl, hb⟩
  have Q7 := (Q6.step ((Below.refl _ _).alloc (Nat.le_refl _) (vcell L162))).step hb
  have U7 := (U6.step ((Below.refl _ _).alloc (Nat.le_refl _) (vcell L162))).step hb
  have D7 : Below w.heap.size w v7 := (D6.alloc (by omega) _).trans (hb.mono (by simp; omega))
  have M7 := Q7.lt
  clear hb nc nf nl N1 n1
  clear sc sf sl pc pf pl
  obtain ⟨sc, sf, sl⟩ := block_cells U7.S
  obtain ⟨pc, pf, pl⟩ := block_cells U7.P
  go_wp2_with fail
  generalize hu : World.alloc _ _ = v8
  have Q8 : CO w.heap.size g x a y b v8 := by rw [← hu]; exact Q7.step ((Below.refl _ _).alloc (Nat.le_refl _) _)
  have U8 : CI bA bB tt (a.and (Vb.ones 16)) (x.and (Vb.ones 16)) v8 := by rw [← hu]; exact U7.step ((Below.refl _ _).alloc (Nat.le_refl _) _)
  have D8 : Below w.heap.size w v8 := by rw [← hu]; exact D7.alloc (by omega) _
  clear hu Q4 Q5 Q6 Q7 U4 U5 U6 U7 D4 D5 D6 D7 M5 M6 M7
  clear sc sf sl pc pf pl
  rw [rounds_succ]
  obtain ⟨tc, tf, tl⟩ := block_cells U8.T
  obtain ⟨sc, sf, sl⟩ := block_cells U8.S
  obtain ⟨pc, pf, pl⟩ := block_cells U8.P
  go_wp2_with fail
  clear tc tf tl
  refine (H163.out.u1 _).mono ?_
  rintro e v9 ⟨rfl, hb⟩
  have Q9 := Q8.step hb
  have U9 := U8.step hb
  have D9 : Below w.heap.size w v9 := D8.trans (hb.mono (by have := Q8.lt; omega))
  have M9 := Q9.lt
  clear hb
  clear sc sf sl pc pf pl
  obtain ⟨sc, sf, sl⟩ := block_cells U9.S
  obtain ⟨pc, pf, pl⟩ := block_cells U9.P
  go_wp2_with fail
  refine (H163.out.u2 _).mono ?_
  rintro e v10 ⟨rfl, hb⟩
  have hN := heap_alloc_new v9 (vcell W163)
  have N1 := (hb.block v9.heap.size (by simp)).trans hN
  have Q10 := (Q9.step ((Below.refl _ _).alloc (Nat.le_refl _) (vcell W163))).step hb
  have U10 := (U9.step ((Below.refl _ _).alloc (Nat.le_refl _) (vcell W163))).step hb
  have D10 : Below w.heap.size w v10 := (D9.alloc (by omega) _).trans (hb.mono (by simp; omega))
  have M10 := Q10.lt
  have n1 : v9.heap.size < v10.heap.size := (Array.getElem?_eq_some_iff.1 N1).1
  clear hb hN
  clear sc sf sl pc pf pl
  obtain ⟨sc, sf, sl⟩ := block_cells U10.S
  obtain ⟨pc, pf, pl⟩ := block_cells U10.P
  obtain ⟨nc, nf, nl⟩ := block_cells N1
  go_wp2_with fail
  refine (H163.out.u3 _).mono ?_
  rintro e v11 ⟨rfl, hb⟩
  have Q11 := (Q10.step ((Below.refl _ _).alloc (Nat.le_refl _) (vcell L163))).step hb
  have U11 := (U10.step ((Below.refl _ _).alloc (Nat.le_refl _) (vcell L163))).step hb
  have D11 : Below w.heap.size w v11 := (D10.alloc (by omega) _).trans (hb.mono (by simp; omega))
  have M11 := Q11.lt
  clear hb nc nf nl N1 n1
  clear sc sf sl pc pf pl
  obtain ⟨sc, sf, sl⟩ := block_cells U11.S
  obtain ⟨pc, pf, pl⟩ := block_cells U11.P
  go_wp2_with fail
  generalize hu : World.alloc _ _ = v12
  have Q12 : CO w.heap.size g x a y b v12 := by rw [← hu]; exact Q11.step ((Below.refl _ _).alloc (Nat.le_refl _) _)
  have U12 : CI bA bB tt (a.and (Vb.ones 16)) (x.and (Vb.ones 16)) v12 := by rw [← hu]; exact U11.step ((Below.refl _ _).alloc (Nat.le_refl _) _)
  have D12 : Below w.heap.size w v12 := by rw [← hu]; exact D11.alloc (by omega) _
  clear hu Q8 Q9 Q10 Q11 U8 U9 U10 U11 D8 D9 D10 D11 M9 M10 M11
  clear sc sf sl pc pf pl
  rw [rounds_succ]
  go_wp2_with fail
  clear U12 K12 B12
  rw [rounds_succ]
  go_wp2_with fail
  obtain ⟨xc, xf, xl⟩ := block_cells Q12.X
  obtain ⟨ac, af, al⟩ := block_cells Q12.A
  have L12 := Q12.lt
  have hj' := hj.out
  rw [hj']
  clear hj'
  refine FlowS.wp_region_store 10 11 12 24 _ (uv 0#32) (uv 0#32) (uv 0#32) (uv 0#32) (uv (sp).a) (uv (sp).b) (uv (sp).c) (uv (sp).d) 24 rfl rfl rfl (fun a w => by kernel_rfl) (by kernel_rfl) (by omega) (by omega) (by kernel_rfl) (by kernel_rfl) (fun R hRc hRt hRo hRs => ?_)
  simp only [List.take_succ_cons, List.take_zero, List.drop_succ_cons, List.drop_zero]
  iterate 12
    first
      | (refine FlowS.flow_make rfl ?_)
      | (refine FlowS.flow_store rfl rfl rfl ?_ ?_; (intro b1 w1 hb; have hzb := hRo.out b1 w1 hb; obtain ⟨hoc, hof, hos⟩ := FlowA.made_cells hzb; clear hzb; simp only [Act.put, List.setIfInBounds_toArray, List.set_cons_zero, List.set_cons_succ]; go_simp; exact hRs.out _ _ hb))
      | refine FlowS.flow_skip rfl rfl rfl ?_
      | (apply FlowS.flow_step; rfl; rfl; rfl; (intro s1 w1 hb; have hc := hRc.out s1 w1 hb; go_simp; (first | with_reducible exact ⟨rfl, hb⟩ | (go_at_call 20; refine (v_c _ _ ).mono ?_; rintro e w2 ⟨rfl, hb2⟩; exact ⟨_, rfl, rfl, hRt.out _ _ _ hb hb2⟩) | (go_at_call 18; refine (G1.out _ ).mono ?_; rintro e w2 ⟨rfl, hb2⟩; exact ⟨_, rfl, rfl, hRt.out _ _ _ hb hb2⟩))))
    simp only [Act.put, List.setIfInBounds_toArray, List.set_cons_zero, List.set_cons_succ]
  apply FlowS.flow_nil
  clear hRc hRt hRo hRs
  intro bS v13 hb hbb hob
  simp only [Act.put, List.setIfInBounds_toArray, List.set_cons_zero, List.set_cons_succ]
  obtain ⟨hc, hf⟩ := Flow.bcell hb
  have hz := hb.size
  (try simp only [World.size_alloc, World.size_setCell, World.size_drew] at hz)
  (try simp only [World.size_alloc, World.size_setCell, World.size_drew] at hbb)
  have Q13 := Q12.step hb
  have S13 : v13.heap[bS]? = some (vcell sp) := hob
  have D13 : Below w.heap.size w v13 := D12.trans (hb.mono (by omega))
  have L13 := Q13.lt
  clear hb hob hbb hc hf hz xc xf xl ac af al Q12 D12 L12
  obtain ⟨xc, xf, xl⟩ := block_cells Q13.X
  obtain ⟨sc, sf, sl⟩ := block_cells S13
  go_wp2_with fail
  refine (G2.out _).mono ?_
  rintro e v14 ⟨rfl, hb⟩
  have Q14 := Q13.step hb
  have D14 : Below w.heap.size w v14 := D13.trans (hb.mono (by omega))
  have L14 := Q14.lt
  clear hb xc xf xl sc sf sl S13 Q13 D13 L13
  go_wp2_with fail
  generalize hu : World.alloc _ _ = v15
  have O15 : v15.heap[v14.heap.size]? = some (vcell (V.word a.a)) := by rw [← hu]; exact heap_alloc_new v14 _
  have Q15 : CO w.heap.size g x a y b v15 := by rw [← hu]; exact Q14.step ((Below.refl _ _).alloc (Nat.le_refl _) _)
  have D15 : Below w.heap.size w v15 := by rw [← hu]; exact D14.alloc (by omega) _
  have L15 := Q15.lt
  clear hu Q14 D14 L14
  generalize v14.heap.size = bO at *
  obtain ⟨ac, af, al⟩ := block_cells Q15.A
  obtain ⟨oc, of, ol⟩ := block_cells O15
  refine Flow.wp_region_below 12 (by kernel_rfl) (by kernel_rfl) (fun R hRc hRt => ?_)
  simp only [List.take_succ_cons, List.take_zero, List.drop_succ_cons, List.drop_zero]
  iterate 12
    first
      | refine Flow.flow_skip rfl ?_
      | (apply Flow.flow_step; rfl; (intro w1 hb; have hc := hRc.out w1 hb; go_simp; (first | with_reducible exact ⟨rfl, hb⟩ | (go_at_call 20; refine (v_c _ _ ).mono ?_; rintro e w2 ⟨rfl, hb2⟩; exact ⟨_, rfl, rfl, hRt.out _ _ hb hb2⟩))))
      | (apply Flow.flow_guardT rfl rfl rfl; (intro hg w1 hb; have hc := hRc.out w1 hb; go_simp; (first | with_reducible exact ⟨rfl, hb⟩ | (go_at_call 20; refine (v_c _ _ ).mono ?_; rintro e w2 ⟨rfl, hb2⟩; exact ⟨_, rfl, rfl, hRt.out _ _ hb hb2⟩))))
      | (apply Flow.flow_guardF rfl rfl rfl; (intro hg w1 hb; have hc := hRc.out w1 hb; go_simp; (first | with_reducible exact ⟨rfl, hb⟩ | (go_at_call 20; refine (v_c _ _ ).mono ?_; rintro e w2 ⟨rfl, hb2⟩; exact ⟨_, rfl, rfl, hRt.out _ _ hb hb2⟩))))
      | (apply Flow.flow_guardT2 rfl rfl rfl; (intro hp hg w1 hb; have hc := hRc.out w1 hb; go_simp; (first | with_reducible exact ⟨rfl, hb⟩ | (go_at_call 20; refine (v_c _ _ ).mono ?_; rintro e w2 ⟨rfl, hb2⟩; exact ⟨_, rfl, rfl, hRt.out _ _ hb hb2⟩))))
      | (apply Flow.flow_guardF2 rfl rfl rfl; (intro hp hg w1 hb; have hc := hRc.out w1 hb; go_simp; (first | with_reducible exact ⟨rfl, hb⟩ | (go_at_call 20; refine (v_c _ _ ).mono ?_; rintro e w2 ⟨rfl, hb2⟩; exact ⟨_, rfl, rfl, hRt.out _ _ hb hb2⟩))))
    simp only [Act.put, List.setIfInBounds_toArray, List.set_cons_zero, List.set_cons_succ]
  apply Flow.flow_nil
  clear hRc hRt
  intro w1 hb
  obtain ⟨hc, hf⟩ := Flow.bcell hb
  have hz := hb.size
  (try simp only [World.size_alloc, World.size_setCell, World.size_drew] at hz)
  have Q16 := Q15.step hb
  have D16 : Below w.heap.size w w1 := D15.trans (hb.mono (by omega))
  clear hb hc hf hz ac af al oc of ol O15 Q15 D15 L15
  have L16 := Q16.lt
  obtain ⟨v16, hv⟩ : ∃ v, v = w1 := ⟨_, rfl⟩
  subst hv
  go_wp2_with fail
  obtain ⟨xc, xf, xl⟩ := block_cells Q16.X
  obtain ⟨ac, af, al⟩ := block_cells Q16.A
  obtain ⟨yc, yf, yl⟩ := block_cells Q16.Y
  obtain ⟨bc, bf, bl⟩ := block_cells Q16.B
  refine FlowS.wp_region_store 13 14 15 28 _ (uv 0#32) (uv 0#32) (uv 0#32) (uv 0#32) (uv (pt).a) (uv (pt).b) (uv (pt).c) (uv (pt).d) 24 rfl rfl rfl (fun a w => by kernel_rfl) (by kernel_rfl) (by omega) (by omega) (by kernel_rfl) (by kernel_rfl) (fun R hRc hRt hRo hRs => ?_)
  simp only [List.take_succ_cons, List.take_zero, List.drop_succ_cons, List.drop_zero]
  iterate 15
    first
      | (refine FlowS.flow_make rfl ?_)
      | (refine FlowS.flow_store rfl rfl rfl ?_ ?_; (intro b1 w1 hb; have hzb := hRo.out b1 w1 hb; obtain ⟨hoc, hof, hos⟩ := FlowA.made_cells hzb; clear hzb; simp only [Act.put, List.setIfInBounds_toArray, List.set_cons_zero, List.set_cons_succ]; go_simp; exact hRs.out _ _ hb))
      | refine FlowS.flow_skip rfl rfl rfl ?_
      | (apply FlowS.flow_step; rfl; rfl; rfl; (intro s1 w1 hb; have hc := hRc.out s1 w1 hb; go_simp; (first | with_reducible exact ⟨rfl, hb⟩ | (go_at_call 20; refine (v_c _ _ ).mono ?_; rintro e w2 ⟨rfl, hb2⟩; exact ⟨_, rfl, rfl, hRt.out _ _ _ hb hb2⟩) | (go_at_call 21; refine (G3.out _ ).mono ?_; rintro e w2 ⟨rfl, hb2⟩; exact ⟨_, rfl, rfl, hRt.out _ _ _ hb hb2⟩))))
    simp only [Act.put, List.setIfInBounds_toArray, List.set_cons_zero, List.set_cons_succ]
  apply FlowS.flow_nil
  clear hRc hRt hRo hRs
  intro bP v17 hb hbb hob
  simp only [Act.put, List.setIfInBounds_toArray, List.set_cons_zero, List.set_cons_succ]
  obtain ⟨hc, hf⟩ := Flow.bcell hb
  have hz := hb.size
  (try simp only [World.size_alloc, World.size_setCell, World.size_drew] at hz)
  (try simp only [World.size_alloc, World.size_setCell, World.size_drew] at hbb)
  have Q17 := Q16.step hb
  have P17 : v17.heap[bP]? = some (vcell pt) := hob
  have D17 : Below w.heap.size w v17 := D16.trans (hb.mono (by omega))
  have L17 := Q17.lt
  clear hb hob hbb hc hf hz xc xf xl ac af al yc yf yl bc bf bl Q16 D16 L16
  go_wp2_with fail
  obtain ⟨xc, xf, xl⟩ := block_cells Q17.X
  obtain ⟨yc, yf, yl⟩ := block_cells Q17.Y
  refine FlowS.wp_region_store 9 10 11 29 _ (uv 0#32) (uv 0#32) (uv 0#32) (uv 0#32) (uv (wt).a) (uv (wt).b) (uv (wt).c) (uv (wt).d) 24 rfl rfl rfl (fun a w => by kernel_rfl) (by kernel_rfl) (by omega) (by omega) (by kernel_rfl) (by kernel_rfl) (fun R hRc hRt hRo hRs => ?_)
  simp only [List.take_succ_cons, List.take_zero, List.drop_succ_cons, List.drop_zero]
  iterate 11
    first
      | (refine FlowS.flow_make rfl ?_)
      | (refine FlowS.flow_store rfl rfl rfl ?_ ?_; (intro b1 w1 hb; have hzb := hRo.out b1 w1 hb; obtain ⟨hoc, hof, hos⟩ := FlowA.made_cells hzb; clear hzb; simp only [Act.put, List.setIfInBounds_toArray, List.set_cons_zero, List.set_cons_succ]; go_simp; exact hRs.out _ _ hb))
      | refine FlowS.flow_skip rfl rfl rfl ?_
      | (apply FlowS.flow_step; rfl; rfl; rfl; (intro s1 w1 hb; have hc := hRc.out s1 w1 hb; go_simp; (first | with_reducible exact ⟨rfl, hb⟩ | (go_at_call 20; refine (v_c _ _ ).mono ?_; rintro e w2 ⟨rfl, hb2⟩; exact ⟨_, rfl, rfl, hRt.out _ _ _ hb hb2⟩) | (go_at_call 22; refine (G4.out _ ).mono ?_; rintro e w2 ⟨rfl, hb2⟩; exact ⟨_, rfl, rfl, hRt.out _ _ _ hb hb2⟩))))
    simp only [Act.put, List.setIfInBounds_toArray, List.set_cons_zero, List.set_cons_succ]
  apply FlowS.flow_nil
  clear hRc hRt hRo hRs
  intro bW v18 hb hbb hob
  simp only [Act.put, List.setIfInBounds_toArray, List.set_cons_zero, List.set_cons_succ]
  obtain ⟨hc, hf⟩ := Flow.bcell hb
  have hz := hb.size
  (try simp only [World.size_alloc, World.size_setCell, World.size_drew] at hz)
  (try simp only [World.size_alloc, World.size_setCell, World.size_drew] at hbb)
  have Q18 := Q17.step hb
  have P18 : v18.heap[bP]? = some (vcell pt) := (hb.block _ (Array.getElem?_eq_some_iff.1 P17).1).trans P17
  have W18 : v18.heap[bW]? = some (vcell wt) := hob
  have D18 : Below w.heap.size w v18 := D17.trans (hb.mono (by omega))
  have L18 := Q18.lt
  clear hb hob hbb hc hf hz xc xf xl yc yf yl P17 Q17 D17 L17
  obtain ⟨pc, pf, pl⟩ := block_cells P18
  obtain ⟨sc, sf, sl⟩ := block_cells W18
  go_wp2_with fail
  refine (G5.out _).mono ?_
  rintro e v19 ⟨rfl, hb⟩
  have Q19 := Q18.step hb
  have D19 : Below w.heap.size w v19 := D18.trans (hb.mono (by omega))
  have L19 := Q19.lt
  clear hb pc pf pl sc sf sl P18 W18 Q18 D18 L18
  go_wp2_with fail
  generalize hu : World.alloc _ _ = v20
  have O20 : v20.heap[v19.heap.size]? = some (vcell (V.word b.a)) := by rw [← hu]; exact heap_alloc_new v19 _
  have Q20 : CO w.heap.size g x a y b v20 := by rw [← hu]; exact Q19.step ((Below.refl _ _).alloc (Nat.le_refl _) _)
  have D20 : Below w.heap.size w v20 := by rw [← hu]; exact D19.alloc (by omega) _
  have L20 := Q20.lt
  clear hu Q19 D19 L19
  generalize v19.heap.size = bG at *
  obtain ⟨bc, bf, bl⟩ := block_cells Q20.B
  obtain ⟨oc, of, ol⟩ := block_cells O20
  refine Flow.wp_region_below 12 (by kernel_rfl) (by kernel_rfl) (fun R hRc hRt => ?_)
  simp only [List.take_succ_cons, List.take_zero, List.drop_succ_cons, List.drop_zero]
  iterate 12
    first
      | refine Flow.flow_skip rfl ?_
      | (apply Flow.flow_step; rfl; (intro w1 hb; have hc := hRc.out w1 hb; go_simp; (first | with_reducible exact ⟨rfl, hb⟩ | (go_at_call 20; refine (v_c _ _ ).mono ?_; rintro e w2 ⟨rfl, hb2⟩; exact ⟨_, rfl, rfl, hRt.out _ _ hb hb2⟩))))
      | (apply Flow.flow_guardT rfl rfl rfl; (intro hg w1 hb; have hc := hRc.out w1 hb; go_simp; (first | with_reducible exact ⟨rfl, hb⟩ | (go_at_call 20; refine (v_c _ _ ).mono ?_; rintro e w2 ⟨rfl, hb2⟩; exact ⟨_, rfl, rfl, hRt.out _ _ hb hb2⟩))))
      | (apply Flow.flow_guardF rfl rfl rfl; (intro hg w1 hb; have hc := hRc.out w1 hb; go_simp; (first | with_reducible exact ⟨rfl, hb⟩ | (go_at_call 20; refine (v_c _ _ ).mono ?_; rintro e w2 ⟨rfl, hb2⟩; exact ⟨_, rfl, rfl, hRt.out _ _ hb hb2⟩))))
      | (apply Flow.flow_guardT2 rfl rfl rfl; (intro hp hg w1 hb; have hc := hRc.out w1 hb; go_simp; (first | with_reducible exact ⟨rfl, hb⟩ | (go_at_call 20; refine (v_c _ _ ).mono ?_; rintro e w2 ⟨rfl, hb2⟩; exact ⟨_, rfl, rfl, hRt.out _ _ hb hb2⟩))))
      | (apply Flow.flow_guardF2 rfl rfl rfl; (intro hp hg w1 hb; have hc := hRc.out w1 hb; go_simp; (first | with_reducible exact ⟨rfl, hb⟩ | (go_at_call 20; refine (v_c _ _ ).mono ?_; rintro e w2 ⟨rfl, hb2⟩; exact ⟨_, rfl, rfl, hRt.out _ _ hb hb2⟩))))
    simp only [Act.put, List.setIfInBounds_toArray, List.set_cons_zero, List.set_cons_succ]
  apply Flow.flow_nil
  clear hRc hRt
  intro w1 hb
  obtain ⟨hc, hf⟩ := Flow.bcell hb
  have hz := hb.size
  (try simp only [World.size_alloc, World.size_setCell, World.size_drew] at hz)
  have Q21 := Q20.step hb
  have D21 : Below w.heap.size w w1 := D20.trans (hb.mono (by omega))
  clear hb hc hf hz bc bf bl oc of ol O20 Q20 D20 L20
  have L21 := Q21.lt
  obtain ⟨v21, hv⟩ : ∃ v, v = w1 := ⟨_, rfl⟩
  subst hv
  go_wp2_with fail
  obtain ⟨xc, xf, xl⟩ := block_cells Q21.X
  obtain ⟨ac, af, al⟩ := block_cells Q21.A
  refine FlowS.wp_region_store 15 16 17 32 _ (uv 0#32) (uv 0#32) (uv 0#32) (uv 0#32) (uv (a).a) (uv (a).b) (uv (a).c) (uv (a).d) 24 rfl rfl rfl (fun a w => by kernel_rfl) (by kernel_rfl) (by omega) (by omega) (by kernel_rfl) (by kernel_rfl) (fun R hRc hRt hRo hRs => ?_)
  simp only [List.take_succ_cons, List.take_zero, List.drop_succ_cons, List.drop_zero]
  iterate 17
    first
      | (refine FlowS.flow_make rfl ?_)
      | (refine FlowS.flow_store rfl rfl rfl ?_ ?_; (intro b1 w1 hb; have hzb := hRo.out b1 w1 hb; obtain ⟨hoc, hof, hos⟩ := FlowA.made_cells hzb; clear hzb; simp only [Act.put, List.setIfInBounds_toArray, List.set_cons_zero, List.set_cons_succ]; go_simp; exact hRs.out _ _ hb))
      | refine FlowS.flow_skip rfl rfl rfl ?_
      | (apply FlowS.flow_step; rfl; rfl; rfl; (intro s1 w1 hb; have hc := hRc.out s1 w1 hb; go_simp; (first | with_reducible exact ⟨rfl, hb⟩ | (go_at_call 20; refine (v_c _ _ ).mono ?_; rintro e w2 ⟨rfl, hb2⟩; exact ⟨_, rfl, rfl, hRt.out _ _ _ hb hb2⟩) | (go_at_call 21; refine (G6.out _ ).mono ?_; rintro e w2 ⟨rfl, hb2⟩; exact ⟨_, rfl, rfl, hRt.out _ _ _ hb hb2⟩))))
    simp only [Act.put, List.setIfInBounds_toArray, List.set_cons_zero, List.set_cons_succ]
  apply FlowS.flow_nil
  clear hRc hRt hRo hRs
  intro bE v22 hb hbb hob
  simp only [Act.put, List.setIfInBounds_toArray, List.set_cons_zero, List.set_cons_succ]
  obtain ⟨hc, hf⟩ := Flow.bcell hb
  have hz := hb.size
  (try simp only [World.size_alloc, World.size_setCell, World.size_drew] at hz)
  (try simp only [World.size_alloc, World.size_setCell, World.size_drew] at hbb)
  have Q22 := Q21.step hb
  have E22 : v22.heap[bE]? = some (vcell a) := hob
  have D22 : Below w.heap.size w v22 := D21.trans (hb.mono (by omega))
  have L22 := Q22.lt
  clear hb hob hbb hc hf hz xc xf xl ac af al Q21 D21 L21
  obtain ⟨ac, af, al⟩ := block_cells Q22.A
  obtain ⟨sc, sf, sl⟩ := block_cells E22
  go_wp2_with fail
  go_ret
  exact ⟨rfl, D22⟩

set_option maxRecDepth 100000 in
set_option maxHeartbeats 16000000 in
theorem conv_w3 (HS : Hid SaneC) (x a y b : V) (k : Int) (W82 L82 W83 L83 W162 L162 W163 L163 : V) (H82 : Hid (ConvH x a 8 2 W82 L82)) (H83 : Hid (ConvH x a 8 3 W83 L83)) (H162 : Hid (ConvH x a 16 2 W162 L162)) (H163 : Hid (ConvH x a 16 3 W163 L163)) (hj : Hid (wrap64 ((IntKind.u64.wrap k).tmod 4) = 3)) (sp pt wt : V)
    (G1 : Hid (∀ w, Calls Tryz.prog 18 #[iv 11, iv 32, iv 128, iv 0, vv (V.word x.a), vv (V.word a.a)] w fun e w' => e = .returned (.tuple #[vv sp, iv 0]) ∧ Below w.heap.size w w'))
    (G2 : Hid (∀ w, Calls Tryz.prog 18 #[iv 12, iv 128, iv 32, iv 3, vv ⟨x.a, x.a, x.a, x.a⟩, vv sp] w fun e w' => e = .returned (.tuple #[vv (V.word a.a), iv 0]) ∧ Below w.heap.size w w'))
    (G3 : Hid (∀ w, Calls Tryz.prog 21 #[iv 30, iv 128, iv 3, vv x, vv a, vv (V.word y.a), vv (V.word b.a)] w fun e w' => e = .returned (.tuple #[vv pt, iv 0]) ∧ Below w.heap.size w w'))
    (G4 : Hid (∀ w, Calls Tryz.prog 22 #[iv 30, iv 128, iv 3, vv x, vv (V.word y.a)] w fun e w' => e = .returned (.tuple #[vv wt, .bool true]) ∧ Below w.heap.size w w'))
    (G5 : Hid (∀ w, Calls Tryz.prog 18 #[iv 12, iv 128, iv 32, iv 3, vv wt, vv pt] w fun e w' => e = .returned (.tuple #[vv (V.word b.a), iv 0]) ∧ Below w.heap.size w w'))
    (G6 : Hid (∀ w, Calls Tryz.prog 21 #[iv 30, iv 128, iv 3, vv x, vv a, vv (V.word x.d), vv (V.word a.d)] w fun e w' => e = .returned (.tuple #[vv a, iv 0]) ∧ Below w.heap.size w w'))
    (w : World) :
    Calls Tryz.prog 4 #[vv x, vv a, vv y, vv b, iv k] w fun e w' => e = .returned (.bool true) ∧ Below w.heap.size w w' := by
  obtain ⟨X0, A0, Y0, D0⟩ := heap_alloc4 w (vcell x) (vcell a) (vcell y) (vcell b)
  go_enter Tryz.func4, Tryz.ntmps4
  go_wp2_with fail
  (refine (HS.out _ ).mono ?_; rintro e u1 ⟨rfl, hb⟩; obtain ⟨hc, hf⟩ := Flow.bcell hb; have hz := hb.size; (try simp only [World.size_alloc, World.size_setCell, World.size_drew] at hz))
  have hz1 : w.heap.size + 4 ≤ u1.heap.size := by have := hb.size; simp only [World.size_alloc] at this; omega
  have X1 := (hb.block w.heap.size (by simp <;> omega)).trans X0
  have A1 := (hb.block (w.heap.size + 1) (by simp <;> omega)).trans A0
  have Y1 := (hb.block (w.heap.size + 1 + 1) (by simp <;> omega)).trans Y0
  have D1 := (hb.block (w.heap.size + 1 + 1 + 1) (by simp)).trans D0
  have B1 : Below w.heap.size w u1 := by (repeat (first | exact Below.refl _ _ | refine Below.setCell ?_ (by first | omega | (simp <;> omega)) _ | refine Below.alloc ?_ (by first | omega | (simp <;> omega)) _ | refine Below.drew ?_ | refine Below.trans ?_ (Below.mono (by assumption) (by first | omega | (simp <;> omega)))))
  clear X0 A0 Y0 D0 hb hc hf
  go_wp2_with fail
  generalize hu : World.alloc _ _ = v0
  have K0 : CO w.heap.size u1.heap.size x a y b v0 := by
    rw [← hu]
    exact ⟨(Below.heap_alloc u1 _ _ (by omega)).trans X1, (Below.heap_alloc u1 _ _ (by omega)).trans A1, (Below.heap_alloc u1 _ _ (by omega)).trans Y1, (Below.heap_alloc u1 _ _ (by omega)).trans D1, heap_alloc_new u1 _⟩
  have B0 : Below w.heap.size w v0 := by rw [← hu]; exact B1.alloc (by omega) _
  clear hu X1 A1 Y1 D1 B1 hz
  generalize u1.heap.size = g at *
  refine wp_loop_rounds 3 ?_
  rw [rounds_succ]
  obtain ⟨xc, xf, xl⟩ := block_cells K0.X
  obtain ⟨ac, af, al⟩ := block_cells K0.A
  obtain ⟨gc, gf, gl⟩ := block_cells K0.G
  go_wp2_with fail
  refine FlowZ.wp_region_vars 10 8 9 13 14 (vcell V.zero) (vcell V.zero) (by kernel_rfl) (by kernel_rfl) (by kernel_rfl) (fun X hXc hXt hsp hA hB => ?_)
  simp only [List.take_succ_cons, List.take_zero, List.drop_succ_cons, List.drop_zero]
  iterate 10
    first
      | (refine FlowZ.flow_sp hsp rfl (hA.out _ _ rfl (fun w1 => ?_)) ?_; go_simp)
      | (refine FlowZ.flow_sp hsp rfl (hB.out _ _ rfl (fun w1 => ?_)) ?_; go_simp)
      | (apply FlowZ.flow_step hsp; rfl; rfl; (intro s1 w1 hb; have hc := hXc.out s1 w1 hb; go_simp; (first | with_reducible exact ⟨rfl, hb⟩ | with_reducible exact rfl | (go_at_call 17; refine (rones_c _ _).mono ?_; rintro e w2 ⟨rfl, hb2⟩; exact ⟨_, rfl, rfl, hXt.out _ _ _ hb hb2⟩) | (go_at_call 15; refine (rand_c _ _ _).mono ?_; rintro e w2 ⟨rfl, hb2⟩; exact ⟨_, rfl, rfl, hXt.out _ _ _ hb hb2⟩))))
    (try simp only [Act.put, List.setIfInBounds_toArray, List.set_cons_zero, List.set_cons_succ])
  apply FlowZ.flow_nil
  clear hXc hXt hsp hA hB xc xf xl ac af al gc gf gl
  intro bA bB v1 hb hbA hbB hne hoA hoB
  simp only [Act.put, List.setIfInBounds_toArray, List.set_cons_zero, List.set_cons_succ]
  have L0 := K0.lt
  have J1 := K0.step hb
  have C1 : Below w.heap.size w v1 := B0.trans (hb.mono (by omega))
  have kA1 : w.heap.size + 1 + 1 + 1 < bA := by omega
  have kA2 : g < bA := by omega
  have kB1 : w.heap.size + 1 + 1 + 1 < bB := by omega
  have kB2 : g < bB := by omega
  clear hb
  obtain ⟨v2, e2, O2, S2⟩ := store4 hoA 0 1 2 3 (uv (a.and (Vb.ones 8)).a) (uv (a.and (Vb.ones 8)).b) (uv (a.and (Vb.ones 8)).c) (uv (a.and (Vb.ones 8)).d)
  have J2 := J1.store S2 kA1 kA2
  have P2 := (S2.other bB (fun h => hne h.symm)).trans hoB
  have C2 : Below w.heap.size w v2 := C1.trans (S2.below _ (by omega))
  replace O2 : v2.heap[bA]? = some (vcell (a.and (Vb.ones 8))) := O2
  obtain ⟨v3, e3, O3, S3⟩ := store4 P2 0 1 2 3 (uv (x.and (Vb.ones 8)).a) (uv (x.and (Vb.ones 8)).b) (uv (x.and (Vb.ones 8)).c) (uv (x.and (Vb.ones 8)).d)
  have J3 := J2.store S3 kB1 kB2
  have O4 := (S3.other bA hne).trans O2
  have C3 : Below w.heap.size w v3 := C2.trans (S3.below _ (by omega))
  replace O3 : v3.heap[bB]? = some (vcell (x.and (Vb.ones 8))) := O3
  obtain ⟨sc, sf, sl⟩ := block_cells hoA
  obtain ⟨pc, pf, pl⟩ := block_cells P2
  have lA : bA < v3.heap.size := (Array.getElem?_eq_some_iff.1 O4).1
  have lB : bB < v3.heap.size := (Array.getElem?_eq_some_iff.1 O3).1
  have L3 := J3.lt
  clear S2 S3
  go_wp2_with fail
  generalize hu : World.alloc _ _ = v4
  have Q4 : CO w.heap.size g x a y b v4 := by rw [← hu]; exact J3.step (((Below.refl _ _).alloc (Nat.le_refl _) _))
  have U4 : CI bA bB v3.heap.size (a.and (Vb.ones 8)) (x.and (Vb.ones 8)) v4 := by
    rw [← hu]
    exact ⟨(Below.heap_alloc v3 _ _ lA).trans O4, (Below.heap_alloc v3 _ _ lB).trans O3, heap_alloc_new v3 _⟩
  have D4 : Below w.heap.size w v4 := by rw [← hu]; exact C3.alloc (by omega) _
  have kt : v3.heap.size < v4.heap.size := by rw [← hu]; simp
  clear hu e2 e3 sc sf sl pc pf pl J1 J2 J3 C1 C2 C3 O2 O3 O4 P2 hoA hoB
  generalize v3.heap.size = tt at *
  refine wp_loop_rounds 3 ?_
  rw [rounds_succ]
  obtain ⟨tc, tf, tl⟩ := block_cells U4.T
  obtain ⟨sc, sf, sl⟩ := block_cells U4.S
  obtain ⟨pc, pf, pl⟩ := block_cells U4.P
  go_wp2_with fail
  clear tc tf tl
  refine (H82.out.u1 _).mono ?_
  rintro e v5 ⟨rfl, hb⟩
  have Q5 := Q4.step hb
  have U5 := U4.step hb
  have D5 : Below w.heap.size w v5 := D4.trans (hb.mono (by have := Q4.lt; omega))
  have M5 := Q5.lt
  clear hb
  clear sc sf sl pc pf pl
  obtain ⟨sc, sf, sl⟩ := block_cells U5.S
  obtain ⟨pc, pf, pl⟩ := block_cells U5.P
  go_wp2_with fail
  refine (H82.out.u2 _).mono ?_
  rintro e v6 ⟨rfl, hb⟩
  have hN := heap_alloc_new v5 (vcell W82)
  have N1 := (hb.block v5.heap.size (by simp)).trans hN
  have Q6 := (Q5.step ((Below.refl _ _).alloc (Nat.le_refl _) (vcell W82))).step hb
  have U6 := (U5.step ((Below.refl _ _).alloc (Nat.le_refl _) (vcell W82))).step hb
  have D6 : Below w.heap.size w v6 := (D5.alloc (by omega) _).trans (hb.mono (by simp; omega))
  have M6 := Q6.lt
  have n1 : v5.heap.size < v6.heap.size := (Array.getElem?_eq_some_iff.1 N1).1
  clear hb hN
  clear sc sf sl pc pf pl
  obtain ⟨sc, sf, sl⟩ := block_cells U6.S
  obtain ⟨pc, pf, pl⟩ := block_cells U6.P
  obtain ⟨nc, nf, nl⟩ := block_cells N1
  go_wp2_with fail
  refine (H82.out.u3 _).mono ?_
  rintro e v7 ⟨rfl, hb⟩
  have Q7 := (Q6.step ((Below.refl _ _).alloc (Nat.le_refl _) (vcell L82))).step hb
  have U7 := (U6.step ((Below.refl _ _).alloc (Nat.le_refl _) (vcell L82))).step hb
  have D7 : Below w.heap.size w v7 := (D6.alloc (by omega) _).trans (hb.mono (by simp; omega))
  have M7 := Q7.lt
  clear hb nc nf nl N1 n1
  clear sc sf sl pc pf pl
  obtain ⟨sc, sf, sl⟩ := block_cells U7.S
  obtain ⟨pc, pf, pl⟩ := block_cells U7.P
  go_wp2_with fail
  generalize hu : World.alloc _ _ = v8
  have Q8 : CO w.heap.size g x a y b v8 := by rw [← hu]; exact Q7.step ((Below.refl _ _).alloc (Nat.le_refl _) _)
  have U8 : CI bA bB tt (a.and (Vb.ones 8)) (x.and (Vb.ones 8)) v8 := by rw [← hu]; exact U7.step ((Below.refl _ _).alloc (Nat.le_refl _) _)
  have D8 : Below w.heap.size w v8 := by rw [← hu]; exact D7.alloc (by omega) _
  clear hu Q4 Q5 Q6 Q7 U4 U5 U6 U7 D4 D5 D6 D7 M5 M6 M7
  clear sc sf sl pc pf pl
  rw [rounds_succ]
  obtain ⟨tc, tf, tl⟩ := block_cells U8.T
  obtain ⟨sc, sf, sl⟩ := block_cells U8.S
  obtain ⟨pc, pf, pl⟩ := block_cells U8.P
  go_wp2_with fail
  clear tc tf tl
  refine (H83.out.u1 _).mono ?_
  rintro e v9 ⟨rfl, hb⟩
  have Q9 := Q8.step hb
  have U9 := U8.step hb
  have D9 : Below w.heap.size w v9 := D8.trans (hb.mono (by have := Q8.lt; omega))
  have M9 := Q9.lt
  clear hb
  clear sc sf sl pc pf pl
  obtain ⟨sc, sf, sl⟩ := block_cells U9.S
  obtain ⟨pc, pf, pl⟩ := block_cells U9.P
  go_wp2_with fail
  refine (H83.out.u2 _).mono ?_
  rintro e v10 ⟨rfl, hb⟩
  have hN := heap_alloc_new v9 (vcell W83)
  have N1 := (hb.block v9.heap.size (by simp)).trans hN
  have Q10 := (Q9.step ((Below.refl _ _).alloc (Nat.le_refl _) (vcell W83))).step hb
  have U10 := (U9.step ((Below.refl _ _).alloc (Nat.le_refl _) (vcell W83))).step hb
  have D10 : Below w.heap.size w v10 := (D9.alloc (by omega) _).trans (hb.mono (by simp; omega))
  have M10 := Q10.lt
  have n1 : v9.heap.size < v10.heap.size := (Array.getElem?_eq_some_iff.1 N1).1
  clear hb hN
  clear sc sf sl pc pf pl
  obtain ⟨sc, sf, sl⟩ := block_cells U10.S
  obtain ⟨pc, pf, pl⟩ := block_cells U10.P
  obtain ⟨nc, nf, nl⟩ := block_cells N1
  go_wp2_with fail
  refine (H83.out.u3 _).mono ?_
  rintro e v11 ⟨rfl, hb⟩
  have Q11 := (Q10.step ((Below.refl _ _).alloc (Nat.le_refl _) (vcell L83))).step hb
  have U11 := (U10.step ((Below.refl _ _).alloc (Nat.le_refl _) (vcell L83))).step hb
  have D11 : Below w.heap.size w v11 := (D10.alloc (by omega) _).trans (hb.mono (by simp; omega))
  have M11 := Q11.lt
  clear hb nc nf nl N1 n1
  clear sc sf sl pc pf pl
  obtain ⟨sc, sf, sl⟩ := block_cells U11.S
  obtain ⟨pc, pf, pl⟩ := block_cells U11.P
  go_wp2_with fail
  generalize hu : World.alloc _ _ = v12
  have Q12 : CO w.heap.size g x a y b v12 := by rw [← hu]; exact Q11.step ((Below.refl _ _).alloc (Nat.le_refl _) _)
  have U12 : CI bA bB tt (a.and (Vb.ones 8)) (x.and (Vb.ones 8)) v12 := by rw [← hu]; exact U11.step ((Below.refl _ _).alloc (Nat.le_refl _) _)
  have D12 : Below w.heap.size w v12 := by rw [← hu]; exact D11.alloc (by omega) _
  clear hu Q8 Q9 Q10 Q11 U8 U9 U10 U11 D8 D9 D10 D11 M9 M10 M11
  clear sc sf sl pc pf pl
  rw [rounds_succ]
  go_wp2_with fail
  have K12 := Q12
  have B12 := D12
  clear Q12 U12 D12 K0 B0
  rw [rounds_succ]
  obtain ⟨xc, xf, xl⟩ := block_cells K12.X
  obtain ⟨ac, af, al⟩ := block_cells K12.A
  obtain ⟨gc, gf, gl⟩ := block_cells K12.G
  go_wp2_with fail
  refine FlowZ.wp_region_vars 10 8 9 13 14 (vcell V.zero) (vcell V.zero) (by kernel_rfl) (by kernel_rfl) (by kernel_rfl) (fun X hXc hXt hsp hA hB => ?_)
  simp only [List.take_succ_cons, List.take_zero, List.drop_succ_cons, List.drop_zero]
  iterate 10
    first
      | (refine FlowZ.flow_sp hsp rfl (hA.out _ _ rfl (fun w1 => ?_)) ?_; go_simp)
      | (refine FlowZ.flow_sp hsp rfl (hB.out _ _ rfl (fun w1 => ?_)) ?_; go_simp)
      | (apply FlowZ.flow_step hsp; rfl; rfl; (intro s1 w1 hb; have hc := hXc.out s1 w1 hb; go_simp; (first | with_reducible exact ⟨rfl, hb⟩ | with_reducible exact rfl | (go_at_call 17; refine (rones_c _ _).mono ?_; rintro e w2 ⟨rfl, hb2⟩; exact ⟨_, rfl, rfl, hXt.out _ _ _ hb hb2⟩) | (go_at_call 15; refine (rand_c _ _ _).mono ?_; rintro e w2 ⟨rfl, hb2⟩; exact ⟨_, rfl, rfl, hXt.out _ _ _ hb hb2⟩))))
    (try simp only [Act.put, List.setIfInBounds_toArray, List.set_cons_zero, List.set_cons_succ])
  apply FlowZ.flow_nil
  clear hXc hXt hsp hA hB xc xf xl ac af al gc gf gl
  intro bA bB v1 hb hbA hbB hne hoA hoB
  simp only [Act.put, List.setIfInBounds_toArray, List.set_cons_zero, List.set_cons_succ]
  have L12 := K12.lt
  have J1 := K12.step hb
  have C1 : Below w.heap.size w v1 := B12.trans (hb.mono (by omega))
  have kA1 : w.heap.size + 1 + 1 + 1 < bA := by omega
  have kA2 : g < bA := by omega
  have kB1 : w.heap.size + 1 + 1 + 1 < bB := by omega
  have kB2 : g < bB := by omega
  clear hb
  obtain ⟨v2, e2, O2, S2⟩ := store4 hoA 0 1 2 3 (uv (a.and (Vb.ones 16)).a) (uv (a.and (Vb.ones 16)).b) (uv (a.and (Vb.ones 16)).c) (uv (a.and (Vb.ones 16)).d)
  have J2 := J1.store S2 kA1 kA2
  have P2 := (S2.other bB (fun h => hne h.symm)).trans hoB
  have C2 : Below w.heap.size w v2 := C1.trans (S2.below _ (by omega))
  replace O2 : v2.heap[bA]? = some (vcell (a.and (Vb.ones 16))) := O2
  obtain ⟨v3, e3, O3, S3⟩ := store4 P2 0 1 2 3 (uv (x.and (Vb.ones 16)).a) (uv (x.and (Vb.ones 16)).b) (uv (x.and (Vb.ones 16)).c) (uv (x.and (Vb.ones 16)).d)
  have J3 := J2.store S3 kB1 kB2
  have O4 := (S3.other bA hne).trans O2
  have C3 : Below w.heap.size w v3 := C2.trans (S3.below _ (by omega))
  replace O3 : v3.heap[bB]? = some (vcell (x.and (Vb.ones 16))) := O3
  obtain ⟨sc, sf, sl⟩ := block_cells hoA
  obtain ⟨pc, pf, pl⟩ := block_cells P2
  have lA : bA < v3.heap.size := (Array.getElem?_eq_some_iff.1 O4).1
  have lB : bB < v3.heap.size := (Array.getElem?_eq_some_iff.1 O3).1
  have L3 := J3.lt
  clear S2 S3
  go_wp2_with fail
  generalize hu : World.alloc _ _ = v4
  have Q4 : CO w.heap.size g x a y b v4 := by rw [← hu]; exact J3.step (((Below.refl _ _).alloc (Nat.le_refl _) _))
  have U4 : CI bA bB v3.heap.size (a.and (Vb.ones 16)) (x.and (Vb.ones 16)) v4 := by
    rw [← hu]
    exact ⟨(Below.heap_alloc v3 _ _ lA).trans O4, (Below.heap_alloc v3 _ _ lB).trans O3, heap_alloc_new v3 _⟩
  have D4 : Below w.heap.size w v4 := by rw [← hu]; exact C3.alloc (by omega) _
  have kt : v3.heap.size < v4.heap.size := by rw [← hu]; simp
  clear hu e2 e3 sc sf sl pc pf pl J1 J2 J3 C1 C2 C3 O2 O3 O4 P2 hoA hoB
  generalize v3.heap.size = tt at *
  refine wp_loop_rounds 3 ?_
  rw [rounds_succ]
  obtain ⟨tc, tf, tl⟩ := block_cells U4.T
  obtain ⟨sc, sf, sl⟩ := block_cells U4.S
  obtain ⟨pc, pf, pl⟩ := block_cells U4.P
  go_wp2_with fail
  clear tc tf tl
  refine (H162.out.u1 _).mono ?_
  rintro e v5 ⟨rfl, hb⟩
  have Q5 := Q4.step hb
  have U5 := U4.step hb
  have D5 : Below w.heap.size w v5 := D4.trans (hb.mono (by have := Q4.lt; omega))
  have M5 := Q5.lt
  clear hb
  clear sc sf sl pc pf pl
  obtain ⟨sc, sf, sl⟩ := block_cells U5.S
  obtain ⟨pc, pf, pl⟩ := block_cells U5.P
  go_wp2_with fail
  refine (H162.out.u2 _).mono ?_
  rintro e v6 ⟨rfl, hb⟩
  have hN := heap_alloc_new v5 (vcell W162)
  have N1 := (hb.block v5.heap.size (by simp)).trans hN
  have Q6 := (Q5.step ((Below.refl _ _).alloc (Nat.le_refl _) (vcell W162))).step hb
  have U6 := (U5.step ((Below.refl _ _).alloc (Nat.le_refl _) (vcell W162))).step hb
  have D6 : Below w.heap.size w v6 := (D5.alloc (by omega) _).trans (hb.mono (by simp; omega))
  have M6 := Q6.lt
  have n1 : v5.heap.size < v6.heap.size := (Array.getElem?_eq_some_iff.1 N1).1
  clear hb hN
  clear sc sf sl pc pf pl
  obtain ⟨sc, sf, sl⟩ := block_cells U6.S
  obtain ⟨pc, pf, pl⟩ := block_cells U6.P
  obtain ⟨nc, nf, nl⟩ := block_cells N1
  go_wp2_with fail
  refine (H162.out.u3 _).mono ?_
  rintro e v7 ⟨rfl, hb⟩
  have Q7 := (Q6.step ((Below.refl _ _).alloc (Nat.le_refl _) (vcell L162))).step hb
  have U7 := (U6.step ((Below.refl _ _).alloc (Nat.le_refl _) (vcell L162))).step hb
  have D7 : Below w.heap.size w v7 := (D6.alloc (by omega) _).trans (hb.mono (by simp; omega))
  have M7 := Q7.lt
  clear hb nc nf nl N1 n1
  clear sc sf sl pc pf pl
  obtain ⟨sc, sf, sl⟩ := block_cells U7.S
  obtain ⟨pc, pf, pl⟩ := block_cells U7.P
  go_wp2_with fail
  generalize hu : World.alloc _ _ = v8
  have Q8 : CO w.heap.size g x a y b v8 := by rw [← hu]; exact Q7.step ((Below.refl _ _).alloc (Nat.le_refl _) _)
  have U8 : CI bA bB tt (a.and (Vb.ones 16)) (x.and (Vb.ones 16)) v8 := by rw [← hu]; exact U7.step ((Below.refl _ _).alloc (Nat.le_refl _) _)
  have D8 : Below w.heap.size w v8 := by rw [← hu]; exact D7.alloc (by omega) _
  clear hu Q4 Q5 Q6 Q7 U4 U5 U6 U7 D4 D5 D6 D7 M5 M6 M7
  clear sc sf sl pc pf pl
  rw [rounds_succ]
  obtain ⟨tc, tf, tl⟩ := block_cells U8.T
  obtain ⟨sc, sf, sl⟩ := block_cells U8.S
  obtain ⟨pc, pf, pl⟩ := block_cells U8.P
  go_wp2_with fail
  clear tc tf tl
  refine (H163.out.u1 _).mono ?_
  rintro e v9 ⟨rfl, hb⟩
  have Q9 := Q8.step hb
  have U9 := U8.step hb
  have D9 : Below w.heap.size w v9 := D8.trans (hb.mono (by have := Q8.lt; omega))
  have M9 := Q9.lt
  clear hb
  clear sc sf sl pc pf pl
  obtain ⟨sc, sf, sl⟩ := block_cells U9.S
  obtain ⟨pc, pf, pl⟩ := block_cells U9.P
  go_wp2_with fail
  refine (H163.out.u2 _).mono ?_
  rintro e v10 ⟨rfl, hb⟩
  have hN := heap_alloc_new v9 (vcell W163)
  have N1 := (hb.block v9.heap.size (by simp)).trans hN
  have Q10 := (Q9.step ((Below.refl _ _).alloc (Nat.le_refl _) (vcell W163))).step hb
  have U10 := (U9.step ((Below.refl _ _).alloc (Nat.le_refl _) (vcell W163))).step hb
  have D10 : Below w.heap.size w v10 := (D9.alloc (by omega) _).trans (hb.mono (by simp; omega))
  have M10 := Q10.lt
  have n1 : v9.heap.size < v10.heap.size := (Array.getElem?_eq_some_iff.1 N1).1
  clear hb hN
  clear sc sf sl pc pf pl
  obtain ⟨sc, sf, sl⟩ := block_cells U10.S
  obtain ⟨pc, pf, pl⟩ := block_cells U10.P
  obtain ⟨nc, nf, nl⟩ := block_cells N1
  go_wp2_with fail
  refine (H163.out.u3 _).mono ?_
  rintro e v11 ⟨rfl, hb⟩
  have Q11 := (Q10.step ((Below.refl _ _).alloc (Nat.le_refl _) (vcell L163))).step hb
  have U11 := (U10.step ((Below.refl _ _).alloc (Nat.le_refl _) (vcell L163))).step hb
  have D11 : Below w.heap.size w v11 := (D10.alloc (by omega) _).trans (hb.mono (by simp; omega))
  have M11 := Q11.lt
  clear hb nc nf nl N1 n1
  clear sc sf sl pc pf pl
  obtain ⟨sc, sf, sl⟩ := block_cells U11.S
  obtain ⟨pc, pf, pl⟩ := block_cells U11.P
  go_wp2_with fail
  generalize hu : World.alloc _ _ = v12
  have Q12 : CO w.heap.size g x a y b v12 := by rw [← hu]; exact Q11.step ((Below.refl _ _).alloc (Nat.le_refl _) _)
  have U12 : CI bA bB tt (a.and (Vb.ones 16)) (x.and (Vb.ones 16)) v12 := by rw [← hu]; exact U11.step ((Below.refl _ _).alloc (Nat.le_refl _) _)
  have D12 : Below w.heap.size w v12 := by rw [← hu]; exact D11.alloc (by omega) _
  clear hu Q8 Q9 Q10 Q11 U8 U9 U10 U11 D8 D9 D10 D11 M9 M10 M11
  clear sc sf sl pc pf pl
  rw [rounds_succ]
  go_wp2_with fail
  clear U12 K12 B12
  rw [rounds_succ]
  go_wp2_with fail
  obtain ⟨xc, xf, xl⟩ := block_cells Q12.X
  obtain ⟨ac, af, al⟩ := block_cells Q12.A
  have L12 := Q12.lt
  have hj' := hj.out
  rw [hj']
  clear hj'
  refine FlowS.wp_region_store 10 11 12 24 _ (uv 0#32) (uv 0#32) (uv 0#32) (uv 0#32) (uv (sp).a) (uv (sp).b) (uv (sp).c) (uv (sp).d) 24 rfl rfl rfl (fun a w => by kernel_rfl) (by kernel_rfl) (by omega) (by omega) (by kernel_rfl) (by kernel_rfl) (fun R hRc hRt hRo hRs => ?_)
  simp only [List.take_succ_cons, List.take_zero, List.drop_succ_cons, List.drop_zero]
  iterate 12
    first
      | (refine FlowS.flow_make rfl ?_)
      | (refine FlowS.flow_store rfl rfl rfl ?_ ?_; (intro b1 w1 hb; have hzb := hRo.out b1 w1 hb; obtain ⟨hoc, hof, hos⟩ := FlowA.made_cells hzb; clear hzb; simp only [Act.put, List.setIfInBounds_toArray, List.set_cons_zero, List.set_cons_succ]; go_simp; exact hRs.out _ _ hb))
      | refine FlowS.flow_skip rfl rfl rfl ?_
      | (apply FlowS.flow_step; rfl; rfl; rfl; (intro s1 w1 hb; have hc := hRc.out s1 w1 hb; go_simp; (first | with_reducible exact ⟨rfl, hb⟩ | (go_at_call 20; refine (v_c _ _ ).mono ?_; rintro e w2 ⟨rfl, hb2⟩; exact ⟨_, rfl, rfl, hRt.out _ _ _ hb hb2⟩) | (go_at_call 18; refine (G1.out _ ).mono ?_; rintro e w2 ⟨rfl, hb2⟩; exact ⟨_, rfl, rfl, hRt.out _ _ _ hb hb2⟩))))
    simp only [Act.put, List.setIfInBounds_toArray, List.set_cons_zero, List.set_cons_succ]
  apply FlowS.flow_nil
  clear hRc hRt hRo hRs
  intro bS v13 hb hbb hob
  simp only [Act.put, List.setIfInBounds_toArray, List.set_cons_zero, List.set_cons_succ]
  obtain ⟨hc, hf⟩ := Flow.bcell hb
  have hz := hb.size
  (try simp only [World.size_alloc, World.size_setCell, World.size_drew] at hz)
  (try simp only [World.size_alloc, World.size_setCell, World.size_drew] at hbb)
  have Q13 := Q12.step hb
  have S13 : v13.heap[bS]? = some (vcell sp) := hob
  have D13 : Below w.heap.size w v13 := D12.trans (hb.mono (by omega))
  have L13 := Q13.lt
  clear hb hob hbb hc hf hz xc xf xl ac af al Q12 D12 L12
  obtain ⟨xc, xf, xl⟩ := block_cells Q13.X
  obtain ⟨sc, sf, sl⟩ := block_cells S13
  go_wp2_with fail
  refine (G2.out _).mono ?_
  rintro e v14 ⟨rfl, hb⟩
  have Q14 := Q13.step hb
  have D14 : Below w.heap.size w v14 := D13.trans (hb.mono (by omega))
  have L14 := Q14.lt
  clear hb xc xf xl sc sf sl S13 Q13 D13 L13
  go_wp2_with fail
  generalize hu : World.alloc _ _ = v15
  have O15 : v15.heap[v14.heap.size]? = some (vcell (V.word a.a)) := by rw [← hu]; exact heap_alloc_new v14 _
  have Q15 : CO w.heap.size g x a y b v15 := by rw [← hu]; exact Q14.step ((Below.refl _ _).alloc (Nat.le_refl _) _)
  have D15 : Below w.heap.size w v15 := by rw [← hu]; exact D14.alloc (by omega) _
  have L15 := Q15.lt
  clear hu Q14 D14 L14
  generalize v14.heap.size = bO at *
  obtain ⟨ac, af, al⟩ := block_cells Q15.A
  obtain ⟨oc, of, ol⟩ := block_cells O15
  refine Flow.wp_region_below 12 (by kernel_rfl) (by kernel_rfl) (fun R hRc hRt => ?_)
  simp only [List.take_succ_cons, List.take_zero, List.drop_succ_cons, List.drop_zero]
  iterate 12
    first
      | refine Flow.flow_skip rfl ?_
      | (apply Flow.flow_step; rfl; (intro w1 hb; have hc := hRc.out w1 hb; go_simp; (first | with_reducible exact ⟨rfl, hb⟩ | (go_at_call 20; refine (v_c _ _ ).mono ?_; rintro e w2 ⟨rfl, hb2⟩; exact ⟨_, rfl, rfl, hRt.out _ _ hb hb2⟩))))
      | (apply Flow.flow_guardT rfl rfl rfl; (intro hg w1 hb; have hc := hRc.out w1 hb; go_simp; (first | with_reducible exact ⟨rfl, hb⟩ | (go_at_call 20; refine (v_c _ _ ).mono ?_; rintro e w2 ⟨rfl, hb2⟩; exact ⟨_, rfl, rfl, hRt.out _ _ hb hb2⟩))))
      | (apply Flow.flow_guardF rfl rfl rfl; (intro hg w1 hb; have hc := hRc.out w1 hb; go_simp; (first | with_reducible exact ⟨rfl, hb⟩ | (go_at_call 20; refine (v_c _ _ ).mono ?_; rintro e w2 ⟨rfl, hb2⟩; exact ⟨_, rfl, rfl, hRt.out _ _ hb hb2⟩))))
      | (apply Flow.flow_guardT2 rfl rfl rfl; (intro hp hg w1 hb; have hc := hRc.out w1 hb; go_simp; (first | with_reducible exact ⟨rfl, hb⟩ | (go_at_call 20; refine (v_c _ _ ).mono ?_; rintro e w2 ⟨rfl, hb2⟩; exact ⟨_, rfl, rfl, hRt.out _ _ hb hb2⟩))))
      | (apply Flow.flow_guardF2 rfl rfl rfl; (intro hp hg w1 hb; have hc := hRc.out w1 hb; go_simp; (first | with_reducible exact ⟨rfl, hb⟩ | (go_at_call 20; refine (v_c _ _ ).mono ?_; rintro e w2 ⟨rfl, hb2⟩; exact ⟨_, rfl, rfl, hRt.out _ _ hb hb2⟩))))
    simp only [Act.put, List.setIfInBounds_toArray, List.set_cons_zero, List.set_cons_succ]
  apply Flow.flow_nil
  clear hRc hRt
  intro w1 hb
  obtain ⟨hc, hf⟩ := Flow.bcell hb
  have hz := hb.size
  (try simp only [World.size_alloc, World.size_setCell, World.size_drew] at hz)
  have Q16 := Q15.step hb
  have D16 : Below w.heap.size w w1 := D15.trans (hb.mono (by omega))
  clear hb hc hf hz ac af al oc of ol O15 Q15 D15 L15
  have L16 := Q16.lt
  obtain ⟨v16, hv⟩ : ∃ v, v = w1 := ⟨_, rfl⟩
  subst hv
  go_wp2_with fail
  obtain ⟨xc, xf, xl⟩ := block_cells Q16.X
  obtain ⟨ac, af, al⟩ := block_cells Q16.A
  obtain ⟨yc, yf, yl⟩ := block_cells Q16.Y
  obtain ⟨bc, bf, bl⟩ := block_cells Q16.B
  refine FlowS.wp_region_store 13 14 15 28 _ (uv 0#32) (uv 0#32) (uv 0#32) (uv 0#32) (uv (pt).a) (uv (pt).b) (uv (pt).c) (uv (pt).d) 24 rfl rfl rfl (fun a w => by kernel_rfl) (by kernel_rfl) (by omega) (by omega) (by kernel_rfl) (by kernel_rfl) (fun R hRc hRt hRo hRs => ?_)
  simp only [List.take_succ_cons, List.take_zero, List.drop_succ_cons, List.drop_zero]
  iterate 15
    first
      | (refine FlowS.flow_make rfl ?_)
      | (refine FlowS.flow_store rfl rfl rfl ?_ ?_; (intro b1 w1 hb; have hzb := hRo.out b1 w1 hb; obtain ⟨hoc, hof, hos⟩ := FlowA.made_cells hzb; clear hzb; simp only [Act.put, List.setIfInBounds_toArray, List.set_cons_zero, List.set_cons_succ]; go_simp; exact hRs.out _ _ hb))
      | refine FlowS.flow_skip rfl rfl rfl ?_
      | (apply FlowS.flow_step; rfl; rfl; rfl; (intro s1 w1 hb; have hc := hRc.out s1 w1 hb; go_simp; (first | with_reducible exact ⟨rfl, hb⟩ | (go_at_call 20; refine (v_c _ _ ).mono ?_; rintro e w2 ⟨rfl, hb2⟩; exact ⟨_, rfl, rfl, hRt.out _ _ _ hb hb2⟩) | (go_at_call 21; refine (G3.out _ ).mono ?_; rintro e w2 ⟨rfl, hb2⟩; exact ⟨_, rfl, rfl, hRt.out _ _ _ hb hb2⟩))))
    simp only [Act.put, List.setIfInBounds_toArray, List.set_cons_zero, List.set_cons_succ]
  apply FlowS.flow_nil
  clear hRc hRt hRo hRs
  intro bP v17 hb hbb hob
  simp only [Act.put, List.setIfInBounds_toArray, List.set_cons_zero, List.set_cons_succ]
  obtain ⟨hc, hf⟩ := Flow.bcell hb
  have hz := hb.size
  (try simp only [World.size_alloc, World.size_setCell, World.size_drew] at hz)
  (try simp only [World.size_alloc, World.size_setCell, World.size_drew] at hbb)
  have Q17 := Q16.step hb
  have P17 : v17.heap[bP]? = some (vcell pt) := hob
  have D17 : Below w.heap.size w v17 := D16.trans (hb.mono (by omega))
  have L17 := Q17.lt
  clear hb hob hbb hc hf hz xc xf xl ac af al yc yf yl bc bf bl Q16 D16 L16
  go_wp2_with fail
  obtain ⟨xc, xf, xl⟩ := block_cells Q17.X
  obtain ⟨yc, yf, yl⟩ := block_cells Q17.Y
  refine FlowS.wp_region_store 9 10 11 29 _ (uv 0#32) (uv 0#32) (uv 0#32) (uv 0#32) (uv (wt).a) (uv (wt).b) (uv (wt).c) (uv (wt).d) 24 rfl rfl rfl (fun a w => by kernel_rfl) (by kernel_rfl) (by omega) (by omega) (by kernel_rfl) (by kernel_rfl) (fun R hRc hRt hRo hRs => ?_)
  simp only [List.take_succ_cons, List.take_zero, List.drop_succ_cons, List.drop_zero]
  iterate 11
    first
      | (refine FlowS.flow_make rfl ?_)
      | (refine FlowS.flow_store rfl rfl rfl ?_ ?_; (intro b1 w1 hb; have hzb := hRo.out b1 w1 hb; obtain ⟨hoc, hof, hos⟩ := FlowA.made_cells hzb; clear hzb; simp only [Act.put, List.setIfInBounds_toArray, List.set_cons_zero, List.set_cons_succ]; go_simp; exact hRs.out _ _ hb))
      | refine FlowS.flow_skip rfl rfl rfl ?_
      | (apply FlowS.flow_step; rfl; rfl; rfl; (intro s1 w1 hb; have hc := hRc.out s1 w1 hb; go_simp; (first | with_reducible exact ⟨rfl, hb⟩ | (go_at_call 20; refine (v_c _ _ ).mono ?_; rintro e w2 ⟨rfl, hb2⟩; exact ⟨_, rfl, rfl, hRt.out _ _ _ hb hb2⟩) | (go_at_call 22; refine (G4.out _ ).mono ?_; rintro e w2 ⟨rfl, hb2⟩; exact ⟨_, rfl, rfl, hRt.out _ _ _ hb hb2⟩))))
    simp only [Act.put, List.setIfInBounds_toArray, List.set_cons_zero, List.set_cons_succ]
  apply FlowS.flow_nil
  clear hRc hRt hRo hRs
  intro bW v18 hb hbb hob
  simp only [Act.put, List.setIfInBounds_toArray, List.set_cons_zero, List.set_cons_succ]
  obtain ⟨hc, hf⟩ := Flow.bcell hb
  have hz := hb.size
  (try simp only [World.size_alloc, World.size_setCell, World.size_drew] at hz)
  (try simp only [World.size_alloc, World.size_setCell, World.size_drew] at hbb)
  have Q18 := Q17.step hb
  have P18 : v18.heap[bP]? = some (vcell pt) := (hb.block _ (Array.getElem?_eq_some_iff.1 P17).1).trans P17
  have W18 : v18.heap[bW]? = some (vcell wt) := hob
  have D18 : Below w.heap.size w v18 := D17.trans (hb.mono (by omega))
  have L18 := Q18.lt
  clear hb hob hbb hc hf hz xc xf xl yc yf yl P17 Q17 D17 L17
  obtain ⟨pc, pf, pl⟩ := block_cells P18
  obtain ⟨sc, sf, sl⟩ := block_cells W18
  go_wp2_with fail
  refine (G5.out _).mono ?_
  rintro e v19 ⟨rfl, hb⟩
  have Q19 := Q18.step hb
  have D19 : Below w.heap.size w v19 := D18.trans (hb.mono (by omega))
  have L19 := Q19.lt
  clear hb pc pf pl sc sf sl P18 W18 Q18 D18 L18
  go_wp2_with fail
  generalize hu : World.alloc _ _ = v20
  have O20 : v20.heap[v19.heap.size]? = some (vcell (V.word b.a)) := by rw [← hu]; exact heap_alloc_new v19 _
  have Q20 : CO w.heap.size g x a y b v20 := by rw [← hu]; exact Q19.step ((Below.refl _ _).alloc (Nat.le_refl _) _)
  have D20 : Below w.heap.size w v20 := by rw [← hu]; exact D19.alloc (by omega) _
  have L20 := Q20.lt
  clear hu Q19 D19 L19
  generalize v19.heap.size = bG at *
  obtain ⟨bc, bf, bl⟩ := block_cells Q20.B
  obtain ⟨oc, of, ol⟩ := block_cells O20
  refine Flow.wp_region_below 12 (by kernel_rfl) (by kernel_rfl) (fun R hRc hRt => ?_)
  simp only [List.take_succ_cons, List.take_zero, List.drop_succ_cons, List.drop_zero]
  iterate 12
    first
      | refine Flow.flow_skip rfl ?_
      | (apply Flow.flow_step; rfl; (intro w1 hb; have hc := hRc.out w1 hb; go_simp; (first | with_reducible exact ⟨rfl, hb⟩ | (go_at_call 20; refine (v_c _ _ ).mono ?_; rintro e w2 ⟨rfl, hb2⟩; exact ⟨_, rfl, rfl, hRt.out _ _ hb hb2⟩))))
      | (apply Flow.flow_guardT rfl rfl rfl; (intro hg w1 hb; have hc := hRc.out w1 hb; go_simp; (first | with_reducible exact ⟨rfl, hb⟩ | (go_at_call 20; refine (v_c _ _ ).mono ?_; rintro e w2 ⟨rfl, hb2⟩; exact ⟨_, rfl, rfl, hRt.out _ _ hb hb2⟩))))
      | (apply Flow.flow_guardF rfl rfl rfl; (intro hg w1 hb; have hc := hRc.out w1 hb; go_simp; (first | with_reducible exact ⟨rfl, hb⟩ | (go_at_call 20; refine (v_c _ _ ).mono ?_; rintro e w2 ⟨rfl, hb2⟩; exact ⟨_, rfl, rfl, hRt.out _ _ hb hb2⟩))))
      | (apply Flow.flow_guardT2 rfl rfl rfl; (intro hp hg w1 hb; have hc := hRc.out w1 hb; go_simp; (first | with_reducible exact ⟨rfl, hb⟩ | (go_at_call 20; refine (v_c _ _ ).mono ?_; rintro e w2 ⟨rfl, hb2⟩; exact ⟨_, rfl, rfl, hRt.out _ _ hb hb2⟩))))
      | (apply Flow.flow_guardF2 rfl rfl rfl; (intro hp hg w1 hb; have hc := hRc.out w1 hb; go_simp; (first | with_reducible exact ⟨rfl, hb⟩ | (go_at_call 20; refine (v_c _ _ ).mono ?_; rintro e w2 ⟨rfl, hb2⟩; exact ⟨_, rfl, rfl, hRt.out _ _ hb hb2⟩))))
    simp only [Act.put, List.setIfInBounds_toArray, List.set_cons_zero, List.set_cons_succ]
  apply Flow.flow_nil
  clear hRc hRt
  intro w1 hb
  obtain ⟨hc, hf⟩ := Flow.bcell hb
  have hz := hb.size
  (try simp only [World.size_alloc, World.size_setCell, World.size_drew] at hz)
  have Q21 := Q20.step hb
  have D21 : Below w.heap.size w w1 := D20.trans (hb.mono (by omega))
  clear hb hc hf hz bc bf bl oc of ol O20 Q20 D20 L20
  have L21 := Q21.lt
  obtain ⟨v21, hv⟩ : ∃ v, v = w1 := ⟨_, rfl⟩
  subst hv
  go_wp2_with fail
  obtain ⟨xc, xf, xl⟩ := block_cells Q21.X
  obtain ⟨ac, af, al⟩ := block_cells Q21.A
  refine FlowS.wp_region_store 15 16 17 32 _ (uv 0#32) (uv 0#32) (uv 0#32) (uv 0#32) (uv (a).a) (uv (a).b) (uv (a).c) (uv (a).d) 24 rfl rfl rfl (fun a w => by kernel_rfl) (by kernel_rfl) (by omega) (by omega) (by kernel_rfl) (by kernel_rfl) (fun R hRc hRt hRo hRs => ?_)
  simp only [List.take_succ_cons, List.take_zero, List.drop_succ_cons, List.drop_zero]
  iterate 17
    first
      | (refine FlowS.flow_make rfl ?_)
      | (refine FlowS.flow_store rfl rfl rfl ?_ ?_; (intro b1 w1 hb; have hzb := hRo.out b1 w1 hb; obtain ⟨hoc, hof, hos⟩ := FlowA.made_cells hzb; clear hzb; simp only [Act.put, List.setIfInBounds_toArray, List.set_cons_zero, List.set_cons_succ]; go_simp; exact hRs.out _ _ hb))
      | refine FlowS.flow_skip rfl rfl rfl ?_
      | (apply FlowS.flow_step; rfl; rfl; rfl; (intro s1 w1 hb; have hc := hRc.out s1 w1 hb; go_simp; (first | with_reducible exact ⟨rfl, hb⟩ | (go_at_call 20; refine (v_c _ _ ).mono ?_; rintro e w2 ⟨rfl, hb2⟩; exact ⟨_, rfl, rfl, hRt.out _ _ _ hb hb2⟩) | (go_at_call 21; refine (G6.out _ ).mono ?_; rintro e w2 ⟨rfl, hb2⟩; exact ⟨_, rfl, rfl, hRt.out _ _ _ hb hb2⟩))))
    simp only [Act.put, List.setIfInBounds_toArray, List.set_cons_zero, List.set_cons_succ]
  apply FlowS.flow_nil
  clear hRc hRt hRo hRs
  intro bE v22 hb hbb hob
  simp only [Act.put, List.setIfInBounds_toArray, List.set_cons_zero, List.set_cons_succ]
  obtain ⟨hc, hf⟩ := Flow.bcell hb
  have hz := hb.size
  (try simp only [World.size_alloc, World.size_setCell, World.size_drew] at hz)
  (try simp only [World.size_alloc, World.size_setCell, World.size_drew] at hbb)
  have Q22 := Q21.step hb
  have E22 : v22.heap[bE]? = some (vcell a) := hob
  have D22 : Below w.heap.size w v22 := D21.trans (hb.mono (by omega))
  have L22 := Q22.lt
  clear hb hob hbb hc hf hz xc xf xl ac af al Q21 D21 L21
  obtain ⟨ac, af, al⟩ := block_cells Q22.A
  obtain ⟨sc, sf, sl⟩ := block_cells E22
  go_wp2_with fail
  go_ret
  exact ⟨rfl, D22⟩

end Go.Proofs.YtboknfppecgjmaaGreat
