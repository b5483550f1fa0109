/- Part 19 of the proof's texts: Sane. -/
import Derived.Test.YtboknfppecgjmaaGreatExa14
set_option maxHeartbeats 16000000
namespace Go.Proofs.YtboknfppecgjmaaGreat
set_option linter.unusedVariables false
set_option linter.unusedSimpArgs false
open Go.RowKit Go.Shelf
theorem sb0_v : Vb.bin 8 32 0 (V.word 255#32) (V.word 240#32) (V.word 15#32) (V.word 0#32) = ((V.word 0#32), 0) := by decide
theorem sb0_c (w : World) : Calls Tryz.prog 30 #[iv 8, uv 255#32, uv 240#32, uv 15#32, uv 0#32] w fun e w' => e = .returned (.tuple #[vv (V.word 0#32), iv 0]) ∧ Below w.heap.size w w' := by
  have h := lbin_c 8 255#32 240#32 15#32 0#32 w
  rw [sb0_v] at h
  exact h
theorem sb1_v : Vb.bin 1 32 0 (V.word 0#32) (V.word 1#32) (V.word 1#32) (V.word 0#32) = ((V.word 3#32), 0) := by decide
theorem sb1_c (w : World) : Calls Tryz.prog 30 #[iv 1, uv 0#32, uv 1#32, uv 1#32, uv 0#32] w fun e w' => e = .returned (.tuple #[vv (V.word 3#32), iv 0]) ∧ Below w.heap.size w w' := by
  have h := lbin_c 1 0#32 1#32 1#32 0#32 w
  rw [sb1_v] at h
  exact h
theorem sb2_v : Vb.bin 1 32 0 (V.word 0#32) (V.word 1#32) (V.word 2#32) (V.word 0#32) = ((V.word 1#32), 0) := by decide
theorem sb2_c (w : World) : Calls Tryz.prog 30 #[iv 1, uv 0#32, uv 1#32, uv 2#32, uv 0#32] w fun e w' => e = .returned (.tuple #[vv (V.word 1#32), iv 0]) ∧ Below w.heap.size w w' := by
  have h := lbin_c 1 0#32 1#32 2#32 0#32 w
  rw [sb2_v] at h
  exact h
theorem sb3_v : Vb.bin 14 32 0 (V.word 2#32) (V.word 1#32) (V.word 4#32) (V.word 0#32) = ((V.word 0#32), 0) := by decide
theorem sb3_c (w : World) : Calls Tryz.prog 30 #[iv 14, uv 2#32, uv 1#32, uv 4#32, uv 0#32] w fun e w' => e = .returned (.tuple #[vv (V.word 0#32), iv 0]) ∧ Below w.heap.size w w' := by
  have h := lbin_c 14 2#32 1#32 4#32 0#32 w
  rw [sb3_v] at h
  exact h
theorem sb4_v : Vb.bin 14 32 0 (V.word 4#32) (V.word 1#32) (V.word 4#32) (V.word 0#32) = ((V.word 1#32), 0) := by decide
theorem sb4_c (w : World) : Calls Tryz.prog 30 #[iv 14, uv 4#32, uv 1#32, uv 4#32, uv 0#32] w fun e w' => e = .returned (.tuple #[vv (V.word 1#32), iv 0]) ∧ Below w.heap.size w w' := by
  have h := lbin_c 14 4#32 1#32 4#32 0#32 w
  rw [sb4_v] at h
  exact h
theorem sb5_v : Vb.bin 3 32 0 (V.word 2#32) (V.word 4#32) (V.word 3#32) (V.word 0#32) = ((V.word 4294967292#32), 0) := by decide
theorem sb5_c (w : World) : Calls Tryz.prog 30 #[iv 3, uv 2#32, uv 4#32, uv 3#32, uv 0#32] w fun e w' => e = .returned (.tuple #[vv (V.word 4294967292#32), iv 0]) ∧ Below w.heap.size w w' := by
  have h := lbin_c 3 2#32 4#32 3#32 0#32 w
  rw [sb5_v] at h
  exact h
theorem sb6_v : Vb.bin 16 32 0 (V.word 0#32) (V.word 7#32) (V.word 8#32) (V.word 0#32) = ((V.word 0#32), 0) := by decide
theorem sb6_c (w : World) : Calls Tryz.prog 30 #[iv 16, uv 0#32, uv 7#32, uv 8#32, uv 0#32] w fun e w' => e = .returned (.tuple #[vv (V.word 0#32), iv 0]) ∧ Below w.heap.size w w' := by
  have h := lbin_c 16 0#32 7#32 8#32 0#32 w
  rw [sb6_v] at h
  exact h
theorem sb7_v : Vb.bin 16 32 0 (V.word 0#32) (V.word 7#32) (V.word 7#32) (V.word 0#32) = ((V.word 1#32), 0) := by decide
theorem sb7_c (w : World) : Calls Tryz.prog 30 #[iv 16, uv 0#32, uv 7#32, uv 7#32, uv 0#32] w fun e w' => e = .returned (.tuple #[vv (V.word 1#32), iv 0]) ∧ Below w.heap.size w w' := by
  have h := lbin_c 16 0#32 7#32 7#32 0#32 w
  rw [sb7_v] at h
  exact h
theorem su0_v : Vb.un 5 32 1 0 (V.word 8#32) (V.word 7#32) = ((V.word 0#32), 0) := by decide
theorem su0_c (w : World) : Calls Tryz.prog 18 #[iv 5, iv 32, iv 1, iv 0, vv (V.word 8#32), vv (V.word 7#32)] w fun e w' => e = .returned (.tuple #[vv (V.word 0#32), iv 0]) ∧ Below w.heap.size w w' := by
  have h := un_c 5 32 1 0 (V.word 8#32) (V.word 7#32) w
  rw [su0_v] at h
  exact h
theorem su1_v : Vb.un 5 32 1 0 (V.word 0#32) (V.word 7#32) = ((V.word 1#32), 0) := by decide
theorem su1_c (w : World) : Calls Tryz.prog 18 #[iv 5, iv 32, iv 1, iv 0, vv (V.word 0#32), vv (V.word 7#32)] w fun e w' => e = .returned (.tuple #[vv (V.word 1#32), iv 0]) ∧ Below w.heap.size w w' := by
  have h := un_c 5 32 1 0 (V.word 0#32) (V.word 7#32) w
  rw [su1_v] at h
  exact h
theorem su2_v : Vb.un 3 8 32 0 (V.word 128#32) (V.word 128#32) = ((V.word 4294967168#32), 0) := by decide
theorem su2_c (w : World) : Calls Tryz.prog 18 #[iv 3, iv 8, iv 32, iv 0, vv (V.word 128#32), vv (V.word 128#32)] w fun e w' => e = .returned (.tuple #[vv (V.word 4294967168#32), iv 0]) ∧ Below w.heap.size w w' := by
  have h := un_c 3 8 32 0 (V.word 128#32) (V.word 128#32) w
  rw [su2_v] at h
  exact h
theorem sm_v : Vb.mux 8 (V.word 1#32) (V.word 1#32) (V.word 15#32) (V.word 0#32) (V.word 63#32) (V.word 0#32) = ((V.word 48#32), 0) := by decide
theorem sm_c (w : World) : Calls Tryz.prog 32 #[iv 8, vv (V.word 1#32), vv (V.word 1#32), vv (V.word 15#32), vv (V.word 0#32), vv (V.word 63#32), vv (V.word 0#32)] w fun e w' => e = .returned (.tuple #[vv (V.word 48#32), iv 0]) ∧ Below w.heap.size w w' := by
  have h := mux_c 8 (V.word 1#32) (V.word 1#32) (V.word 15#32) (V.word 0#32) (V.word 63#32) (V.word 0#32) w
  rw [sm_v] at h
  exact h
theorem se_v : Vb.bin 1 8 0 (V.word 0#32) (V.word 0#32) (V.word 0#32) (V.word 0#32) = (V.zero, 1) := by decide
theorem se_c (w : World) : Calls Tryz.prog 21 #[iv 1, iv 8, iv 0, vv (V.word 0#32), vv (V.word 0#32), vv (V.word 0#32), vv (V.word 0#32)] w fun e w' => e = .returned (.tuple #[vv V.zero, iv 1]) ∧ Below w.heap.size w w' := by
  have h := bin_c 1 8 0 (V.word 0#32) (V.word 0#32) (V.word 0#32) (V.word 0#32) w
  rw [se_v] at h
  exact h
theorem sc_c (b off cap : Nat) (w : World) (c0 : w.cell? ⟨b, off, none⟩ = some (uv 0#32)) (c1 : w.cell? ⟨b, off + 1, none⟩ = some (uv 0#32)) (c2 : w.cell? ⟨b, off + 2, none⟩ = some (uv 1#32)) (c3 : w.cell? ⟨b, off + 3, none⟩ = some (uv 0#32)) :
    Calls Tryz.prog 33 #[iv 1, .slice (some ⟨b, off, none⟩) 4 cap] w fun e w' => e = .returned (.tuple #[uv 15#32, iv 0]) ∧ w' = w := by
  have h := call4_c 0#32 0#32 1#32 0#32 b off cap w c0 c1 c2 c3
  have hv : Vb.call 1 [0#32, 0#32, 1#32, 0#32] = (15#32, 0) := by decide
  rw [hv] at h
  exact h
theorem gt_c (n : BitVec 32) (w : World) : Calls Tryz.prog 31 #[vv (V.word n), iv 0, uv n] w fun r w' => r = .returned (.bool true) ∧ Below w.heap.size w w' := by
  have h := gives_c (V.word n) 0 n w
  have hv : ((0 : Int) == 0 && decide (V.word n = V.word n)) = true := by simp
  rw [hv] at h
  exact h
set_option maxRecDepth 100000 in
theorem sane_c (w : World) : Calls Tryz.prog 7 #[] w fun e w' => e = .returned (.bool true) ∧ Below w.heap.size w w' := by
  go_enter Tryz.func7, Tryz.ntmps7
  go_wp2_with fail
  (refine (sb0_c _).mono ?_; rintro e u0 ⟨rfl, hb⟩; obtain ⟨hc, hf⟩ := Flow.bcell hb; have hz := hb.size; (try simp only [World.size_alloc, World.size_setCell, World.size_drew] at hz))
  go_wp2_with fail
  (refine (sb1_c _).mono ?_; rintro e u1 ⟨rfl, hb⟩; obtain ⟨hc, hf⟩ := Flow.bcell hb; have hz := hb.size; (try simp only [World.size_alloc, World.size_setCell, World.size_drew] at hz))
  have hl0_1 : u0.heap.size < u1.heap.size := by omega
  go_wp2_with fail
  (refine (sb2_c _).mono ?_; rintro e u2 ⟨rfl, hb⟩; obtain ⟨hc, hf⟩ := Flow.bcell hb; have hz := hb.size; (try simp only [World.size_alloc, World.size_setCell, World.size_drew] at hz))
  have hl1_2 : u1.heap.size < u2.heap.size := by omega
  have hl0_2 : u0.heap.size < u2.heap.size := by omega
  go_wp2_with fail
  (refine (gt_c _ _).mono ?_; rintro e u3 ⟨rfl, hb⟩; obtain ⟨hc, hf⟩ := Flow.bcell hb; have hz := hb.size; (try simp only [World.size_alloc, World.size_setCell, World.size_drew] at hz))
  have hl0_3 : u0.heap.size < u3.heap.size := by omega
  have hl1_3 : u1.heap.size < u3.heap.size := by omega
  have hl2_3 : u2.heap.size < u3.heap.size := by omega
  go_wp2_with fail
  (refine (gt_c _ _).mono ?_; rintro e u4 ⟨rfl, hb⟩; obtain ⟨hc, hf⟩ := Flow.bcell hb; have hz := hb.size; (try simp only [World.size_alloc, World.size_setCell, World.size_drew] at hz))
  have hl0_4 : u0.heap.size < u4.heap.size := by omega
  have hl1_4 : u1.heap.size < u4.heap.size := by omega
  have hl2_4 : u2.heap.size < u4.heap.size := by omega
  go_wp2_with fail
  (refine (gt_c _ _).mono ?_; rintro e u5 ⟨rfl, hb⟩; obtain ⟨hc, hf⟩ := Flow.bcell hb; have hz := hb.size; (try simp only [World.size_alloc, World.size_setCell, World.size_drew] at hz))
  have hl0_5 : u0.heap.size < u5.heap.size := by omega
  have hl1_5 : u1.heap.size < u5.heap.size := by omega
  have hl2_5 : u2.heap.size < u5.heap.size := by omega
  go_wp2_with fail
  have c000 : u5.cell? ⟨u0.heap.size, 0, none⟩ = some (uv 0#32) := by go_simp
  have f000 : u5.frozen? ⟨u0.heap.size, 0, none⟩ = false := by go_simp
  have c001 : u5.cell? ⟨u0.heap.size, 1, none⟩ = some (uv 0#32) := by go_simp
  have f001 : u5.frozen? ⟨u0.heap.size, 1, none⟩ = false := by go_simp
  have c002 : u5.cell? ⟨u0.heap.size, 2, none⟩ = some (uv 0#32) := by go_simp
  have f002 : u5.frozen? ⟨u0.heap.size, 2, none⟩ = false := by go_simp
  have c003 : u5.cell? ⟨u0.heap.size, 3, none⟩ = some (uv 0#32) := by go_simp
  have f003 : u5.frozen? ⟨u0.heap.size, 3, none⟩ = false := by go_simp
  have c010 : u5.cell? ⟨u1.heap.size, 0, none⟩ = some (uv 3#32) := by go_simp
  have f010 : u5.frozen? ⟨u1.heap.size, 0, none⟩ = false := by go_simp
  have c011 : u5.cell? ⟨u1.heap.size, 1, none⟩ = some (uv 0#32) := by go_simp
  have f011 : u5.frozen? ⟨u1.heap.size, 1, none⟩ = false := by go_simp
  have c012 : u5.cell? ⟨u1.heap.size, 2, none⟩ = some (uv 0#32) := by go_simp
  have f012 : u5.frozen? ⟨u1.heap.size, 2, none⟩ = false := by go_simp
  have c013 : u5.cell? ⟨u1.heap.size, 3, none⟩ = some (uv 0#32) := by go_simp
  have f013 : u5.frozen? ⟨u1.heap.size, 3, none⟩ = false := by go_simp
  have c020 : u5.cell? ⟨u2.heap.size, 0, none⟩ = some (uv 1#32) := by go_simp
  have f020 : u5.frozen? ⟨u2.heap.size, 0, none⟩ = false := by go_simp
  have c021 : u5.cell? ⟨u2.heap.size, 1, none⟩ = some (uv 0#32) := by go_simp
  have f021 : u5.frozen? ⟨u2.heap.size, 1, none⟩ = false := by go_simp
  have c022 : u5.cell? ⟨u2.heap.size, 2, none⟩ = some (uv 0#32) := by go_simp
  have f022 : u5.frozen? ⟨u2.heap.size, 2, none⟩ = false := by go_simp
  have c023 : u5.cell? ⟨u2.heap.size, 3, none⟩ = some (uv 0#32) := by go_simp
  have f023 : u5.frozen? ⟨u2.heap.size, 3, none⟩ = false := by go_simp
  have hbw0 : Below w.heap.size w u5 := by (repeat (first | exact Below.refl _ _ | refine Below.setCell ?_ (by first | omega | (simp <;> omega)) _ | refine Below.alloc ?_ (by first | omega | (simp <;> omega)) _ | refine Below.drew ?_ | refine Below.trans ?_ (Below.mono (by assumption) (by first | omega | (simp <;> omega)))))
  have hbb0 : w.heap.size ≤ u0.heap.size := by omega
  have hbc0 : u0.heap.size < u1.heap.size ∧ u1.heap.size < u2.heap.size ∧ u2.heap.size < u5.heap.size := by omega
  revert c000 f000 c001 f001 c002 f002 c003 f003 c010 f010 c011 f011 c012 f012 c013 f013 c020 f020 c021 f021 c022 f022 c023 f023 hbw0 hbb0 hbc0
  generalize u0.heap.size = C00
  generalize u1.heap.size = C01
  generalize u2.heap.size = C02
  generalize u5 = W0
  intro c000 f000 c001 f001 c002 f002 c003 f003 c010 f010 c011 f011 c012 f012 c013 f013 c020 f020 c021 f021 c022 f022 c023 f023 hbw0 hbb0 hbc0
  obtain ⟨hC1a, hC1b, hC1c⟩ := hbc0
  have hD1a : C00 < W0.heap.size := by omega
  have hD1b : C01 < W0.heap.size := by omega
  have hD1c : C00 < C02 := by omega
  (refine (sb3_c _).mono ?_; rintro e u6 ⟨rfl, hb⟩; obtain ⟨hc, hf⟩ := Flow.bcell hb; have hz := hb.size; (try simp only [World.size_alloc, World.size_setCell, World.size_drew] at hz))
  have hl0_6 : C00 < u6.heap.size := by omega
  have hl1_6 : C01 < u6.heap.size := by omega
  have hl2_6 : C02 < u6.heap.size := by omega
  have hm_6 : W0.heap.size ≤ u6.heap.size := by omega
  go_wp2_with fail
  (refine (sb4_c _).mono ?_; rintro e u7 ⟨rfl, hb⟩; obtain ⟨hc, hf⟩ := Flow.bcell hb; have hz := hb.size; (try simp only [World.size_alloc, World.size_setCell, World.size_drew] at hz))
  have hl0_7 : C00 < u7.heap.size := by omega
  have hl1_7 : C01 < u7.heap.size := by omega
  have hl2_7 : C02 < u7.heap.size := by omega
  have hm_7 : u6.heap.size ≤ u7.heap.size := by omega
  go_wp2_with fail
  (refine (sb5_c _).mono ?_; rintro e u8 ⟨rfl, hb⟩; obtain ⟨hc, hf⟩ := Flow.bcell hb; have hz := hb.size; (try simp only [World.size_alloc, World.size_setCell, World.size_drew] at hz))
  have hl0_8 : C00 < u8.heap.size := by omega
  have hl1_8 : C01 < u8.heap.size := by omega
  have hl2_8 : C02 < u8.heap.size := by omega
  have hm_8 : u7.heap.size ≤ u8.heap.size := by omega
  go_wp2_with fail
  (refine (gt_c _ _).mono ?_; rintro e u9 ⟨rfl, hb⟩; obtain ⟨hc, hf⟩ := Flow.bcell hb; have hz := hb.size; (try simp only [World.size_alloc, World.size_setCell, World.size_drew] at hz))
  have hl0_9 : C00 < u9.heap.size := by omega
  have hl1_9 : C01 < u9.heap.size := by omega
  have hl2_9 : C02 < u9.heap.size := by omega
  have hm_9 : u8.heap.size ≤ u9.heap.size := by omega
  go_wp2_with fail
  (refine (gt_c _ _).mono ?_; rintro e u10 ⟨rfl, hb⟩; obtain ⟨hc, hf⟩ := Flow.bcell hb; have hz := hb.size; (try simp only [World.size_alloc, World.size_setCell, World.size_drew] at hz))
  have hl0_10 : C00 < u10.heap.size := by omega
  have hl1_10 : C01 < u10.heap.size := by omega
  have hl2_10 : C02 < u10.heap.size := by omega
  have hm_10 : u9.heap.size ≤ u10.heap.size := by omega
  go_wp2_with fail
  (refine (gt_c _ _).mono ?_; rintro e u11 ⟨rfl, hb⟩; obtain ⟨hc, hf⟩ := Flow.bcell hb; have hz := hb.size; (try simp only [World.size_alloc, World.size_setCell, World.size_drew] at hz))
  have hl0_11 : C00 < u11.heap.size := by omega
  have hl1_11 : C01 < u11.heap.size := by omega
  have hl2_11 : C02 < u11.heap.size := by omega
  have hm_11 : u10.heap.size ≤ u11.heap.size := by omega
  go_wp2_with fail
  have c100 : u11.cell? ⟨C00, 0, none⟩ = some (uv 0#32) := by go_simp
  have f100 : u11.frozen? ⟨C00, 0, none⟩ = false := by go_simp
  have c101 : u11.cell? ⟨C00, 1, none⟩ = some (uv 0#32) := by go_simp
  have f101 : u11.frozen? ⟨C00, 1, none⟩ = false := by go_simp
  have c102 : u11.cell? ⟨C00, 2, none⟩ = some (uv 0#32) := by go_simp
  have f102 : u11.frozen? ⟨C00, 2, none⟩ = false := by go_simp
  have c103 : u11.cell? ⟨C00, 3, none⟩ = some (uv 0#32) := by go_simp
  have f103 : u11.frozen? ⟨C00, 3, none⟩ = false := by go_simp
  have c110 : u11.cell? ⟨C01, 0, none⟩ = some (uv 1#32) := by go_simp
  have f110 : u11.frozen? ⟨C01, 0, none⟩ = false := by go_simp
  have c111 : u11.cell? ⟨C01, 1, none⟩ = some (uv 0#32) := by go_simp
  have f111 : u11.frozen? ⟨C01, 1, none⟩ = false := by go_simp
  have c112 : u11.cell? ⟨C01, 2, none⟩ = some (uv 0#32) := by go_simp
  have f112 : u11.frozen? ⟨C01, 2, none⟩ = false := by go_simp
  have c113 : u11.cell? ⟨C01, 3, none⟩ = some (uv 0#32) := by go_simp
  have f113 : u11.frozen? ⟨C01, 3, none⟩ = false := by go_simp
  have c120 : u11.cell? ⟨C02, 0, none⟩ = some (uv 4294967292#32) := by go_simp
  have f120 : u11.frozen? ⟨C02, 0, none⟩ = false := by go_simp
  have c121 : u11.cell? ⟨C02, 1, none⟩ = some (uv 0#32) := by go_simp
  have f121 : u11.frozen? ⟨C02, 1, none⟩ = false := by go_simp
  have c122 : u11.cell? ⟨C02, 2, none⟩ = some (uv 0#32) := by go_simp
  have f122 : u11.frozen? ⟨C02, 2, none⟩ = false := by go_simp
  have c123 : u11.cell? ⟨C02, 3, none⟩ = some (uv 0#32) := by go_simp
  have f123 : u11.frozen? ⟨C02, 3, none⟩ = false := by go_simp
  have hbw1 : Below w.heap.size w u11 := by (repeat (first | exact Below.refl _ _ | refine Below.setCell ?_ (by first | omega | (simp <;> omega)) _ | refine Below.alloc ?_ (by first | omega | (simp <;> omega)) _ | refine Below.drew ?_ | refine Below.trans ?_ (Below.mono (by assumption) (by first | omega | (simp <;> omega)))))
  have hbb1 : w.heap.size ≤ C00 := by omega
  have hbc1 : C00 < C01 ∧ C01 < C02 ∧ C02 < u11.heap.size := by omega
  revert c100 f100 c101 f101 c102 f102 c103 f103 c110 f110 c111 f111 c112 f112 c113 f113 c120 f120 c121 f121 c122 f122 c123 f123 hbw1 hbb1 hbc1
  generalize C00 = C10
  generalize C01 = C11
  generalize C02 = C12
  generalize u11 = W1
  intro c100 f100 c101 f101 c102 f102 c103 f103 c110 f110 c111 f111 c112 f112 c113 f113 c120 f120 c121 f121 c122 f122 c123 f123 hbw1 hbb1 hbc1
  obtain ⟨hC2a, hC2b, hC2c⟩ := hbc1
  have hD2a : C10 < W1.heap.size := by omega
  have hD2b : C11 < W1.heap.size := by omega
  have hD2c : C10 < C12 := by omega
  (refine (sb6_c _).mono ?_; rintro e u12 ⟨rfl, hb⟩; obtain ⟨hc, hf⟩ := Flow.bcell hb; have hz := hb.size; (try simp only [World.size_alloc, World.size_setCell, World.size_drew] at hz))
  have hl0_12 : C10 < u12.heap.size := by omega
  have hl1_12 : C11 < u12.heap.size := by omega
  have hl2_12 : C12 < u12.heap.size := by omega
  have hm_12 : W1.heap.size ≤ u12.heap.size := by omega
  go_wp2_with fail
  (refine (sb7_c _).mono ?_; rintro e u13 ⟨rfl, hb⟩; obtain ⟨hc, hf⟩ := Flow.bcell hb; have hz := hb.size; (try simp only [World.size_alloc, World.size_setCell, World.size_drew] at hz))
  have hl0_13 : C10 < u13.heap.size := by omega
  have hl1_13 : C11 < u13.heap.size := by omega
  have hl2_13 : C12 < u13.heap.size := by omega
  have hm_13 : u12.heap.size ≤ u13.heap.size := by omega
  go_wp2_with fail
  (refine (gt_c _ _).mono ?_; rintro e u14 ⟨rfl, hb⟩; obtain ⟨hc, hf⟩ := Flow.bcell hb; have hz := hb.size; (try simp only [World.size_alloc, World.size_setCell, World.size_drew] at hz))
  have hl0_14 : C10 < u14.heap.size := by omega
  have hl1_14 : C11 < u14.heap.size := by omega
  have hl2_14 : C12 < u14.heap.size := by omega
  have hm_14 : u13.heap.size ≤ u14.heap.size := by omega
  go_wp2_with fail
  (refine (gt_c _ _).mono ?_; rintro e u15 ⟨rfl, hb⟩; obtain ⟨hc, hf⟩ := Flow.bcell hb; have hz := hb.size; (try simp only [World.size_alloc, World.size_setCell, World.size_drew] at hz))
  have hl0_15 : C10 < u15.heap.size := by omega
  have hl1_15 : C11 < u15.heap.size := by omega
  have hl2_15 : C12 < u15.heap.size := by omega
  have hm_15 : u14.heap.size ≤ u15.heap.size := by omega
  go_wp2_with fail
  have c200 : u15.cell? ⟨C10, 0, none⟩ = some (uv 0#32) := by go_simp
  have f200 : u15.frozen? ⟨C10, 0, none⟩ = false := by go_simp
  have c201 : u15.cell? ⟨C10, 1, none⟩ = some (uv 0#32) := by go_simp
  have f201 : u15.frozen? ⟨C10, 1, none⟩ = false := by go_simp
  have c202 : u15.cell? ⟨C10, 2, none⟩ = some (uv 0#32) := by go_simp
  have f202 : u15.frozen? ⟨C10, 2, none⟩ = false := by go_simp
  have c203 : u15.cell? ⟨C10, 3, none⟩ = some (uv 0#32) := by go_simp
  have f203 : u15.frozen? ⟨C10, 3, none⟩ = false := by go_simp
  have c210 : u15.cell? ⟨C11, 0, none⟩ = some (uv 1#32) := by go_simp
  have f210 : u15.frozen? ⟨C11, 0, none⟩ = false := by go_simp
  have c211 : u15.cell? ⟨C11, 1, none⟩ = some (uv 0#32) := by go_simp
  have f211 : u15.frozen? ⟨C11, 1, none⟩ = false := by go_simp
  have c212 : u15.cell? ⟨C11, 2, none⟩ = some (uv 0#32) := by go_simp
  have f212 : u15.frozen? ⟨C11, 2, none⟩ = false := by go_simp
  have c213 : u15.cell? ⟨C11, 3, none⟩ = some (uv 0#32) := by go_simp
  have f213 : u15.frozen? ⟨C11, 3, none⟩ = false := by go_simp
  have c220 : u15.cell? ⟨C12, 0, none⟩ = some (uv 4294967292#32) := by go_simp
  have f220 : u15.frozen? ⟨C12, 0, none⟩ = false := by go_simp
  have c221 : u15.cell? ⟨C12, 1, none⟩ = some (uv 0#32) := by go_simp
  have f221 : u15.frozen? ⟨C12, 1, none⟩ = false := by go_simp
  have c222 : u15.cell? ⟨C12, 2, none⟩ = some (uv 0#32) := by go_simp
  have f222 : u15.frozen? ⟨C12, 2, none⟩ = false := by go_simp
  have c223 : u15.cell? ⟨C12, 3, none⟩ = some (uv 0#32) := by go_simp
  have f223 : u15.frozen? ⟨C12, 3, none⟩ = false := by go_simp
  have hbw2 : Below w.heap.size w u15 := by (repeat (first | exact Below.refl _ _ | refine Below.setCell ?_ (by first | omega | (simp <;> omega)) _ | refine Below.alloc ?_ (by first | omega | (simp <;> omega)) _ | refine Below.drew ?_ | refine Below.trans ?_ (Below.mono (by assumption) (by first | omega | (simp <;> omega)))))
  have hbb2 : w.heap.size ≤ C10 := by omega
  have hbc2 : C10 < C11 ∧ C11 < C12 ∧ C12 < u15.heap.size := by omega
  revert c200 f200 c201 f201 c202 f202 c203 f203 c210 f210 c211 f211 c212 f212 c213 f213 c220 f220 c221 f221 c222 f222 c223 f223 hbw2 hbb2 hbc2
  generalize C10 = C20
  generalize C11 = C21
  generalize C12 = C22
  generalize u15 = W2
  intro c200 f200 c201 f201 c202 f202 c203 f203 c210 f210 c211 f211 c212 f212 c213 f213 c220 f220 c221 f221 c222 f222 c223 f223 hbw2 hbb2 hbc2
  obtain ⟨hC3a, hC3b, hC3c⟩ := hbc2
  have hD3a : C20 < W2.heap.size := by omega
  have hD3b : C21 < W2.heap.size := by omega
  have hD3c : C20 < C22 := by omega
  (refine (v_c _ _).mono ?_; rintro e u16 ⟨rfl, hb⟩; obtain ⟨hc, hf⟩ := Flow.bcell hb; have hz := hb.size; (try simp only [World.size_alloc, World.size_setCell, World.size_drew] at hz))
  have hl0_16 : C20 < u16.heap.size := by omega
  have hl1_16 : C21 < u16.heap.size := by omega
  have hl2_16 : C22 < u16.heap.size := by omega
  have hm_16 : W2.heap.size ≤ u16.heap.size := by omega
  go_wp2_with fail
  (refine (v_c _ _).mono ?_; rintro e u17 ⟨rfl, hb⟩; obtain ⟨hc, hf⟩ := Flow.bcell hb; have hz := hb.size; (try simp only [World.size_alloc, World.size_setCell, World.size_drew] at hz))
  have hl0_17 : C20 < u17.heap.size := by omega
  have hl1_17 : C21 < u17.heap.size := by omega
  have hl2_17 : C22 < u17.heap.size := by omega
  have hm_17 : u16.heap.size ≤ u17.heap.size := by omega
  go_wp2_with fail
  (refine (su0_c _).mono ?_; rintro e u18 ⟨rfl, hb⟩; obtain ⟨hc, hf⟩ := Flow.bcell hb; have hz := hb.size; (try simp only [World.size_alloc, World.size_setCell, World.size_drew] at hz))
  have hl0_18 : C20 < u18.heap.size := by omega
  have hl1_18 : C21 < u18.heap.size := by omega
  have hl2_18 : C22 < u18.heap.size := by omega
  have hm_18 : u17.heap.size ≤ u18.heap.size := by omega
  go_wp2_with fail
  (refine (v_c _ _).mono ?_; rintro e u19 ⟨rfl, hb⟩; obtain ⟨hc, hf⟩ := Flow.bcell hb; have hz := hb.size; (try simp only [World.size_alloc, World.size_setCell, World.size_drew] at hz))
  have hl0_19 : C20 < u19.heap.size := by omega
  have hl1_19 : C21 < u19.heap.size := by omega
  have hl2_19 : C22 < u19.heap.size := by omega
  have hm_19 : u18.heap.size ≤ u19.heap.size := by omega
  go_wp2_with fail
  (refine (v_c _ _).mono ?_; rintro e u20 ⟨rfl, hb⟩; obtain ⟨hc, hf⟩ := Flow.bcell hb; have hz := hb.size; (try simp only [World.size_alloc, World.size_setCell, World.size_drew] at hz))
  have hl0_20 : C20 < u20.heap.size := by omega
  have hl1_20 : C21 < u20.heap.size := by omega
  have hl2_20 : C22 < u20.heap.size := by omega
  have hm_20 : u19.heap.size ≤ u20.heap.size := by omega
  go_wp2_with fail
  (refine (su1_c _).mono ?_; rintro e u21 ⟨rfl, hb⟩; obtain ⟨hc, hf⟩ := Flow.bcell hb; have hz := hb.size; (try simp only [World.size_alloc, World.size_setCell, World.size_drew] at hz))
  have hl0_21 : C20 < u21.heap.size := by omega
  have hl1_21 : C21 < u21.heap.size := by omega
  have hl2_21 : C22 < u21.heap.size := by omega
  have hm_21 : u20.heap.size ≤ u21.heap.size := by omega
  go_wp2_with fail
  (refine (v_c _ _).mono ?_; rintro e u22 ⟨rfl, hb⟩; obtain ⟨hc, hf⟩ := Flow.bcell hb; have hz := hb.size; (try simp only [World.size_alloc, World.size_setCell, World.size_drew] at hz))
  have hl0_22 : C20 < u22.heap.size := by omega
  have hl1_22 : C21 < u22.heap.size := by omega
  have hl2_22 : C22 < u22.heap.size := by omega
  have hm_22 : u21.heap.size ≤ u22.heap.size := by omega
  go_wp2_with fail
  (refine (v_c _ _).mono ?_; rintro e u23 ⟨rfl, hb⟩; obtain ⟨hc, hf⟩ := Flow.bcell hb; have hz := hb.size; (try simp only [World.size_alloc, World.size_setCell, World.size_drew] at hz))
  have hl0_23 : C20 < u23.heap.size := by omega
  have hl1_23 : C21 < u23.heap.size := by omega
  have hl2_23 : C22 < u23.heap.size := by omega
  have hm_23 : u22.heap.size ≤ u23.heap.size := by omega
  go_wp2_with fail
  (refine (su2_c _).mono ?_; rintro e u24 ⟨rfl, hb⟩; obtain ⟨hc, hf⟩ := Flow.bcell hb; have hz := hb.size; (try simp only [World.size_alloc, World.size_setCell, World.size_drew] at hz))
  have hl0_24 : C20 < u24.heap.size := by omega
  have hl1_24 : C21 < u24.heap.size := by omega
  have hl2_24 : C22 < u24.heap.size := by omega
  have hm_24 : u23.heap.size ≤ u24.heap.size := by omega
  go_wp2_with fail
  (refine (gt_c _ _).mono ?_; rintro e u25 ⟨rfl, hb⟩; obtain ⟨hc, hf⟩ := Flow.bcell hb; have hz := hb.size; (try simp only [World.size_alloc, World.size_setCell, World.size_drew] at hz))
  have hl0_25 : C20 < u25.heap.size := by omega
  have hl1_25 : C21 < u25.heap.size := by omega
  have hl2_25 : C22 < u25.heap.size := by omega
  have hm_25 : u24.heap.size ≤ u25.heap.size := by omega
  go_wp2_with fail
  (refine (gt_c _ _).mono ?_; rintro e u26 ⟨rfl, hb⟩; obtain ⟨hc, hf⟩ := Flow.bcell hb; have hz := hb.size; (try simp only [World.size_alloc, World.size_setCell, World.size_drew] at hz))
  have hl0_26 : C20 < u26.heap.size := by omega
  have hl1_26 : C21 < u26.heap.size := by omega
  have hl2_26 : C22 < u26.heap.size := by omega
  have hm_26 : u25.heap.size ≤ u26.heap.size := by omega
  go_wp2_with fail
  (refine (gt_c _ _).mono ?_; rintro e u27 ⟨rfl, hb⟩; obtain ⟨hc, hf⟩ := Flow.bcell hb; have hz := hb.size; (try simp only [World.size_alloc, World.size_setCell, World.size_drew] at hz))
  have hl0_27 : C20 < u27.heap.size := by omega
  have hl1_27 : C21 < u27.heap.size := by omega
  have hl2_27 : C22 < u27.heap.size := by omega
  have hm_27 : u26.heap.size ≤ u27.heap.size := by omega
  go_wp2_with fail
  have c300 : u27.cell? ⟨C20, 0, none⟩ = some (uv 0#32) := by go_simp
  have f300 : u27.frozen? ⟨C20, 0, none⟩ = false := by go_simp
  have c301 : u27.cell? ⟨C20, 1, none⟩ = some (uv 0#32) := by go_simp
  have f301 : u27.frozen? ⟨C20, 1, none⟩ = false := by go_simp
  have c302 : u27.cell? ⟨C20, 2, none⟩ = some (uv 0#32) := by go_simp
  have f302 : u27.frozen? ⟨C20, 2, none⟩ = false := by go_simp
  have c303 : u27.cell? ⟨C20, 3, none⟩ = some (uv 0#32) := by go_simp
  have f303 : u27.frozen? ⟨C20, 3, none⟩ = false := by go_simp
  have c310 : u27.cell? ⟨C21, 0, none⟩ = some (uv 1#32) := by go_simp
  have f310 : u27.frozen? ⟨C21, 0, none⟩ = false := by go_simp
  have c311 : u27.cell? ⟨C21, 1, none⟩ = some (uv 0#32) := by go_simp
  have f311 : u27.frozen? ⟨C21, 1, none⟩ = false := by go_simp
  have c312 : u27.cell? ⟨C21, 2, none⟩ = some (uv 0#32) := by go_simp
  have f312 : u27.frozen? ⟨C21, 2, none⟩ = false := by go_simp
  have c313 : u27.cell? ⟨C21, 3, none⟩ = some (uv 0#32) := by go_simp
  have f313 : u27.frozen? ⟨C21, 3, none⟩ = false := by go_simp
  have c320 : u27.cell? ⟨C22, 0, none⟩ = some (uv 4294967168#32) := by go_simp
  have f320 : u27.frozen? ⟨C22, 0, none⟩ = false := by go_simp
  have c321 : u27.cell? ⟨C22, 1, none⟩ = some (uv 0#32) := by go_simp
  have f321 : u27.frozen? ⟨C22, 1, none⟩ = false := by go_simp
  have c322 : u27.cell? ⟨C22, 2, none⟩ = some (uv 0#32) := by go_simp
  have f322 : u27.frozen? ⟨C22, 2, none⟩ = false := by go_simp
  have c323 : u27.cell? ⟨C22, 3, none⟩ = some (uv 0#32) := by go_simp
  have f323 : u27.frozen? ⟨C22, 3, none⟩ = false := by go_simp
  have hbw3 : Below w.heap.size w u27 := by (repeat (first | exact Below.refl _ _ | refine Below.setCell ?_ (by first | omega | (simp <;> omega)) _ | refine Below.alloc ?_ (by first | omega | (simp <;> omega)) _ | refine Below.drew ?_ | refine Below.trans ?_ (Below.mono (by assumption) (by first | omega | (simp <;> omega)))))
  have hbb3 : w.heap.size ≤ C20 := by omega
  have hbc3 : C20 < C21 ∧ C21 < C22 ∧ C22 < u27.heap.size := by omega
  revert c300 f300 c301 f301 c302 f302 c303 f303 c310 f310 c311 f311 c312 f312 c313 f313 c320 f320 c321 f321 c322 f322 c323 f323 hbw3 hbb3 hbc3
  generalize C20 = C30
  generalize C21 = C31
  generalize C22 = C32
  generalize u27 = W3
  intro c300 f300 c301 f301 c302 f302 c303 f303 c310 f310 c311 f311 c312 f312 c313 f313 c320 f320 c321 f321 c322 f322 c323 f323 hbw3 hbb3 hbc3
  obtain ⟨hC4a, hC4b, hC4c⟩ := hbc3
  have hD4a : C30 < W3.heap.size := by omega
  have hD4b : C31 < W3.heap.size := by omega
  have hD4c : C30 < C32 := by omega
  (refine (v_c _ _).mono ?_; rintro e u28 ⟨rfl, hb⟩; obtain ⟨hc, hf⟩ := Flow.bcell hb; have hz := hb.size; (try simp only [World.size_alloc, World.size_setCell, World.size_drew] at hz))
  have hl0_28 : C30 < u28.heap.size := by omega
  have hl1_28 : C31 < u28.heap.size := by omega
  have hl2_28 : C32 < u28.heap.size := by omega
  have hm_28 : W3.heap.size ≤ u28.heap.size := by omega
  go_wp2_with fail
  (refine (v_c _ _).mono ?_; rintro e u29 ⟨rfl, hb⟩; obtain ⟨hc, hf⟩ := Flow.bcell hb; have hz := hb.size; (try simp only [World.size_alloc, World.size_setCell, World.size_drew] at hz))
  have hl0_29 : C30 < u29.heap.size := by omega
  have hl1_29 : C31 < u29.heap.size := by omega
  have hl2_29 : C32 < u29.heap.size := by omega
  have hm_29 : u28.heap.size ≤ u29.heap.size := by omega
  go_wp2_with fail
  (refine (v_c _ _).mono ?_; rintro e u30 ⟨rfl, hb⟩; obtain ⟨hc, hf⟩ := Flow.bcell hb; have hz := hb.size; (try simp only [World.size_alloc, World.size_setCell, World.size_drew] at hz))
  have hl0_30 : C30 < u30.heap.size := by omega
  have hl1_30 : C31 < u30.heap.size := by omega
  have hl2_30 : C32 < u30.heap.size := by omega
  have hm_30 : u29.heap.size ≤ u30.heap.size := by omega
  go_wp2_with fail
  (refine (v_c _ _).mono ?_; rintro e u31 ⟨rfl, hb⟩; obtain ⟨hc, hf⟩ := Flow.bcell hb; have hz := hb.size; (try simp only [World.size_alloc, World.size_setCell, World.size_drew] at hz))
  have hl0_31 : C30 < u31.heap.size := by omega
  have hl1_31 : C31 < u31.heap.size := by omega
  have hl2_31 : C32 < u31.heap.size := by omega
  have hm_31 : u30.heap.size ≤ u31.heap.size := by omega
  go_wp2_with fail
  (refine (v_c _ _).mono ?_; rintro e u32 ⟨rfl, hb⟩; obtain ⟨hc, hf⟩ := Flow.bcell hb; have hz := hb.size; (try simp only [World.size_alloc, World.size_setCell, World.size_drew] at hz))
  have hl0_32 : C30 < u32.heap.size := by omega
  have hl1_32 : C31 < u32.heap.size := by omega
  have hl2_32 : C32 < u32.heap.size := by omega
  have hm_32 : u31.heap.size ≤ u32.heap.size := by omega
  go_wp2_with fail
  (refine (v_c _ _).mono ?_; rintro e u33 ⟨rfl, hb⟩; obtain ⟨hc, hf⟩ := Flow.bcell hb; have hz := hb.size; (try simp only [World.size_alloc, World.size_setCell, World.size_drew] at hz))
  have hl0_33 : C30 < u33.heap.size := by omega
  have hl1_33 : C31 < u33.heap.size := by omega
  have hl2_33 : C32 < u33.heap.size := by omega
  have hm_33 : u32.heap.size ≤ u33.heap.size := by omega
  go_wp2_with fail
  (refine (sm_c _).mono ?_; rintro e u34 ⟨rfl, hb⟩; obtain ⟨hc, hf⟩ := Flow.bcell hb; have hz := hb.size; (try simp only [World.size_alloc, World.size_setCell, World.size_drew] at hz))
  have hl0_34 : C30 < u34.heap.size := by omega
  have hl1_34 : C31 < u34.heap.size := by omega
  have hl2_34 : C32 < u34.heap.size := by omega
  have hm_34 : u33.heap.size ≤ u34.heap.size := by omega
  go_wp2_with fail
  (refine (sc_c _ _ _ _ (by go_simp) (by go_simp) (by go_simp) (by go_simp) ).mono ?_; rintro e u35 ⟨rfl, rfl⟩)
  go_wp2_with fail
  (refine (v_c _ _).mono ?_; rintro e u36 ⟨rfl, hb⟩; obtain ⟨hc, hf⟩ := Flow.bcell hb; have hz := hb.size; (try simp only [World.size_alloc, World.size_setCell, World.size_drew] at hz))
  have hl0_36 : C30 < u36.heap.size := by omega
  have hl1_36 : C31 < u36.heap.size := by omega
  have hl2_36 : C32 < u36.heap.size := by omega
  have hm_36 : u34.heap.size ≤ u36.heap.size := by omega
  go_wp2_with fail
  (refine (v_c _ _).mono ?_; rintro e u37 ⟨rfl, hb⟩; obtain ⟨hc, hf⟩ := Flow.bcell hb; have hz := hb.size; (try simp only [World.size_alloc, World.size_setCell, World.size_drew] at hz))
  have hl0_37 : C30 < u37.heap.size := by omega
  have hl1_37 : C31 < u37.heap.size := by omega
  have hl2_37 : C32 < u37.heap.size := by omega
  have hm_37 : u36.heap.size ≤ u37.heap.size := by omega
  go_wp2_with fail
  (refine (v_c _ _).mono ?_; rintro e u38 ⟨rfl, hb⟩; obtain ⟨hc, hf⟩ := Flow.bcell hb; have hz := hb.size; (try simp only [World.size_alloc, World.size_setCell, World.size_drew] at hz))
  have hl0_38 : C30 < u38.heap.size := by omega
  have hl1_38 : C31 < u38.heap.size := by omega
  have hl2_38 : C32 < u38.heap.size := by omega
  have hm_38 : u37.heap.size ≤ u38.heap.size := by omega
  go_wp2_with fail
  (refine (v_c _ _).mono ?_; rintro e u39 ⟨rfl, hb⟩; obtain ⟨hc, hf⟩ := Flow.bcell hb; have hz := hb.size; (try simp only [World.size_alloc, World.size_setCell, World.size_drew] at hz))
  have hl0_39 : C30 < u39.heap.size := by omega
  have hl1_39 : C31 < u39.heap.size := by omega
  have hl2_39 : C32 < u39.heap.size := by omega
  have hm_39 : u38.heap.size ≤ u39.heap.size := by omega
  go_wp2_with fail
  (refine (se_c _).mono ?_; rintro e u40 ⟨rfl, hb⟩; obtain ⟨hc, hf⟩ := Flow.bcell hb; have hz := hb.size; (try simp only [World.size_alloc, World.size_setCell, World.size_drew] at hz))
  have hl0_40 : C30 < u40.heap.size := by omega
  have hl1_40 : C31 < u40.heap.size := by omega
  have hl2_40 : C32 < u40.heap.size := by omega
  have hm_40 : u39.heap.size ≤ u40.heap.size := by omega
  go_wp2_with fail
  (refine (gt_c _ _).mono ?_; rintro e u41 ⟨rfl, hb⟩; obtain ⟨hc, hf⟩ := Flow.bcell hb; have hz := hb.size; (try simp only [World.size_alloc, World.size_setCell, World.size_drew] at hz))
  have hl0_41 : C30 < u41.heap.size := by omega
  have hl1_41 : C31 < u41.heap.size := by omega
  have hl2_41 : C32 < u41.heap.size := by omega
  have hm_41 : u40.heap.size ≤ u41.heap.size := by omega
  go_wp2_with fail
  go_ret
  exact ⟨rfl, by (repeat (first | exact Below.refl _ _ | refine Below.setCell ?_ (by first | omega | (simp <;> omega)) _ | refine Below.alloc ?_ (by first | omega | (simp <;> omega)) _ | refine Below.drew ?_ | refine Below.trans ?_ (Below.mono (by assumption) (by first | omega | (simp <;> omega)))))⟩
end Go.Proofs.YtboknfppecgjmaaGreat
