/- The table of the rules of binary operations: the lanes' closures lie one behind the other. -/
import Derived.Test.YtboknfppecgjmaaGreatTables
import Derived.Laws.CopyOwn
namespace Go.Proofs.YtboknfppecgjmaaGreat
set_option linter.unusedVariables false
set_option linter.unusedSimpArgs false
open Go.RowKit Go.Shelf
attribute [local go_sem] run_store_nilFunc run_store_func
/-- Closures' cells that lie one behind the other from block B on. -/
structure LaneCells (B : Nat) (l : List (Int × Nat)) (W w : World) : Prop where
  below : Below W.heap.size W w
  base : W.heap.size = B
  size : w.heap.size = B + 2 * l.length
  wid : ∀ i (h : i < l.length), w.cell? ⟨B + 2 * i, 0, none⟩ = some (iv l[i].1)
  fn : ∀ i (h : i < l.length), w.cell? ⟨B + 2 * i + 1, 0, none⟩ = some (.func (.func l[i].2) #[] #[])
theorem lane_at {B : Nat} {l : List (Int × Nat)} {W w : World} (h : LaneCells B l W w) (n : Nat) (hn : 2 * l.length = n) (width : Int) (g : Nat) : Calls Tryz.prog 97 #[iv width, .func (.func g) #[] #[]] w fun e w' =>
    e = .returned (.func (.func 137) #[] #[.pointer (some ⟨B + n, 0, none⟩), .pointer (some ⟨B + n + 1, 0, none⟩)]) ∧ LaneCells B (l ++ [(width, g)]) W w' := by
  refine (lane_c width g w).mono ?_
  rintro e w' ⟨rfl, rfl⟩
  obtain ⟨hb, hB, hs, hw, hf⟩ := h
  have hs' : w.heap.size = B + n := by omega
  have hb2 : Below w.heap.size w ((w.alloc (.cells #[iv width] 3)).alloc (.cells #[.func (.func g) #[] #[]] 115)) := Below.alloc (Below.alloc (Below.refl _ _) (Nat.le_refl _) _) (by simp) _
  refine ⟨by rw [hs'], ?_, hB, ?_, ?_, ?_⟩
  · exact Below.alloc (Below.alloc hb (by omega) _) (by simp; omega) _
  · simp; omega
  · intro i hi
    by_cases h : i < l.length
    · rw [List.getElem_append_left h, (Flow.bcell hb2).1 _ _ (by omega)]
      exact hw i h
    · have : i = l.length := by simp at hi; omega
      subst this
      have e1 : B + 2 * l.length = w.heap.size := hs.symm
      rw [List.getElem_append_right (Nat.le_refl _), e1]
      go_simp
  · intro i hi
    by_cases h : i < l.length
    · rw [List.getElem_append_left h, (Flow.bcell hb2).1 _ _ (by omega)]
      exact hf i h
    · have : i = l.length := by simp at hi; omega
      subst this
      have e1 : B + 2 * l.length = w.heap.size := hs.symm
      rw [List.getElem_append_right (Nat.le_refl _), e1]
      go_simp
/-- The rules' functions; B: the first block of the closures. -/
def biTable (B : Nat) : Array Value := #[.nilFunc,
  .func (.func 137) #[] #[.pointer (some ⟨B + 0, 0, none⟩), .pointer (some ⟨B + 0 + 1, 0, none⟩)],
  .func (.func 137) #[] #[.pointer (some ⟨B + 2, 0, none⟩), .pointer (some ⟨B + 2 + 1, 0, none⟩)],
  .func (.func 100) #[] #[],
  .func (.func 101) #[] #[],
  .func (.func 101) #[] #[],
  .func (.func 101) #[] #[],
  .func (.func 101) #[] #[],
  .func (.func 102) #[] #[],
  .func (.func 103) #[] #[],
  .func (.func 104) #[] #[],
  .func (.func 105) #[] #[],
  .func (.func 105) #[] #[],
  .func (.func 105) #[] #[],
  .func (.func 106) #[] #[],
  .func (.func 106) #[] #[],
  .func (.func 107) #[] #[],
  .func (.func 107) #[] #[],
  .func (.func 107) #[] #[],
  .func (.func 107) #[] #[],
  .func (.func 137) #[] #[.pointer (some ⟨B + 4, 0, none⟩), .pointer (some ⟨B + 4 + 1, 0, none⟩)],
  .func (.func 137) #[] #[.pointer (some ⟨B + 6, 0, none⟩), .pointer (some ⟨B + 6 + 1, 0, none⟩)],
  .func (.func 137) #[] #[.pointer (some ⟨B + 8, 0, none⟩), .pointer (some ⟨B + 8 + 1, 0, none⟩)],
  .func (.func 137) #[] #[.pointer (some ⟨B + 10, 0, none⟩), .pointer (some ⟨B + 10 + 1, 0, none⟩)],
  .func (.func 137) #[] #[.pointer (some ⟨B + 12, 0, none⟩), .pointer (some ⟨B + 12 + 1, 0, none⟩)],
  .func (.func 137) #[] #[.pointer (some ⟨B + 14, 0, none⟩), .pointer (some ⟨B + 14 + 1, 0, none⟩)],
  .func (.func 137) #[] #[.pointer (some ⟨B + 16, 0, none⟩), .pointer (some ⟨B + 16 + 1, 0, none⟩)],
  .func (.func 137) #[] #[.pointer (some ⟨B + 18, 0, none⟩), .pointer (some ⟨B + 18 + 1, 0, none⟩)],
  .func (.func 137) #[] #[.pointer (some ⟨B + 20, 0, none⟩), .pointer (some ⟨B + 20 + 1, 0, none⟩)],
  .func (.func 109) #[] #[],
  .func (.func 110) #[] #[]]
def biLanes : List (Int × Nat) := [(32, 98), (32, 99), (8, 98), (16, 98), (32, 98), (8, 99), (16, 99), (32, 99), (8, 108), (16, 108), (32, 108)]
theorem results_cell {P : Program} {fn : Func} {tmps : Array Value} {w : World} {s : Nat} {t : TypeId} {a : Addr} {v : Value} (hr : fn.results = #[.cell s t]) (ht : tmps.getD s undef = .pointer (some a)) (hl : (loadVar t a).run P w = .ok v w) :
    (results fn tmps).run P w = .ok v w := by
  have ht' : tmps[s]?.getD undef = .pointer (some a) := by simpa using ht
  simp [results, hr, ht', hl, asAddr]
set_option maxHeartbeats 4000000 in
theorem binaries_c (w : World) : Calls Tryz.prog 52 #[] w fun e w' => e = .returned (.agg (biTable (w.heap.size + 1))) ∧ Below w.heap.size w w' ∧ (∀ i (h : i < biLanes.length), w'.cell? ⟨w.heap.size + 1 + 2 * i, 0, none⟩ = some (iv biLanes[i].1)) ∧ (∀ i (h : i < biLanes.length), w'.cell? ⟨w.heap.size + 1 + 2 * i + 1, 0, none⟩ = some (.func (.func biLanes[i].2) #[] #[])) := by
  go_enter Tryz.func52, Tryz.ntmps52
  go_wp2_with fail
  have hL : LaneCells (w.heap.size + 1) [] (w.alloc (.cells #[.nilFunc, .nilFunc, .nilFunc, .nilFunc, .nilFunc, .nilFunc, .nilFunc, .nilFunc, .nilFunc, .nilFunc, .nilFunc, .nilFunc, .nilFunc, .nilFunc, .nilFunc, .nilFunc, .nilFunc, .nilFunc, .nilFunc, .nilFunc, .nilFunc, .nilFunc, .nilFunc, .nilFunc, .nilFunc, .nilFunc, .nilFunc, .nilFunc, .nilFunc, .nilFunc, .nilFunc] 81)) (w.alloc (.cells #[.nilFunc, .nilFunc, .nilFunc, .nilFunc, .nilFunc, .nilFunc, .nilFunc, .nilFunc, .nilFunc, .nilFunc, .nilFunc, .nilFunc, .nilFunc, .nilFunc, .nilFunc, .nilFunc, .nilFunc, .nilFunc, .nilFunc, .nilFunc, .nilFunc, .nilFunc, .nilFunc, .nilFunc, .nilFunc, .nilFunc, .nilFunc, .nilFunc, .nilFunc, .nilFunc, .nilFunc] 81)) :=
    ⟨Below.refl _ _, by simp, by simp, fun i h => absurd h (by simp), fun i h => absurd h (by simp)⟩
  refine (lane_at hL 0 rfl _ _).mono ?_
  clear hL
  rintro e w1 ⟨rfl, hL⟩
  go_wp2_with fail
  refine (lane_at hL 2 rfl _ _).mono ?_
  clear hL
  rintro e w2 ⟨rfl, hL⟩
  go_wp2_with fail
  refine (lane_at hL 4 rfl _ _).mono ?_
  clear hL
  rintro e w3 ⟨rfl, hL⟩
  go_wp2_with fail
  refine (lane_at hL 6 rfl _ _).mono ?_
  clear hL
  rintro e w4 ⟨rfl, hL⟩
  go_wp2_with fail
  refine (lane_at hL 8 rfl _ _).mono ?_
  clear hL
  rintro e w5 ⟨rfl, hL⟩
  go_wp2_with fail
  refine (lane_at hL 10 rfl _ _).mono ?_
  clear hL
  rintro e w6 ⟨rfl, hL⟩
  go_wp2_with fail
  refine (lane_at hL 12 rfl _ _).mono ?_
  clear hL
  rintro e w7 ⟨rfl, hL⟩
  go_wp2_with fail
  refine (lane_at hL 14 rfl _ _).mono ?_
  clear hL
  rintro e w8 ⟨rfl, hL⟩
  go_wp2_with fail
  refine (lane_at hL 16 rfl _ _).mono ?_
  clear hL
  rintro e w9 ⟨rfl, hL⟩
  go_wp2_with fail
  refine (lane_at hL 18 rfl _ _).mono ?_
  clear hL
  rintro e w10 ⟨rfl, hL⟩
  go_wp2_with fail
  refine (lane_at hL 20 rfl _ _).mono ?_
  clear hL
  rintro e w11 ⟨rfl, hL⟩
  have hg11 : w11.heap[w.heap.size]? = some (.cells #[.nilFunc, .nilFunc, .nilFunc, .nilFunc, .nilFunc, .nilFunc, .nilFunc, .nilFunc, .nilFunc, .nilFunc, .nilFunc, .nilFunc, .nilFunc, .nilFunc, .nilFunc, .nilFunc, .nilFunc, .nilFunc, .nilFunc, .nilFunc, .nilFunc, .nilFunc, .nilFunc, .nilFunc, .nilFunc, .nilFunc, .nilFunc, .nilFunc, .nilFunc, .nilFunc, .nilFunc] 81 (0, 0)) := by rw [hL.below.block _ (by simp)]; exact heap_alloc_last w _
  have hs := hL.size
  rename_i a2
  refine a2 _ _ ?_
  refine wpList_build rfl _ _ rfl (by kernel_rfl) ?_
  refine wpList_store_row rfl _ _ _ rfl w.heap.size (biTable (w.heap.size + 1)) rfl (by kernel_rfl) _ _ hg11 (by kernel_rfl) rfl (by simp [biTable, Value.oneCell']) ?_
  have h12 := setRow_heap w11 w.heap.size _ (biTable (w.heap.size + 1)) _ _ hg11
  clear a2
  rename_i a1 K2
  refine a1 _ _ ?_
  go_wp2_with fail
  refine Flow.bodyPost_k rfl (fun K hK => ?_)
  have hl := run_loadVar_row (P := Tryz.prog) (w11.setRow w.heap.size (biTable (w.heap.size + 1))) w.heap.size 81 81 (biTable (w.heap.size + 1)) (0, 0) (.array 31 80) h12 (by kernel_rfl) rfl (by kernel_rfl)
  rw [results_cell rfl rfl hl]
  refine ⟨rfl, hK _ ⟨rfl, ?_, ?_, ?_⟩⟩
  · exact below_setRow ((Below.alloc (Below.refl _ _) (Nat.le_refl _) _).trans (hL.below.mono (by simp))) (Nat.le_refl _) _
  · intro i h
    rw [cell_setRow_other _ _ _ _ (by simp; omega)]
    exact hL.wid i h
  · intro i h
    rw [cell_setRow_other _ _ _ _ (by simp; omega)]
    exact hL.fn i h
end Go.Proofs.YtboknfppecgjmaaGreat
