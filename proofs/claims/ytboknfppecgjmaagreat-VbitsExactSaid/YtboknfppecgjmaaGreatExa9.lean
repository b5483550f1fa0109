/- Part 9 of the proof's texts: Tables, BiTable, Kinds, Un, Bin, Call, Shut. -/
import Derived.Laws.EntriesVeiled
import Derived.Deep.WholeRow
import Derived.Laws.CopyOwn
import Derived.RowKitTokens
import Derived.OpenShut
import Derived.Carry
import Derived.ChangeSlices
import Derived.Test.YtboknfppecgjmaaGreatExa0
import Derived.Test.YtboknfppecgjmaaGreatExa4
import Derived.Test.YtboknfppecgjmaaGreatExa6
import Derived.Test.YtboknfppecgjmaaGreatExa8
set_option maxHeartbeats 16000000
namespace Go.Proofs.YtboknfppecgjmaaGreat
set_option linter.unusedVariables false
set_option linter.unusedSimpArgs false
open Go.RowKit Go.Shelf
attribute [local go_sem] U_eq_zero run_store_nilFunc run_store_func
theorem un_lanes_c (u : Vb.Unary) (width : Nat) (hw : width = 8 ∨ width = 16 ∨ width = 32) (w : World) : Calls Tryz.prog 135 #[unv u, iv (width : Nat)] w fun e w' => e = .returned (vv (u.lanes width)) ∧ Below w.heap.size w w' := by
  go_enter Tryz.func135, Tryz.ntmps135
  go_wp2_with (go_at_call 138; refine (each_c width hw _ _ V.zero V.zero 143 Vb.unLane (enters_of Tryz.func143 (by kernel_rfl) rfl) unLane_c _).mono ?_; rintro e w1 ⟨rfl, hb⟩; obtain ⟨hc, hf⟩ := Flow.bcell hb; have hz := hb.size; (try simp only [World.size_alloc, World.size_setCell, World.size_drew] at hz); obtain ⟨z0, z1⟩ := Flow.zs2 (show w.heap.size + 2 ≤ w1.heap.size by omega))
  refine Flow.bodyPost_k rfl (fun K hK => ?_)
  simp only [results, Tryz.results135]
  go_simp
  refine hK _ ⟨?_, ?_⟩
  · rfl
  · (repeat (first | exact Below.refl _ _ | refine Below.setCell ?_ (by first | omega | (simp <;> omega)) _ | refine Below.alloc ?_ (by first | omega | (simp <;> omega)) _ | refine Below.drew ?_ | refine Below.trans ?_ (Below.mono (by assumption) (by first | omega | (simp <;> omega)))))
theorem un_lanes8_c (u : Vb.Unary) (w : World) : Calls Tryz.prog 88 #[unv u] w fun e w' => e = .returned (vv (u.lanes 8)) ∧ Below w.heap.size w w' := by
  go_enter Tryz.func88, Tryz.ntmps88
  go_wp2_with (go_at_call 135; refine (un_lanes_c _ 8 (.inl rfl) _ ).mono ?_; rintro e w1 ⟨rfl, hb⟩; obtain ⟨hc, hf⟩ := Flow.bcell hb; have hz := hb.size; (try simp only [World.size_alloc, World.size_setCell, World.size_drew] at hz); obtain ⟨z0, z1⟩ := Flow.zs2 (show w.heap.size + 2 ≤ w1.heap.size by omega))
  refine Flow.bodyPost_k rfl (fun K hK => ?_)
  simp only [results, Tryz.results88]
  go_simp
  refine hK _ ⟨?_, ?_⟩
  · rfl
  · (repeat (first | exact Below.refl _ _ | refine Below.setCell ?_ (by first | omega | (simp <;> omega)) _ | refine Below.alloc ?_ (by first | omega | (simp <;> omega)) _ | refine Below.drew ?_ | refine Below.trans ?_ (Below.mono (by assumption) (by first | omega | (simp <;> omega)))))
theorem un_lanes16_c (u : Vb.Unary) (w : World) : Calls Tryz.prog 89 #[unv u] w fun e w' => e = .returned (vv (u.lanes 16)) ∧ Below w.heap.size w w' := by
  go_enter Tryz.func89, Tryz.ntmps89
  go_wp2_with (go_at_call 135; refine (un_lanes_c _ 16 (.inr (.inl rfl)) _ ).mono ?_; rintro e w1 ⟨rfl, hb⟩; obtain ⟨hc, hf⟩ := Flow.bcell hb; have hz := hb.size; (try simp only [World.size_alloc, World.size_setCell, World.size_drew] at hz); obtain ⟨z0, z1⟩ := Flow.zs2 (show w.heap.size + 2 ≤ w1.heap.size by omega))
  refine Flow.bodyPost_k rfl (fun K hK => ?_)
  simp only [results, Tryz.results89]
  go_simp
  refine hK _ ⟨?_, ?_⟩
  · rfl
  · (repeat (first | exact Below.refl _ _ | refine Below.setCell ?_ (by first | omega | (simp <;> omega)) _ | refine Below.alloc ?_ (by first | omega | (simp <;> omega)) _ | refine Below.drew ?_ | refine Below.trans ?_ (Below.mono (by assumption) (by first | omega | (simp <;> omega)))))
theorem un_lanes32_c (u : Vb.Unary) (w : World) : Calls Tryz.prog 90 #[unv u] w fun e w' => e = .returned (vv (u.lanes 32)) ∧ Below w.heap.size w w' := by
  go_enter Tryz.func90, Tryz.ntmps90
  go_wp2_with (go_at_call 135; refine (un_lanes_c _ 32 (.inr (.inr rfl)) _ ).mono ?_; rintro e w1 ⟨rfl, hb⟩; obtain ⟨hc, hf⟩ := Flow.bcell hb; have hz := hb.size; (try simp only [World.size_alloc, World.size_setCell, World.size_drew] at hz); obtain ⟨z0, z1⟩ := Flow.zs2 (show w.heap.size + 2 ≤ w1.heap.size by omega))
  refine Flow.bodyPost_k rfl (fun K hK => ?_)
  simp only [results, Tryz.results90]
  go_simp
  refine hK _ ⟨?_, ?_⟩
  · rfl
  · (repeat (first | exact Below.refl _ _ | refine Below.setCell ?_ (by first | omega | (simp <;> omega)) _ | refine Below.alloc ?_ (by first | omega | (simp <;> omega)) _ | refine Below.drew ?_ | refine Below.trans ?_ (Below.mono (by assumption) (by first | omega | (simp <;> omega)))))
def unTable : Array Value := #[.nilFunc, .func (.func 82) #[] #[], .func (.func 83) #[] #[], .func (.func 84) #[] #[], .func (.func 83) #[] #[],
  .func (.func 85) #[] #[], .func (.func 86) #[] #[], .func (.func 87) #[] #[], .func (.func 88) #[] #[], .func (.func 89) #[] #[],
  .func (.func 90) #[] #[], .func (.func 91) #[] #[], .func (.func 92) #[] #[], .func (.func 93) #[] #[]]
theorem unaries_c (w : World) : Calls Tryz.prog 42 #[] w fun e w' => e = .returned (.agg unTable) ∧ Below w.heap.size w w' := by
  go_enter Tryz.func42, Tryz.ntmps42
  go_wp2
  refine Flow.bodyPost_k rfl (fun K hK => ?_)
  simp only [results, Tryz.results42]
  go_simp
  refine hK _ ⟨?_, ?_⟩
  · rfl
  · (repeat (first | exact Below.refl _ _ | refine Below.setCell ?_ (by first | omega | (simp <;> omega)) _ | refine Below.alloc ?_ (by first | omega | (simp <;> omega)) _ | refine Below.drew ?_ | refine Below.trans ?_ (Below.mono (by assumption) (by first | omega | (simp <;> omega)))))
end Go.Proofs.YtboknfppecgjmaaGreat
namespace Go.Proofs.YtboknfppecgjmaaGreat
set_option linter.unusedVariables false
set_option linter.unusedSimpArgs false
open Go.RowKit Go.Shelf
attribute [local go_sem] run_store_nilFunc run_store_func
structure LaneCells (B : Nat) (l : List (Int × Nat)) (W w : World) : Prop where
  below : Below W.heap.size W w
  base : W.heap.size = B
  size : w.heap.size = B + 2 * l.length
  wid : ∀ i (h : i < l.length), w.cell? ⟨B + 2 * i, 0, none⟩ = some (iv l[i].1)
  fn : ∀ i (h : i < l.length), w.cell? ⟨B + 2 * i + 1, 0, none⟩ = some (.func (.func l[i].2) #[] #[])
theorem lane_at {B : Nat} {l : List (Int × Nat)} {W w : World} (h : LaneCells B l W w) (n : Nat) (hn : 2 * l.length = n) (width : Int) (g : Nat) : Calls Tryz.prog 97 #[iv width, .func (.func g) #[] #[]] w fun e w' =>
    e = .returned (.func (.func 137) #[] #[.pointer (some ⟨B + n, 0, none⟩), .pointer (some ⟨B + n + 1, 0, none⟩)]) ∧ LaneCells B (l ++ [(width, g)]) W w' := by
  refine (lane_c width g w).mono ?_
  rintro e w' ⟨rfl, rfl⟩
  obtain ⟨hb, hB, hs, hw, hf⟩ := h
  have hs' : w.heap.size = B + n := by omega
  have hb2 : Below w.heap.size w ((w.alloc (.cells #[iv width] 3)).alloc (.cells #[.func (.func g) #[] #[]] 115)) := Below.alloc (Below.alloc (Below.refl _ _) (Nat.le_refl _) _) (by simp) _
  refine ⟨by rw [hs'], ?_, hB, ?_, ?_, ?_⟩
  · exact Below.alloc (Below.alloc hb (by omega) _) (by simp; omega) _
  · simp; omega
  · intro i hi
    by_cases h : i < l.length
    · rw [List.getElem_append_left h, (Flow.bcell hb2).1 _ _ (by omega)]
      exact hw i h
    · have : i = l.length := by simp at hi; omega
      subst this
      have e1 : B + 2 * l.length = w.heap.size := hs.symm
      rw [List.getElem_append_right (Nat.le_refl _), e1]
      go_simp
  · intro i hi
    by_cases h : i < l.length
    · rw [List.getElem_append_left h, (Flow.bcell hb2).1 _ _ (by omega)]
      exact hf i h
    · have : i = l.length := by simp at hi; omega
      subst this
      have e1 : B + 2 * l.length = w.heap.size := hs.symm
      rw [List.getElem_append_right (Nat.le_refl _), e1]
      go_simp
def biTable (B : Nat) : Array Value := #[.nilFunc,
  .func (.func 137) #[] #[.pointer (some ⟨B + 0, 0, none⟩), .pointer (some ⟨B + 0 + 1, 0, none⟩)],
  .func (.func 137) #[] #[.pointer (some ⟨B + 2, 0, none⟩), .pointer (some ⟨B + 2 + 1, 0, none⟩)],
  .func (.func 100) #[] #[],
  .func (.func 101) #[] #[],
  .func (.func 101) #[] #[],
  .func (.func 101) #[] #[],
  .func (.func 101) #[] #[],
  .func (.func 102) #[] #[],
  .func (.func 103) #[] #[],
  .func (.func 104) #[] #[],
  .func (.func 105) #[] #[],
  .func (.func 105) #[] #[],
  .func (.func 105) #[] #[],
  .func (.func 106) #[] #[],
  .func (.func 106) #[] #[],
  .func (.func 107) #[] #[],
  .func (.func 107) #[] #[],
  .func (.func 107) #[] #[],
  .func (.func 107) #[] #[],
  .func (.func 137) #[] #[.pointer (some ⟨B + 4, 0, none⟩), .pointer (some ⟨B + 4 + 1, 0, none⟩)],
  .func (.func 137) #[] #[.pointer (some ⟨B + 6, 0, none⟩), .pointer (some ⟨B + 6 + 1, 0, none⟩)],
  .func (.func 137) #[] #[.pointer (some ⟨B + 8, 0, none⟩), .pointer (some ⟨B + 8 + 1, 0, none⟩)],
  .func (.func 137) #[] #[.pointer (some ⟨B + 10, 0, none⟩), .pointer (some ⟨B + 10 + 1, 0, none⟩)],
  .func (.func 137) #[] #[.pointer (some ⟨B + 12, 0, none⟩), .pointer (some ⟨B + 12 + 1, 0, none⟩)],
  .func (.func 137) #[] #[.pointer (some ⟨B + 14, 0, none⟩), .pointer (some ⟨B + 14 + 1, 0, none⟩)],
  .func (.func 137) #[] #[.pointer (some ⟨B + 16, 0, none⟩), .pointer (some ⟨B + 16 + 1, 0, none⟩)],
  .func (.func 137) #[] #[.pointer (some ⟨B + 18, 0, none⟩), .pointer (some ⟨B + 18 + 1, 0, none⟩)],
  .func (.func 137) #[] #[.pointer (some ⟨B + 20, 0, none⟩), .pointer (some ⟨B + 20 + 1, 0, none⟩)],
  .func (.func 109) #[] #[],
  .func (.func 110) #[] #[]]
def biLanes : List (Int × Nat) := [(32, 98), (32, 99), (8, 98), (16, 98), (32, 98), (8, 99), (16, 99), (32, 99), (8, 108), (16, 108), (32, 108)]
theorem results_cell {P : Program} {fn : Func} {tmps : Array Value} {w : World} {s : Nat} {t : TypeId} {a : Addr} {v : Value} (hr : fn.results = #[.cell s t]) (ht : tmps.getD s undef = .pointer (some a)) (hl : (loadVar t a).run P w = .ok v w) :
    (results fn tmps).run P w = .ok v w := by
  have ht' : tmps[s]?.getD undef = .pointer (some a) := by simpa using ht
  simp [results, hr, ht', hl, asAddr]
theorem binaries_c (w : World) : Calls Tryz.prog 52 #[] w fun e w' => e = .returned (.agg (biTable (w.heap.size + 1))) ∧ Below w.heap.size w w' ∧ (∀ i (h : i < biLanes.length), w'.cell? ⟨w.heap.size + 1 + 2 * i, 0, none⟩ = some (iv biLanes[i].1)) ∧ (∀ i (h : i < biLanes.length), w'.cell? ⟨w.heap.size + 1 + 2 * i + 1, 0, none⟩ = some (.func (.func biLanes[i].2) #[] #[])) := by
  go_enter Tryz.func52, Tryz.ntmps52
  go_wp2_with fail
  have hL : LaneCells (w.heap.size + 1) [] (w.alloc (.cells #[.nilFunc, .nilFunc, .nilFunc, .nilFunc, .nilFunc, .nilFunc, .nilFunc, .nilFunc, .nilFunc, .nilFunc, .nilFunc, .nilFunc, .nilFunc, .nilFunc, .nilFunc, .nilFunc, .nilFunc, .nilFunc, .nilFunc, .nilFunc, .nilFunc, .nilFunc, .nilFunc, .nilFunc, .nilFunc, .nilFunc, .nilFunc, .nilFunc, .nilFunc, .nilFunc, .nilFunc] 81)) (w.alloc (.cells #[.nilFunc, .nilFunc, .nilFunc, .nilFunc, .nilFunc, .nilFunc, .nilFunc, .nilFunc, .nilFunc, .nilFunc, .nilFunc, .nilFunc, .nilFunc, .nilFunc, .nilFunc, .nilFunc, .nilFunc, .nilFunc, .nilFunc, .nilFunc, .nilFunc, .nilFunc, .nilFunc, .nilFunc, .nilFunc, .nilFunc, .nilFunc, .nilFunc, .nilFunc, .nilFunc, .nilFunc] 81)) :=
    ⟨Below.refl _ _, by simp, by simp, fun i h => absurd h (by simp), fun i h => absurd h (by simp)⟩
  refine (lane_at hL 0 rfl _ _).mono ?_
  clear hL
  rintro e w1 ⟨rfl, hL⟩
  go_wp2_with fail
  refine (lane_at hL 2 rfl _ _).mono ?_
  clear hL
  rintro e w2 ⟨rfl, hL⟩
  go_wp2_with fail
  refine (lane_at hL 4 rfl _ _).mono ?_
  clear hL
  rintro e w3 ⟨rfl, hL⟩
  go_wp2_with fail
  refine (lane_at hL 6 rfl _ _).mono ?_
  clear hL
  rintro e w4 ⟨rfl, hL⟩
  go_wp2_with fail
  refine (lane_at hL 8 rfl _ _).mono ?_
  clear hL
  rintro e w5 ⟨rfl, hL⟩
  go_wp2_with fail
  refine (lane_at hL 10 rfl _ _).mono ?_
  clear hL
  rintro e w6 ⟨rfl, hL⟩
  go_wp2_with fail
  refine (lane_at hL 12 rfl _ _).mono ?_
  clear hL
  rintro e w7 ⟨rfl, hL⟩
  go_wp2_with fail
  refine (lane_at hL 14 rfl _ _).mono ?_
  clear hL
  rintro e w8 ⟨rfl, hL⟩
  go_wp2_with fail
  refine (lane_at hL 16 rfl _ _).mono ?_
  clear hL
  rintro e w9 ⟨rfl, hL⟩
  go_wp2_with fail
  refine (lane_at hL 18 rfl _ _).mono ?_
  clear hL
  rintro e w10 ⟨rfl, hL⟩
  go_wp2_with fail
  refine (lane_at hL 20 rfl _ _).mono ?_
  clear hL
  rintro e w11 ⟨rfl, hL⟩
  have hg11 : w11.heap[w.heap.size]? = some (.cells #[.nilFunc, .nilFunc, .nilFunc, .nilFunc, .nilFunc, .nilFunc, .nilFunc, .nilFunc, .nilFunc, .nilFunc, .nilFunc, .nilFunc, .nilFunc, .nilFunc, .nilFunc, .nilFunc, .nilFunc, .nilFunc, .nilFunc, .nilFunc, .nilFunc, .nilFunc, .nilFunc, .nilFunc, .nilFunc, .nilFunc, .nilFunc, .nilFunc, .nilFunc, .nilFunc, .nilFunc] 81 (0, 0)) := by rw [hL.below.block _ (by simp)]; exact heap_alloc_last w _
  have hs := hL.size
  rename_i a2
  refine a2 _ _ ?_
  refine wpList_build rfl _ _ rfl (by kernel_rfl) ?_
  refine wpList_store_row rfl _ _ _ rfl w.heap.size (biTable (w.heap.size + 1)) rfl (by kernel_rfl) _ _ hg11 (by kernel_rfl) rfl (by simp [biTable, Value.oneCell']) ?_
  have h12 := setRow_heap w11 w.heap.size _ (biTable (w.heap.size + 1)) _ _ hg11
  clear a2
  rename_i a1 K2
  refine a1 _ _ ?_
  go_wp2_with fail
  refine Flow.bodyPost_k rfl (fun K hK => ?_)
  have hl := run_loadVar_row (P := Tryz.prog) (w11.setRow w.heap.size (biTable (w.heap.size + 1))) w.heap.size 81 81 (biTable (w.heap.size + 1)) (0, 0) (.array 31 80) h12 (by kernel_rfl) rfl (by kernel_rfl)
  rw [results_cell rfl rfl hl]
  refine ⟨rfl, hK _ ⟨rfl, ?_, ?_, ?_⟩⟩
  · exact below_setRow ((Below.alloc (Below.refl _ _) (Nat.le_refl _) _).trans (hL.below.mono (by simp))) (Nat.le_refl _) _
  · intro i h
    rw [cell_setRow_other _ _ _ _ (by simp; omega)]
    exact hL.wid i h
  · intro i h
    rw [cell_setRow_other _ _ _ _ (by simp; omega)]
    exact hL.fn i h
end Go.Proofs.YtboknfppecgjmaaGreat
namespace Go.Proofs.YtboknfppecgjmaaGreat
set_option linter.unusedVariables false
set_option linter.unusedSimpArgs false
open Go.RowKit Go.Shelf
theorem second_c (op ty off : Int) (w : World) : Calls Tryz.prog 51 #[iv op, iv ty, iv off] w fun e w' => e = .returned (iv (Vb.second op ty off)) ∧ Below w.heap.size w w' := by
  go_enter Tryz.func51, Tryz.ntmps51
  go_wp2_with (go_at_call 79; refine (isType_c _ _).mono ?_; rintro e w1 ⟨rfl, hb⟩; obtain ⟨hc, hf⟩ := Flow.bcell hb; have hz := hb.size; (try simp only [World.size_alloc, World.size_setCell, World.size_drew] at hz))
  all_goals go_ret
  all_goals (refine ⟨?_, by (repeat (first | exact Below.refl _ _ | refine Below.setCell ?_ (by first | omega | (simp <;> omega)) _ | refine Below.alloc ?_ (by first | omega | (simp <;> omega)) _ | refine Below.drew ?_ | refine Below.trans ?_ (Below.mono (by assumption) (by first | omega | (simp <;> omega)))))⟩)
  all_goals (go_tidy; first | (simp_all [Vb.second]; done) | (simp_all [Vb.second]; first | omega | grind))
theorem isUn_c (op from_ to off : Int) (w : World) : Calls Tryz.prog 40 #[iv op, iv from_, iv to, iv off] w fun e w' => e = .returned (.bool (Vb.isUn op from_ to off)) ∧ Below w.heap.size w w' := by
  go_enter Tryz.func40, Tryz.ntmps40
  go_wp2_with (go_at_call 79; refine (isType_c _ _).mono ?_; rintro e w1 ⟨rfl, hb⟩; obtain ⟨hc, hf⟩ := Flow.bcell hb; have hz := hb.size; (try simp only [World.size_alloc, World.size_setCell, World.size_drew] at hz))
  all_goals go_ret
  all_goals (refine ⟨?_, by (repeat (first | exact Below.refl _ _ | refine Below.setCell ?_ (by first | omega | (simp <;> omega)) _ | refine Below.alloc ?_ (by first | omega | (simp <;> omega)) _ | refine Below.drew ?_ | refine Below.trans ?_ (Below.mono (by assumption) (by first | omega | (simp <;> omega)))))⟩)
  all_goals (go_tidy; first | (simp_all [Vb.isUn]; done) | (simp_all [Vb.isUn]; omega))
end Go.Proofs.YtboknfppecgjmaaGreat
namespace Go.Proofs.YtboknfppecgjmaaGreat
set_option linter.unusedVariables false
set_option linter.unusedSimpArgs false
open Go.RowKit Go.Shelf
theorem isUn_range {op from_ to off : Int} (h : Vb.isUn op from_ to off = true) : 1 ≤ op ∧ op ≤ 13 := by
  unfold Vb.isUn at h
  simp only at h
  split at h
  · cases h
  · repeat' (split at h)
    all_goals first | omega | (cases h; done)
theorem isUn_off {from_ to off : Int} (h : Vb.isUn 12 from_ to off = true) : 0 ≤ off ∧ off ≤ 3 := by
  by_cases h0 : off = 0
  · omega
  · by_cases h1 : off < 0
    · simp [Vb.isUn, h0, h1] at h
    · by_cases h2 : 3 < off
      · simp [Vb.isUn, h0, h2] at h
      · omega
theorem un_rule (u : Vb.Unary) (op : Int) (h : 1 ≤ op ∧ op ≤ 13) (ho : op = 12 → 0 ≤ u.off ∧ u.off ≤ 3) : ∃ g, (∀ w, (Instr.index 71 (.agg unTable) (iv op)).run Tryz.prog w = .ok (.func (.func g) #[] #[]) w) ∧ (∀ args w, (callFunc g args).run Tryz.prog w = .ok (.enter g args) w) ∧
    ∀ w, Calls Tryz.prog g #[unv u] w fun e w' => e = .returned (vv (Vb.unOp op u)) ∧ Below w.heap.size w w' := by
  have hcs : op = 1 ∨ op = 2 ∨ op = 3 ∨ op = 4 ∨ op = 5 ∨ op = 6 ∨ op = 7 ∨ op = 8 ∨ op = 9 ∨ op = 10 ∨ op = 11 ∨ op = 12 ∨ op = 13 := by omega
  rcases hcs with rfl | rfl | rfl | rfl | rfl | rfl | rfl | rfl | rfl | rfl | rfl | rfl | rfl
  · exact ⟨_, fun w => by kernel_rfl, enters_of Tryz.func82 (by kernel_rfl) rfl, fun w => un_not_c u w⟩
  · exact ⟨_, fun w => by kernel_rfl, enters_of Tryz.func83 (by kernel_rfl) rfl, fun w => un_same_c u w⟩
  · exact ⟨_, fun w => by kernel_rfl, enters_of Tryz.func84 (by kernel_rfl) rfl, fun w => un_sext_c u w⟩
  · exact ⟨_, fun w => by kernel_rfl, enters_of Tryz.func83 (by kernel_rfl) rfl, fun w => un_same_c u w⟩
  · exact ⟨_, fun w => by kernel_rfl, enters_of Tryz.func85 (by kernel_rfl) rfl, fun w => un_nz_c u w⟩
  · exact ⟨_, fun w => by kernel_rfl, enters_of Tryz.func86 (by kernel_rfl) rfl, fun w => un_fill_c u w⟩
  · exact ⟨_, fun w => by kernel_rfl, enters_of Tryz.func87 (by kernel_rfl) rfl, fun w => un_left_c u w⟩
  · exact ⟨_, fun w => by kernel_rfl, enters_of Tryz.func88 (by kernel_rfl) rfl, fun w => un_lanes8_c u w⟩
  · exact ⟨_, fun w => by kernel_rfl, enters_of Tryz.func89 (by kernel_rfl) rfl, fun w => un_lanes16_c u w⟩
  · exact ⟨_, fun w => by kernel_rfl, enters_of Tryz.func90 (by kernel_rfl) rfl, fun w => un_lanes32_c u w⟩
  · exact ⟨_, fun w => by kernel_rfl, enters_of Tryz.func91 (by kernel_rfl) rfl, fun w => un_splat_c u w⟩
  · exact ⟨_, fun w => by kernel_rfl, enters_of Tryz.func92 (by kernel_rfl) rfl, fun w => un_word_c u (ho rfl).1 (ho rfl).2 w⟩
  · exact ⟨_, fun w => by kernel_rfl, enters_of Tryz.func93 (by kernel_rfl) rfl, fun w => un_mask_c u w⟩
theorem ret_pair {x : V} {n : Int} {p : V × Int} (h : p = (x, n)) : Ending.returned (.tuple #[vv x, iv n]) = .returned (.tuple #[vv p.1, iv p.2]) := by rw [h]
theorem un_c (op ty to off : Int) (x a : V) (w : World) : Calls Tryz.prog 18 #[iv op, iv ty, iv to, iv off, vv x, vv a] w fun e w' => e = .returned (.tuple #[vv (Vb.un op ty to off x a).1, iv (Vb.un op ty to off x a).2]) ∧ Below w.heap.size w w' := by
  cases h1 : Vb.isUn op ty to off
  · have hv : Vb.un op ty to off x a = (V.zero, 1) := by simp [Vb.un, h1]
    have HV := Lib.hid hv
    clear hv
    go_enter Tryz.func18, Tryz.ntmps18
    go_wp2_with (first | (go_at_call 41; refine (is_c _ _ _).mono ?_; rintro e w1 ⟨rfl, hb⟩; obtain ⟨hc, hf⟩ := Flow.bcell hb; have hz := hb.size; (try simp only [World.size_alloc, World.size_setCell, World.size_drew] at hz); obtain ⟨z0, z1, z2⟩ := Flow.zs3 (show w.heap.size + 3 ≤ w1.heap.size by omega)) | (go_at_call 40; refine (isUn_c _ _ _ _ _).mono ?_; rintro e w1 ⟨rfl, hb⟩; obtain ⟨hc, hf⟩ := Flow.bcell hb; have hz := hb.size; (try simp only [World.size_alloc, World.size_setCell, World.size_drew] at hz); obtain ⟨z0, z1, z2⟩ := Flow.zs3 (show w.heap.size + 3 ≤ w1.heap.size by omega)))
    all_goals (refine Flow.bodyPost_k rfl (fun K hK => ?_); simp only [results, Tryz.results18]; go_simp; refine hK _ ⟨?_, ?_⟩)
    · exact ret_pair HV.out
    · (repeat (first | exact Below.refl _ _ | refine Below.setCell ?_ (by first | omega | (simp <;> omega)) _ | refine Below.alloc ?_ (by first | omega | (simp <;> omega)) _ | refine Below.drew ?_ | refine Below.trans ?_ (Below.mono (by assumption) (by first | omega | (simp <;> omega)))))
  cases h2 : Vb.is ty x
  · have hv : Vb.un op ty to off x a = (V.zero, 1) := by simp [Vb.un, h1, h2]
    have HV := Lib.hid hv
    clear hv
    go_enter Tryz.func18, Tryz.ntmps18
    go_wp2_with (first | (go_at_call 41; refine (is_c _ _ _).mono ?_; rintro e w1 ⟨rfl, hb⟩; obtain ⟨hc, hf⟩ := Flow.bcell hb; have hz := hb.size; (try simp only [World.size_alloc, World.size_setCell, World.size_drew] at hz); obtain ⟨z0, z1, z2⟩ := Flow.zs3 (show w.heap.size + 3 ≤ w1.heap.size by omega)) | (go_at_call 40; refine (isUn_c _ _ _ _ _).mono ?_; rintro e w1 ⟨rfl, hb⟩; obtain ⟨hc, hf⟩ := Flow.bcell hb; have hz := hb.size; (try simp only [World.size_alloc, World.size_setCell, World.size_drew] at hz); obtain ⟨z0, z1, z2⟩ := Flow.zs3 (show w.heap.size + 3 ≤ w1.heap.size by omega)))
    all_goals (refine Flow.bodyPost_k rfl (fun K hK => ?_); simp only [results, Tryz.results18]; go_simp; refine hK _ ⟨?_, ?_⟩)
    · exact ret_pair HV.out
    · (repeat (first | exact Below.refl _ _ | refine Below.setCell ?_ (by first | omega | (simp <;> omega)) _ | refine Below.alloc ?_ (by first | omega | (simp <;> omega)) _ | refine Below.drew ?_ | refine Below.trans ?_ (Below.mono (by assumption) (by first | omega | (simp <;> omega)))))
  cases h3 : Vb.is ty a
  · have hv : Vb.un op ty to off x a = (V.zero, 1) := by simp [Vb.un, h1, h2, h3]
    have HV := Lib.hid hv
    clear hv
    go_enter Tryz.func18, Tryz.ntmps18
    go_wp2_with (first | (go_at_call 41; refine (is_c _ _ _).mono ?_; rintro e w1 ⟨rfl, hb⟩; obtain ⟨hc, hf⟩ := Flow.bcell hb; have hz := hb.size; (try simp only [World.size_alloc, World.size_setCell, World.size_drew] at hz); obtain ⟨z0, z1, z2⟩ := Flow.zs3 (show w.heap.size + 3 ≤ w1.heap.size by omega)) | (go_at_call 40; refine (isUn_c _ _ _ _ _).mono ?_; rintro e w1 ⟨rfl, hb⟩; obtain ⟨hc, hf⟩ := Flow.bcell hb; have hz := hb.size; (try simp only [World.size_alloc, World.size_setCell, World.size_drew] at hz); obtain ⟨z0, z1, z2⟩ := Flow.zs3 (show w.heap.size + 3 ≤ w1.heap.size by omega)))
    all_goals (refine Flow.bodyPost_k rfl (fun K hK => ?_); simp only [results, Tryz.results18]; go_simp; refine hK _ ⟨?_, ?_⟩)
    · exact ret_pair HV.out
    · (repeat (first | exact Below.refl _ _ | refine Below.setCell ?_ (by first | omega | (simp <;> omega)) _ | refine Below.alloc ?_ (by first | omega | (simp <;> omega)) _ | refine Below.drew ?_ | refine Below.trans ?_ (Below.mono (by assumption) (by first | omega | (simp <;> omega)))))
  have hv : Vb.un op ty to off x a = (Vb.unOp op ⟨x, a, ty, to, off⟩, 0) := by simp [Vb.un, h1, h2, h3]
  have hop := isUn_range h1
  obtain ⟨g, hg, hcf, hcg⟩ := un_rule ⟨x, a, ty, to, off⟩ op hop (fun h => isUn_off (h ▸ h1))
  have HV := Lib.hid hv
  have HG := Lib.hid hcg
  clear hv hcg
  obtain ⟨o1, o2⟩ := hop
  have o3 : 0 ≤ op := by omega
  have o4 : op < 14 := by omega
  clear o1 o2
  go_enter Tryz.func18, Tryz.ntmps18
  go_wp2_with (first | (go_at_call 41; refine (is_c _ _ _).mono ?_; rintro e w1 ⟨rfl, hb⟩; obtain ⟨hc, hf⟩ := Flow.bcell hb; have hz := hb.size; (try simp only [World.size_alloc, World.size_setCell, World.size_drew] at hz); obtain ⟨z0, z1, z2⟩ := Flow.zs3 (show w.heap.size + 3 ≤ w1.heap.size by omega)) | (go_at_call 40; refine (isUn_c _ _ _ _ _).mono ?_; rintro e w1 ⟨rfl, hb⟩; obtain ⟨hc, hf⟩ := Flow.bcell hb; have hz := hb.size; (try simp only [World.size_alloc, World.size_setCell, World.size_drew] at hz); obtain ⟨z0, z1, z2⟩ := Flow.zs3 (show w.heap.size + 3 ≤ w1.heap.size by omega)))
  refine Flow.wp_region_below 10 (by kernel_rfl) (by kernel_rfl) (fun R hRc hRt => ?_)
  simp only [List.take_succ_cons, List.take_zero, List.drop_succ_cons, List.drop_zero]
  iterate 10
    first
      | refine Flow.flow_skip rfl ?_
      | (apply Flow.flow_step; rfl; (intro w1 hb; have hc := hRc.out w1 hb; go_simp; (first | with_reducible exact ⟨rfl, hb⟩ | (go_at_call 42; refine (unaries_c _).mono ?_; rintro e w2 ⟨rfl, hb2⟩; exact ⟨_, rfl, rfl, hRt.out _ _ hb hb2⟩) | (refine (HG.out _).mono ?_;rintro e w2 ⟨rfl,hb2⟩;exact ⟨_,rfl,rfl,hRt.out _ _ hb hb2⟩))))
    simp only [Act.put, List.setIfInBounds_toArray, List.set_cons_zero, List.set_cons_succ]
  apply Flow.flow_nil
  clear hRc hRt
  intro w1 hb
  obtain ⟨hc, hf⟩ := Flow.bcell hb
  have hz := hb.size
  (try simp only [World.size_alloc, World.size_setCell, World.size_drew] at hz)
  obtain ⟨z0, z1, z2⟩ := Flow.zs3 (show w.heap.size + 3 ≤ w1.heap.size by omega)
  go_wp2
  refine Flow.bodyPost_k rfl (fun K hK => ?_)
  simp only [results, Tryz.results18]
  go_simp
  refine hK _ ⟨?_, ?_⟩
  · exact ret_pair HV.out
  · (repeat (first | exact Below.refl _ _ | refine Below.setCell ?_ (by first | omega | (simp <;> omega)) _ | refine Below.alloc ?_ (by first | omega | (simp <;> omega)) _ | refine Below.drew ?_ | refine Below.trans ?_ (Below.mono (by assumption) (by first | omega | (simp <;> omega)))))
end Go.Proofs.YtboknfppecgjmaaGreat
namespace Go.Proofs.YtboknfppecgjmaaGreat
set_option linter.unusedVariables false
set_option linter.unusedSimpArgs false
open Go.RowKit Go.Shelf
structure BiCells (B : Nat) (w : World) : Prop where
  wid : ∀ i (h : i < biLanes.length), w.cell? ⟨B + 2 * i, 0, none⟩ = some (iv biLanes[i].1)
  fn : ∀ i (h : i < biLanes.length), w.cell? ⟨B + 2 * i + 1, 0, none⟩ = some (.func (.func biLanes[i].2) #[] #[])
theorem bi_rule (o : Vb.Binary) (h : 1 ≤ o.op ∧ o.op ≤ 30) (ho : o.op = 30 → 0 ≤ o.off ∧ o.off ≤ 3) (B : Nat) : ∃ g caps, (∀ w, (Instr.index 81 (.agg (biTable B)) (iv o.op)).run Tryz.prog w = .ok (.func (.func g) #[] caps) w) ∧ (∀ args w, (callFunc g args).run Tryz.prog w = .ok (.enter g args) w) ∧
    ∀ w, BiCells B w → Calls Tryz.prog g (#[bnv o] ++ caps) w fun e w' => e = .returned (vv (Vb.binOp o)) ∧ Below w.heap.size w w' := by
  obtain ⟨op, ty, off, x, a, y, b⟩ := o
  simp only at h ho
  have hcs : op = 1 ∨ op = 2 ∨ op = 3 ∨ op = 4 ∨ op = 5 ∨ op = 6 ∨ op = 7 ∨ op = 8 ∨ op = 9 ∨ op = 10 ∨ op = 11 ∨ op = 12 ∨ op = 13 ∨ op = 14 ∨ op = 15 ∨ op = 16 ∨ op = 17 ∨ op = 18 ∨ op = 19 ∨ op = 20 ∨ op = 21 ∨ op = 22 ∨ op = 23 ∨ op = 24 ∨ op = 25 ∨ op = 26 ∨ op = 27 ∨ op = 28 ∨ op = 29 ∨ op = 30 := by omega
  rcases hcs with rfl | rfl | rfl | rfl | rfl | rfl | rfl | rfl | rfl | rfl | rfl | rfl | rfl | rfl | rfl | rfl | rfl | rfl | rfl | rfl | rfl | rfl | rfl | rfl | rfl | rfl | rfl | rfl | rfl | rfl
  · exact ⟨137, #[.pointer (some ⟨B + 0, 0, none⟩), .pointer (some ⟨B + 0 + 1, 0, none⟩)], fun w => by kernel_rfl, enters_of Tryz.func137 (by kernel_rfl) rfl, fun w hc => by show Calls _ _ #[_, _, _] _ _; exact bi_lane1_c _ 32 (.inr (.inr rfl)) 98 Vb.added (enters_of Tryz.func98 (by kernel_rfl) rfl) added_c (B + 0) (B + 0 + 1) w (hc.wid 0 (by decide)) (hc.fn 0 (by decide))⟩
  · exact ⟨137, #[.pointer (some ⟨B + 2, 0, none⟩), .pointer (some ⟨B + 2 + 1, 0, none⟩)], fun w => by kernel_rfl, enters_of Tryz.func137 (by kernel_rfl) rfl, fun w hc => by show Calls _ _ #[_, _, _] _ _; exact bi_lane1_c _ 32 (.inr (.inr rfl)) 99 Vb.subtracted (enters_of Tryz.func99 (by kernel_rfl) rfl) subtracted_c (B + 2) (B + 2 + 1) w (hc.wid 1 (by decide)) (hc.fn 1 (by decide))⟩
  · exact ⟨_, #[], fun w => by kernel_rfl, enters_of Tryz.func100 (by kernel_rfl) rfl, fun w _ => bi_mul_c _ w⟩
  · exact ⟨_, #[], fun w => by kernel_rfl, enters_of Tryz.func101 (by kernel_rfl) rfl, fun w _ => bi_any_c _ w⟩
  · exact ⟨_, #[], fun w => by kernel_rfl, enters_of Tryz.func101 (by kernel_rfl) rfl, fun w _ => bi_any_c _ w⟩
  · exact ⟨_, #[], fun w => by kernel_rfl, enters_of Tryz.func101 (by kernel_rfl) rfl, fun w _ => bi_any_c _ w⟩
  · exact ⟨_, #[], fun w => by kernel_rfl, enters_of Tryz.func101 (by kernel_rfl) rfl, fun w _ => bi_any_c _ w⟩
  · exact ⟨_, #[], fun w => by kernel_rfl, enters_of Tryz.func102 (by kernel_rfl) rfl, fun w _ => bi_and_c _ w⟩
  · exact ⟨_, #[], fun w => by kernel_rfl, enters_of Tryz.func103 (by kernel_rfl) rfl, fun w _ => bi_or_c _ w⟩
  · exact ⟨_, #[], fun w => by kernel_rfl, enters_of Tryz.func104 (by kernel_rfl) rfl, fun w _ => bi_xor_c _ w⟩
  · exact ⟨_, #[], fun w => by kernel_rfl, enters_of Tryz.func105 (by kernel_rfl) rfl, fun w _ => bi_shift_c _ w⟩
  · exact ⟨_, #[], fun w => by kernel_rfl, enters_of Tryz.func105 (by kernel_rfl) rfl, fun w _ => bi_shift_c _ w⟩
  · exact ⟨_, #[], fun w => by kernel_rfl, enters_of Tryz.func105 (by kernel_rfl) rfl, fun w _ => bi_shift_c _ w⟩
  · exact ⟨_, #[], fun w => by kernel_rfl, enters_of Tryz.func106 (by kernel_rfl) rfl, fun w _ => bi_same_c _ w⟩
  · exact ⟨_, #[], fun w => by kernel_rfl, enters_of Tryz.func106 (by kernel_rfl) rfl, fun w _ => bi_same_c _ w⟩
  · exact ⟨_, #[], fun w => by kernel_rfl, enters_of Tryz.func107 (by kernel_rfl) rfl, fun w _ => bi_less_c _ w⟩
  · exact ⟨_, #[], fun w => by kernel_rfl, enters_of Tryz.func107 (by kernel_rfl) rfl, fun w _ => bi_less_c _ w⟩
  · exact ⟨_, #[], fun w => by kernel_rfl, enters_of Tryz.func107 (by kernel_rfl) rfl, fun w _ => bi_less_c _ w⟩
  · exact ⟨_, #[], fun w => by kernel_rfl, enters_of Tryz.func107 (by kernel_rfl) rfl, fun w _ => bi_less_c _ w⟩
  · exact ⟨137, #[.pointer (some ⟨B + 4, 0, none⟩), .pointer (some ⟨B + 4 + 1, 0, none⟩)], fun w => by kernel_rfl, enters_of Tryz.func137 (by kernel_rfl) rfl, fun w hc => by show Calls _ _ #[_, _, _] _ _; exact bi_lane1_c _ 8 (.inl rfl) 98 Vb.added (enters_of Tryz.func98 (by kernel_rfl) rfl) added_c (B + 4) (B + 4 + 1) w (hc.wid 2 (by decide)) (hc.fn 2 (by decide))⟩
  · exact ⟨137, #[.pointer (some ⟨B + 6, 0, none⟩), .pointer (some ⟨B + 6 + 1, 0, none⟩)], fun w => by kernel_rfl, enters_of Tryz.func137 (by kernel_rfl) rfl, fun w hc => by show Calls _ _ #[_, _, _] _ _; exact bi_lane1_c _ 16 (.inr (.inl rfl)) 98 Vb.added (enters_of Tryz.func98 (by kernel_rfl) rfl) added_c (B + 6) (B + 6 + 1) w (hc.wid 3 (by decide)) (hc.fn 3 (by decide))⟩
  · exact ⟨137, #[.pointer (some ⟨B + 8, 0, none⟩), .pointer (some ⟨B + 8 + 1, 0, none⟩)], fun w => by kernel_rfl, enters_of Tryz.func137 (by kernel_rfl) rfl, fun w hc => by show Calls _ _ #[_, _, _] _ _; exact bi_lane1_c _ 32 (.inr (.inr rfl)) 98 Vb.added (enters_of Tryz.func98 (by kernel_rfl) rfl) added_c (B + 8) (B + 8 + 1) w (hc.wid 4 (by decide)) (hc.fn 4 (by decide))⟩
  · exact ⟨137, #[.pointer (some ⟨B + 10, 0, none⟩), .pointer (some ⟨B + 10 + 1, 0, none⟩)], fun w => by kernel_rfl, enters_of Tryz.func137 (by kernel_rfl) rfl, fun w hc => by show Calls _ _ #[_, _, _] _ _; exact bi_lane1_c _ 8 (.inl rfl) 99 Vb.subtracted (enters_of Tryz.func99 (by kernel_rfl) rfl) subtracted_c (B + 10) (B + 10 + 1) w (hc.wid 5 (by decide)) (hc.fn 5 (by decide))⟩
  · exact ⟨137, #[.pointer (some ⟨B + 12, 0, none⟩), .pointer (some ⟨B + 12 + 1, 0, none⟩)], fun w => by kernel_rfl, enters_of Tryz.func137 (by kernel_rfl) rfl, fun w hc => by show Calls _ _ #[_, _, _] _ _; exact bi_lane1_c _ 16 (.inr (.inl rfl)) 99 Vb.subtracted (enters_of Tryz.func99 (by kernel_rfl) rfl) subtracted_c (B + 12) (B + 12 + 1) w (hc.wid 6 (by decide)) (hc.fn 6 (by decide))⟩
  · exact ⟨137, #[.pointer (some ⟨B + 14, 0, none⟩), .pointer (some ⟨B + 14 + 1, 0, none⟩)], fun w => by kernel_rfl, enters_of Tryz.func137 (by kernel_rfl) rfl, fun w hc => by show Calls _ _ #[_, _, _] _ _; exact bi_lane1_c _ 32 (.inr (.inr rfl)) 99 Vb.subtracted (enters_of Tryz.func99 (by kernel_rfl) rfl) subtracted_c (B + 14) (B + 14 + 1) w (hc.wid 7 (by decide)) (hc.fn 7 (by decide))⟩
  · exact ⟨137, #[.pointer (some ⟨B + 16, 0, none⟩), .pointer (some ⟨B + 16 + 1, 0, none⟩)], fun w => by kernel_rfl, enters_of Tryz.func137 (by kernel_rfl) rfl, fun w hc => by show Calls _ _ #[_, _, _] _ _; exact bi_lane1_c _ 8 (.inl rfl) 108 Vb.equal (enters_of Tryz.func108 (by kernel_rfl) rfl) equal_c (B + 16) (B + 16 + 1) w (hc.wid 8 (by decide)) (hc.fn 8 (by decide))⟩
  · exact ⟨137, #[.pointer (some ⟨B + 18, 0, none⟩), .pointer (some ⟨B + 18 + 1, 0, none⟩)], fun w => by kernel_rfl, enters_of Tryz.func137 (by kernel_rfl) rfl, fun w hc => by show Calls _ _ #[_, _, _] _ _; exact bi_lane1_c _ 16 (.inr (.inl rfl)) 108 Vb.equal (enters_of Tryz.func108 (by kernel_rfl) rfl) equal_c (B + 18) (B + 18 + 1) w (hc.wid 9 (by decide)) (hc.fn 9 (by decide))⟩
  · exact ⟨137, #[.pointer (some ⟨B + 20, 0, none⟩), .pointer (some ⟨B + 20 + 1, 0, none⟩)], fun w => by kernel_rfl, enters_of Tryz.func137 (by kernel_rfl) rfl, fun w hc => by show Calls _ _ #[_, _, _] _ _; exact bi_lane1_c _ 32 (.inr (.inr rfl)) 108 Vb.equal (enters_of Tryz.func108 (by kernel_rfl) rfl) equal_c (B + 20) (B + 20 + 1) w (hc.wid 10 (by decide)) (hc.fn 10 (by decide))⟩
  · exact ⟨_, #[], fun w => by kernel_rfl, enters_of Tryz.func109 (by kernel_rfl) rfl, fun w _ => bi_shuf_c _ w⟩
  · exact ⟨_, #[], fun w => by kernel_rfl, enters_of Tryz.func110 (by kernel_rfl) rfl, fun w _ => bi_put_c _ (ho rfl).1 (ho rfl).2 w⟩
theorem second_range {op ty off : Int} (h : Vb.second op ty off ≠ 0) : 1 ≤ op ∧ op ≤ 30 := by
  unfold Vb.second at h
  simp only at h
  split at h
  · rename_i hc; omega
  · split at h
    · exact absurd rfl h
    · split at h
      · rename_i hc
        simp only [Bool.or_eq_true, Bool.and_eq_true, decide_eq_true_eq, beq_iff_eq] at hc
        omega
      · exact absurd rfl h
theorem second_off {ty off : Int} (h : Vb.second 30 ty off ≠ 0) : 0 ≤ off ∧ off ≤ 3 := by
  unfold Vb.second at h
  simp only at h
  split at h
  · rename_i hc; omega
  · split at h
    · exact absurd rfl h
    · omega
theorem bin_c (op ty off : Int) (x a y b : V) (w : World) : Calls Tryz.prog 21 #[iv op, iv ty, iv off, vv x, vv a, vv y, vv b] w fun e w' => e = .returned (.tuple #[vv (Vb.bin op ty off x a y b).1, iv (Vb.bin op ty off x a y b).2]) ∧ Below w.heap.size w w' := by
  by_cases h1 : Vb.second op ty off = 0
  · have hv : Vb.bin op ty off x a y b = (V.zero, 1) := by simp [Vb.bin, h1]
    have HV := Lib.hid hv
    clear hv
    go_enter Tryz.func21, Tryz.ntmps21
    go_wp2_with (first | (go_at_call 41; refine (is_c _ _ _).mono ?_; rintro e w1 ⟨rfl, hb⟩; obtain ⟨hc, hf⟩ := Flow.bcell hb; have hz := hb.size; (try simp only [World.size_alloc, World.size_setCell, World.size_drew] at hz); obtain ⟨z0, z1, z2, z3, z4⟩ := Flow.zs5 (show w.heap.size + 5 ≤ w1.heap.size by omega)) | (go_at_call 51; refine (second_c _ _ _ _).mono ?_; rintro e w1 ⟨rfl, hb⟩; obtain ⟨hc, hf⟩ := Flow.bcell hb; have hz := hb.size; (try simp only [World.size_alloc, World.size_setCell, World.size_drew] at hz); obtain ⟨z0, z1, z2, z3, z4⟩ := Flow.zs5 (show w.heap.size + 5 ≤ w1.heap.size by omega)))
    all_goals (refine Flow.bodyPost_k rfl (fun K hK => ?_); simp only [results, Tryz.results21]; go_simp; refine hK _ ⟨?_, ?_⟩)
    · exact ret_pair HV.out
    · (repeat (first | exact Below.refl _ _ | refine Below.setCell ?_ (by first | omega | (simp <;> omega)) _ | refine Below.alloc ?_ (by first | omega | (simp <;> omega)) _ | refine Below.drew ?_ | refine Below.trans ?_ (Below.mono (by assumption) (by first | omega | (simp <;> omega)))))
  cases h2 : Vb.is ty x
  · have hv : Vb.bin op ty off x a y b = (V.zero, 1) := by simp [Vb.bin, h2]
    have HV := Lib.hid hv
    clear hv
    go_enter Tryz.func21, Tryz.ntmps21
    go_wp2_with (first | (go_at_call 41; refine (is_c _ _ _).mono ?_; rintro e w1 ⟨rfl, hb⟩; obtain ⟨hc, hf⟩ := Flow.bcell hb; have hz := hb.size; (try simp only [World.size_alloc, World.size_setCell, World.size_drew] at hz); obtain ⟨z0, z1, z2, z3, z4⟩ := Flow.zs5 (show w.heap.size + 5 ≤ w1.heap.size by omega)) | (go_at_call 51; refine (second_c _ _ _ _).mono ?_; rintro e w1 ⟨rfl, hb⟩; obtain ⟨hc, hf⟩ := Flow.bcell hb; have hz := hb.size; (try simp only [World.size_alloc, World.size_setCell, World.size_drew] at hz); obtain ⟨z0, z1, z2, z3, z4⟩ := Flow.zs5 (show w.heap.size + 5 ≤ w1.heap.size by omega)))
    all_goals (refine Flow.bodyPost_k rfl (fun K hK => ?_); simp only [results, Tryz.results21]; go_simp; refine hK _ ⟨?_, ?_⟩)
    · exact ret_pair HV.out
    · (repeat (first | exact Below.refl _ _ | refine Below.setCell ?_ (by first | omega | (simp <;> omega)) _ | refine Below.alloc ?_ (by first | omega | (simp <;> omega)) _ | refine Below.drew ?_ | refine Below.trans ?_ (Below.mono (by assumption) (by first | omega | (simp <;> omega)))))
  cases h3 : Vb.is ty a
  · have hv : Vb.bin op ty off x a y b = (V.zero, 1) := by simp [Vb.bin, h3]
    have HV := Lib.hid hv
    clear hv
    go_enter Tryz.func21, Tryz.ntmps21
    go_wp2_with (first | (go_at_call 41; refine (is_c _ _ _).mono ?_; rintro e w1 ⟨rfl, hb⟩; obtain ⟨hc, hf⟩ := Flow.bcell hb; have hz := hb.size; (try simp only [World.size_alloc, World.size_setCell, World.size_drew] at hz); obtain ⟨z0, z1, z2, z3, z4⟩ := Flow.zs5 (show w.heap.size + 5 ≤ w1.heap.size by omega)) | (go_at_call 51; refine (second_c _ _ _ _).mono ?_; rintro e w1 ⟨rfl, hb⟩; obtain ⟨hc, hf⟩ := Flow.bcell hb; have hz := hb.size; (try simp only [World.size_alloc, World.size_setCell, World.size_drew] at hz); obtain ⟨z0, z1, z2, z3, z4⟩ := Flow.zs5 (show w.heap.size + 5 ≤ w1.heap.size by omega)))
    all_goals (refine Flow.bodyPost_k rfl (fun K hK => ?_); simp only [results, Tryz.results21]; go_simp; refine hK _ ⟨?_, ?_⟩)
    · exact ret_pair HV.out
    · (repeat (first | exact Below.refl _ _ | refine Below.setCell ?_ (by first | omega | (simp <;> omega)) _ | refine Below.alloc ?_ (by first | omega | (simp <;> omega)) _ | refine Below.drew ?_ | refine Below.trans ?_ (Below.mono (by assumption) (by first | omega | (simp <;> omega)))))
  cases h4 : Vb.is (Vb.second op ty off) y
  · have hv : Vb.bin op ty off x a y b = (V.zero, 1) := by simp [Vb.bin, h4]
    have HV := Lib.hid hv
    clear hv
    go_enter Tryz.func21, Tryz.ntmps21
    go_wp2_with (first | (go_at_call 41; refine (is_c _ _ _).mono ?_; rintro e w1 ⟨rfl, hb⟩; obtain ⟨hc, hf⟩ := Flow.bcell hb; have hz := hb.size; (try simp only [World.size_alloc, World.size_setCell, World.size_drew] at hz); obtain ⟨z0, z1, z2, z3, z4⟩ := Flow.zs5 (show w.heap.size + 5 ≤ w1.heap.size by omega)) | (go_at_call 51; refine (second_c _ _ _ _).mono ?_; rintro e w1 ⟨rfl, hb⟩; obtain ⟨hc, hf⟩ := Flow.bcell hb; have hz := hb.size; (try simp only [World.size_alloc, World.size_setCell, World.size_drew] at hz); obtain ⟨z0, z1, z2, z3, z4⟩ := Flow.zs5 (show w.heap.size + 5 ≤ w1.heap.size by omega)))
    all_goals (refine Flow.bodyPost_k rfl (fun K hK => ?_); simp only [results, Tryz.results21]; go_simp; refine hK _ ⟨?_, ?_⟩)
    · exact ret_pair HV.out
    · (repeat (first | exact Below.refl _ _ | refine Below.setCell ?_ (by first | omega | (simp <;> omega)) _ | refine Below.alloc ?_ (by first | omega | (simp <;> omega)) _ | refine Below.drew ?_ | refine Below.trans ?_ (Below.mono (by assumption) (by first | omega | (simp <;> omega)))))
  cases h5 : Vb.is (Vb.second op ty off) b
  · have hv : Vb.bin op ty off x a y b = (V.zero, 1) := by simp [Vb.bin, h5]
    have HV := Lib.hid hv
    clear hv
    go_enter Tryz.func21, Tryz.ntmps21
    go_wp2_with (first | (go_at_call 41; refine (is_c _ _ _).mono ?_; rintro e w1 ⟨rfl, hb⟩; obtain ⟨hc, hf⟩ := Flow.bcell hb; have hz := hb.size; (try simp only [World.size_alloc, World.size_setCell, World.size_drew] at hz); obtain ⟨z0, z1, z2, z3, z4⟩ := Flow.zs5 (show w.heap.size + 5 ≤ w1.heap.size by omega)) | (go_at_call 51; refine (second_c _ _ _ _).mono ?_; rintro e w1 ⟨rfl, hb⟩; obtain ⟨hc, hf⟩ := Flow.bcell hb; have hz := hb.size; (try simp only [World.size_alloc, World.size_setCell, World.size_drew] at hz); obtain ⟨z0, z1, z2, z3, z4⟩ := Flow.zs5 (show w.heap.size + 5 ≤ w1.heap.size by omega)))
    all_goals (refine Flow.bodyPost_k rfl (fun K hK => ?_); simp only [results, Tryz.results21]; go_simp; refine hK _ ⟨?_, ?_⟩)
    · exact ret_pair HV.out
    · (repeat (first | exact Below.refl _ _ | refine Below.setCell ?_ (by first | omega | (simp <;> omega)) _ | refine Below.alloc ?_ (by first | omega | (simp <;> omega)) _ | refine Below.drew ?_ | refine Below.trans ?_ (Below.mono (by assumption) (by first | omega | (simp <;> omega)))))
  have hv : Vb.bin op ty off x a y b = (Vb.binOp ⟨op, ty, off, x, a, y, b⟩, 0) := by simp [Vb.bin, h1, h2, h3, h4, h5]
  have hop := second_range h1
  have hoff : op = 30 → 0 ≤ off ∧ off ≤ 3 := fun h => second_off (h ▸ h1)
  have HV := Lib.hid hv
  have HOP := Lib.hid hop
  have HOFF := Lib.hid hoff
  clear hv hop hoff
  go_enter Tryz.func21, Tryz.ntmps21
  go_wp2_with (first | (go_at_call 41; refine (is_c _ _ _).mono ?_; rintro e w1 ⟨rfl, hb⟩; obtain ⟨hc, hf⟩ := Flow.bcell hb; have hz := hb.size; (try simp only [World.size_alloc, World.size_setCell, World.size_drew] at hz); obtain ⟨z0, z1, z2, z3, z4⟩ := Flow.zs5 (show w.heap.size + 5 ≤ w1.heap.size by omega)) | (go_at_call 51; refine (second_c _ _ _ _).mono ?_; rintro e w1 ⟨rfl, hb⟩; obtain ⟨hc, hf⟩ := Flow.bcell hb; have hz := hb.size; (try simp only [World.size_alloc, World.size_setCell, World.size_drew] at hz); obtain ⟨z0, z1, z2, z3, z4⟩ := Flow.zs5 (show w.heap.size + 5 ≤ w1.heap.size by omega)))
  rename_i hne _ _
  obtain ⟨g, caps, hix, hcf, hcg⟩ := bi_rule ⟨op, ty, off, x, a, y, b⟩ HOP.out HOFF.out (w1.heap.size + 1)
  have HG := Lib.hid hcg
  clear hcg
  refine FlowC.wp_region_call (fun w' => Below w1.heap.size w1 w' ∧ BiCells (w1.heap.size + 1) w') (fun w' h => h.1) 11 (by omega) (by kernel_rfl) (by kernel_rfl) (fun R hRc hR0 hR1 => ?_)
  simp only [List.take_succ_cons, List.take_zero, List.drop_succ_cons, List.drop_zero]
  apply FlowC.flow_first (.agg (biTable (w1.heap.size + 1)))
  · rfl
  · intro w2 hw2
    have e := hR0.out w2 hw2
    subst e
    go_simp
    refine (binaries_c _).mono ?_
    rintro e w3 ⟨rfl, hb, hw, hf⟩
    exact ⟨_, rfl, rfl, hR1.out _ ⟨⟨hb.os, hb.tape, hb.output, hb.size, hb.block⟩, ⟨hw, hf⟩⟩⟩
  simp only [Act.put, List.setIfInBounds_toArray, List.set_cons_zero, List.set_cons_succ]
  iterate 10
    apply FlowC.flow_step
    · rfl
    · intro bb w2 hw2
      have hc := hRc.out bb w2 hw2
      go_simp
      with_reducible exact ⟨rfl, hw2⟩
    simp only [Act.put, List.setIfInBounds_toArray, List.set_cons_zero, List.set_cons_succ]
  apply FlowC.flow_nil
  clear hRc hR0 hR1
  rintro w2 ⟨hb2, hbc⟩
  obtain ⟨hc, hf⟩ := Flow.bcell hb2
  have hz := hb2.size
  obtain ⟨z0, z1, z2, z3, z4⟩ := Flow.zs5 (show w.heap.size + 5 ≤ w2.heap.size by omega)
  have HBC := Lib.hid hbc
  clear hbc
  go_wp2_with (refine (HG.out _ HBC.out).mono ?_; rintro e w3 ⟨rfl, hb⟩; obtain ⟨hc3, hf3⟩ := Flow.bcell hb; have hz3 := hb.size; obtain ⟨z0, z1, z2, z3, z4⟩ := Flow.zs5 (show w.heap.size + 5 ≤ w3.heap.size by omega))
  refine Flow.bodyPost_k rfl (fun K hK => ?_)
  simp only [results, Tryz.results21]
  go_simp
  refine hK _ ⟨?_, ?_⟩
  · exact ret_pair HV.out
  · (repeat (first | exact Below.refl _ _ | refine Below.setCell ?_ (by first | omega | (simp <;> omega)) _ | refine Below.alloc ?_ (by first | omega | (simp <;> omega)) _ | refine Below.drew ?_ | refine Below.trans ?_ (Below.mono (by assumption) (by first | omega | (simp <;> omega)))))
end Go.Proofs.YtboknfppecgjmaaGreat
namespace Go.Proofs.YtboknfppecgjmaaGreat
set_option linter.unusedVariables false
set_option linter.unusedSimpArgs false
open Go.RowKit Go.Shelf
attribute [local go_sem] U_eq_zero
def Lists (w : World) (v : Value) (l : List (BitVec 32)) : Prop := (∃ a cap, v = .slice a 0 cap ∧ l = []) ∨ ∃ b off cap, v = .slice (some ⟨b, off, none⟩) l.length cap ∧ ∀ i x, l[i]? = some x → w.cell? ⟨b, off + i, none⟩ = some (uv x)
theorem Lists.below {w w' : World} {v : Value} {l : List (BitVec 32)} (h : Lists w v l) (hb : Below w.heap.size w w') : Lists w' v l := by
  rcases h with h | ⟨b, off, cap, hv, hc⟩
  · exact .inl h
  · refine .inr ⟨b, off, cap, hv, fun i x hi => ?_⟩
    have h1 := hc i x hi
    have hlt := block_lt_of_cell h1
    simp only at hlt
    rw [(Flow.bcell hb).1 _ _ hlt]
    exact h1
theorem ret_two {p : BitVec 32 × Int} {x : BitVec 32} {n : Int} (h : p = (x, n)) : Ending.returned (.tuple #[uv x, iv n]) = .returned (.tuple #[uv p.1, iv p.2]) := by rw [h]
set_option maxRecDepth 100000 in
theorem call4_c (p0 p1 p2 p3 : BitVec 32) (b off cap : Nat) (w : World) (c0 : w.cell? ⟨b, off, none⟩ = some (uv p0)) (c1 : w.cell? ⟨b, off + 1, none⟩ = some (uv p1)) (c2 : w.cell? ⟨b, off + 2, none⟩ = some (uv p2)) (c3 : w.cell? ⟨b, off + 3, none⟩ = some (uv p3)) : Calls Tryz.prog 33 #[iv 1, .slice (some ⟨b, off, none⟩) 4 cap] w fun e w' => e = .returned (.tuple #[uv (Vb.call 1 [p0, p1, p2, p3]).1, iv (Vb.call 1 [p0, p1, p2, p3]).2]) ∧ w' = w := by
  by_cases h0 : p0 = 0#32
  rotate_left
  · have hv : Vb.call 1 [p0, p1, p2, p3] = (15#32, 0) := by simp [Vb.call, h0]
    have HV := Lib.hid hv
    clear hv
    go_enter Tryz.func33, Tryz.ntmps33
    go_wp2_with fail
    refine wp_loop_rounds 6 ?_
    rw [rounds_succ]
    go_wp2_with fail
    go_ret2
    exact ⟨ret_two HV.out, rfl⟩
  by_cases h1 : p1 = 0#32
  rotate_left
  · have hv : Vb.call 1 [p0, p1, p2, p3] = (15#32, 0) := by simp [Vb.call, h0, h1]
    have HV := Lib.hid hv
    clear hv
    go_enter Tryz.func33, Tryz.ntmps33
    go_wp2_with fail
    refine wp_loop_rounds 6 ?_
    rw [rounds_succ]
    go_wp2_with fail
    rw [rounds_succ]
    go_wp2_with fail
    go_ret2
    exact ⟨ret_two HV.out, rfl⟩
  by_cases h2 : p2 = 0#32
  rotate_left
  · have hv : Vb.call 1 [p0, p1, p2, p3] = (15#32, 0) := by simp [Vb.call, h0, h1, h2]
    have HV := Lib.hid hv
    clear hv
    go_enter Tryz.func33, Tryz.ntmps33
    go_wp2_with fail
    refine wp_loop_rounds 6 ?_
    rw [rounds_succ]
    go_wp2_with fail
    rw [rounds_succ]
    go_wp2_with fail
    rw [rounds_succ]
    go_wp2_with fail
    go_ret2
    exact ⟨ret_two HV.out, rfl⟩
  by_cases h3 : p3 = 0#32
  rotate_left
  · have hv : Vb.call 1 [p0, p1, p2, p3] = (15#32, 0) := by simp [Vb.call, h0, h1, h2, h3]
    have HV := Lib.hid hv
    clear hv
    go_enter Tryz.func33, Tryz.ntmps33
    go_wp2_with fail
    refine wp_loop_rounds 6 ?_
    rw [rounds_succ]
    go_wp2_with fail
    rw [rounds_succ]
    go_wp2_with fail
    rw [rounds_succ]
    go_wp2_with fail
    rw [rounds_succ]
    go_wp2_with fail
    go_ret2
    exact ⟨ret_two HV.out, rfl⟩
  · have hv : Vb.call 1 [p0, p1, p2, p3] = (0#32, 0) := by simp [Vb.call, h0, h1, h2, h3]
    have HV := Lib.hid hv
    clear hv
    go_enter Tryz.func33, Tryz.ntmps33
    go_wp2_with fail
    refine wp_loop_rounds 6 ?_
    rw [rounds_succ]
    go_wp2_with fail
    rw [rounds_succ]
    go_wp2_with fail
    rw [rounds_succ]
    go_wp2_with fail
    rw [rounds_succ]
    go_wp2_with fail
    rw [rounds_succ]
    go_wp2_with fail
    go_ret2
    exact ⟨ret_two HV.out, rfl⟩
set_option maxRecDepth 100000 in
theorem call5_c (p0 p1 p2 p3 p4 : BitVec 32) (b off cap : Nat) (w : World) (c0 : w.cell? ⟨b, off, none⟩ = some (uv p0)) (c1 : w.cell? ⟨b, off + 1, none⟩ = some (uv p1)) (c2 : w.cell? ⟨b, off + 2, none⟩ = some (uv p2)) (c3 : w.cell? ⟨b, off + 3, none⟩ = some (uv p3)) (c4 : w.cell? ⟨b, off + 4, none⟩ = some (uv p4)) : Calls Tryz.prog 33 #[iv 2, .slice (some ⟨b, off, none⟩) 5 cap] w fun e w' => e = .returned (.tuple #[uv (Vb.call 2 [p0, p1, p2, p3, p4]).1, iv (Vb.call 2 [p0, p1, p2, p3, p4]).2]) ∧ w' = w := by
  by_cases h0 : p0 = 0#32
  rotate_left
  · have hv : Vb.call 2 [p0, p1, p2, p3, p4] = (1#32, 0) := by simp [Vb.call, h0]
    have HV := Lib.hid hv
    clear hv
    go_enter Tryz.func33, Tryz.ntmps33
    go_wp2_with fail
    refine wp_loop_rounds 6 ?_
    rw [rounds_succ]
    go_wp2_with fail
    go_ret2
    exact ⟨ret_two HV.out, rfl⟩
  by_cases h1 : p1 = 0#32
  rotate_left
  · have hv : Vb.call 2 [p0, p1, p2, p3, p4] = (1#32, 0) := by simp [Vb.call, h0, h1]
    have HV := Lib.hid hv
    clear hv
    go_enter Tryz.func33, Tryz.ntmps33
    go_wp2_with fail
    refine wp_loop_rounds 6 ?_
    rw [rounds_succ]
    go_wp2_with fail
    rw [rounds_succ]
    go_wp2_with fail
    go_ret2
    exact ⟨ret_two HV.out, rfl⟩
  by_cases h2 : p2 = 0#32
  rotate_left
  · have hv : Vb.call 2 [p0, p1, p2, p3, p4] = (1#32, 0) := by simp [Vb.call, h0, h1, h2]
    have HV := Lib.hid hv
    clear hv
    go_enter Tryz.func33, Tryz.ntmps33
    go_wp2_with fail
    refine wp_loop_rounds 6 ?_
    rw [rounds_succ]
    go_wp2_with fail
    rw [rounds_succ]
    go_wp2_with fail
    rw [rounds_succ]
    go_wp2_with fail
    go_ret2
    exact ⟨ret_two HV.out, rfl⟩
  by_cases h3 : p3 = 0#32
  rotate_left
  · have hv : Vb.call 2 [p0, p1, p2, p3, p4] = (1#32, 0) := by simp [Vb.call, h0, h1, h2, h3]
    have HV := Lib.hid hv
    clear hv
    go_enter Tryz.func33, Tryz.ntmps33
    go_wp2_with fail
    refine wp_loop_rounds 6 ?_
    rw [rounds_succ]
    go_wp2_with fail
    rw [rounds_succ]
    go_wp2_with fail
    rw [rounds_succ]
    go_wp2_with fail
    rw [rounds_succ]
    go_wp2_with fail
    go_ret2
    exact ⟨ret_two HV.out, rfl⟩
  by_cases h4 : p4 = 0#32
  rotate_left
  · have hv : Vb.call 2 [p0, p1, p2, p3, p4] = (1#32, 0) := by simp [Vb.call, h0, h1, h2, h3, h4]
    have HV := Lib.hid hv
    clear hv
    go_enter Tryz.func33, Tryz.ntmps33
    go_wp2_with fail
    refine wp_loop_rounds 6 ?_
    rw [rounds_succ]
    go_wp2_with fail
    rw [rounds_succ]
    go_wp2_with fail
    rw [rounds_succ]
    go_wp2_with fail
    rw [rounds_succ]
    go_wp2_with fail
    rw [rounds_succ]
    go_wp2_with fail
    go_ret2
    exact ⟨ret_two HV.out, rfl⟩
  · have hv : Vb.call 2 [p0, p1, p2, p3, p4] = (0#32, 0) := by simp [Vb.call, h0, h1, h2, h3, h4]
    have HV := Lib.hid hv
    clear hv
    go_enter Tryz.func33, Tryz.ntmps33
    go_wp2_with fail
    refine wp_loop_rounds 6 ?_
    rw [rounds_succ]
    go_wp2_with fail
    rw [rounds_succ]
    go_wp2_with fail
    rw [rounds_succ]
    go_wp2_with fail
    rw [rounds_succ]
    go_wp2_with fail
    rw [rounds_succ]
    go_wp2_with fail
    rw [rounds_succ]
    go_wp2_with fail
    go_ret2
    exact ⟨ret_two HV.out, rfl⟩
theorem callno_c (op : Int) (a : Option Addr) (n cap : Nat) (hn : n ≤ maxLen) (h1 : ¬ (op = 1 ∧ n = 4)) (h2 : ¬ (op = 2 ∧ n = 5)) (w : World) :
    Calls Tryz.prog 33 #[iv op, .slice a n cap] w fun e w' => e = .returned (.tuple #[uv 0#32, iv 1]) ∧ w' = w := by
  unfold maxLen at hn
  by_cases e1 : op = 1
  · subst e1
    have k1 : ((n : Int) == 4) = false := by simp at h1; simp; omega
    have k2 : ((n : Int) != 4) = true := by simp at h1; simp; omega
    clear h1 h2
    go_enter Tryz.func33, Tryz.ntmps33
    go_wp2_with fail
    go_ret2
    exact ⟨rfl, rfl⟩
  · have k0 : (op == 1) = false := by simp [e1]
    by_cases e2 : op = 2
    · subst e2
      have k1 : ((n : Int) == 5) = false := by simp at h2; simp; omega
      have k2 : ((n : Int) != 5) = true := by simp at h2; simp; omega
      clear h1 h2 e1 k0
      go_enter Tryz.func33, Tryz.ntmps33
      go_wp2_with fail
      go_ret2
      exact ⟨rfl, rfl⟩
    · have k1 : (op == 2) = false := by simp [e2]
      clear h1 h2 e1 e2
      go_enter Tryz.func33, Tryz.ntmps33
      go_wp2_with fail
      go_ret2
      exact ⟨rfl, rfl⟩
theorem call_no {op : Int} {s : List (BitVec 32)} (h1 : ¬ (op = 1 ∧ s.length = 4)) (h2 : ¬ (op = 2 ∧ s.length = 5)) : Vb.call op s = (0#32, 1) := by
  unfold Vb.call; rw [if_neg h1, if_neg h2]; rfl
theorem call_c (op : Int) (v : Value) (l : List (BitVec 32)) (w : World) (h : Lists w v l) (hl : l.length ≤ maxLen) :
    Calls Tryz.prog 33 #[iv op, v] w fun e w' => e = .returned (.tuple #[uv (Vb.call op l).1, iv (Vb.call op l).2]) ∧ w' = w := by
  rcases h with ⟨a, cap, rfl, rfl⟩ | ⟨b, off, cap, rfl, hc⟩
  · rw [call_no (by simp) (by simp)]
    exact callno_c op a 0 cap (by simp) (by simp) (by simp) w
  · by_cases h1 : op = 1 ∧ l.length = 4
    · obtain ⟨rfl, hn⟩ := h1
      match l, hn with
      | [p0, p1, p2, p3], _ => exact call4_c p0 p1 p2 p3 b off cap w (hc 0 _ rfl) (hc 1 _ rfl) (hc 2 _ rfl) (hc 3 _ rfl)
    · by_cases h2 : op = 2 ∧ l.length = 5
      · obtain ⟨rfl, hn⟩ := h2
        match l, hn with
        | [p0, p1, p2, p3, p4], _ => exact call5_c p0 p1 p2 p3 p4 b off cap w (hc 0 _ rfl) (hc 1 _ rfl) (hc 2 _ rfl) (hc 3 _ rfl) (hc 4 _ rfl)
      · rw [call_no h1 h2]
        exact callno_c op _ l.length cap hl h1 h2 w
end Go.Proofs.YtboknfppecgjmaaGreat
namespace Go.Proofs.YtboknfppecgjmaaGreat
set_option linter.unusedVariables false
set_option linter.unusedSimpArgs false
open Go.RowKit Go.ChangeShapes Go.WideShapes
theorem own : ownKnob Tryz.prog.godebug = none := by kernel_rfl
theorem laidOut : laidOutB Tryz.prog = true := by kernel_rfl
theorem cells_u32 : Tryz.prog.cellsOf 22 = 1 := by kernel_rfl
theorem cells_Vec : Tryz.prog.cellsOf 24 = 4 := by kernel_rfl
section
variable {H : Type} {enc : TypeId × Value → H} {P : Program}
theorem below_trodAll {W W' : World} (hl : laidOutB P = true) (hb : Below W.heap.size W W') : ∀ (ts : List TypeId) (vs : List Value) (ds : List (DataW H)) (ps : List MemPlace),
    ts.all (fun t => P.readableRec t && decide (t < P.types.size)) = true → (∀ x ∈ ps, x.block < W.heap.size) → DataW.TrodAll enc P W 0 (fun _ => true) true ts vs ds ps →
    DataW.TrodAll enc P W' 0 (fun b => decide (b < W.heap.size)) true ts vs ds ps
  | [], _, _, _, _, _, h => by
    obtain ⟨rfl, rfl, rfl⟩ := trodAll_nil h
    exact trodAll_mk0
  | t :: ts, vs, ds, ps, hk, hlt, h => by
    obtain ⟨v, vs', d, ds', p, q, rfl, rfl, rfl, h0, hr⟩ := trodAll_cons h
    simp only [List.all_cons, Bool.and_eq_true, decide_eq_true_eq] at hk
    exact trodAll_cons_mk (Below.trod hl hk.1.1 hk.1.2 h0 hb (fun x hx => hlt x (List.mem_append_left _ hx)))
      (below_trodAll hl hb ts vs' ds' q (by simpa using hk.2) (fun x hx => hlt x (List.mem_append_right _ hx)) hr)
theorem post_law {f : Func} {s : ChangeSpec} {W W' : World} {args : Array Value} {ds gs : List (DataW H)} {before : List MemPlace} {tb : TypeId}
    (hl : laidOutB P = true) (hk : f.params.toList.all (fun t => P.readableRec t && decide (t < P.types.size)) = true) (hs : s.vars = []) (hrt : f.resultTypes = #[tb]) (htb : P.underlying tb = some .bool)
    (hW : DataW.Whole enc P f.params.toList s.vars false W args.toList ds gs before) (hb : Below W.heap.size W W')
    (hr : (s.fn H (ds ++ gs)).results = [.lit (.bool true)]) (ha : (s.fn H (ds ++ gs)).args = ds) (hv : (s.fn H (ds ++ gs)).vars = []) :
    s.post enc P f false true false false W args (.bool true) W' := by
  have hlt := fun x hx => hW.lt x hx
  obtain ⟨p, q, hA0, hV, he, _, _⟩ := id hW
  rw [hs] at hV
  obtain ⟨_, hq⟩ := trodVars_none hV
  subst hq
  rw [List.append_nil] at he
  subst he
  have hA : DataW.TrodAll enc P W 0 (fun _ => true) true f.params.toList args.toList ds before := hA0
  have hA' := below_trodAll hl hb _ _ _ _ hk hlt hA
  refine ⟨ds, gs, before, [], before, [], hW, ?_, ?_, ?_, World.keptBut_mono (fun x hx => ⟨hx, by simpa using hx⟩) (hb.frame (· ∈ before)), fun h => by cases h⟩
  · rw [hr, hrt]
    exact trodAll_cons_mk (shut_bool htb true) trodAll_mk0
  · rw [ha]; exact hA'
  · rw [hv, hs]; rfl
end
end Go.Proofs.YtboknfppecgjmaaGreat
