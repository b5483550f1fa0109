/- Part 24 of the proof's texts: R12Bin. -/
import Derived.Test.YtboknfppecgjmaaGreatExa22
set_option maxHeartbeats 16000000
namespace Go.Proofs.YtboknfppecgjmaaGreat
set_option linter.unusedVariables false
set_option linter.unusedSimpArgs false
open Go.RowKit Go.Shelf
abbrev ClipB (p : Int) (x z : V) : Prop := ∀ w, Calls Tryz.prog 44 #[iv p, vv x] w fun e w' => e = .returned (vv z) ∧ Below w.heap.size w w'
abbrev IsBinC (op ty off : Int) (b : Bool) : Prop := ∀ w, Calls Tryz.prog 53 #[iv op, iv ty, iv off] w fun e w' => e = .returned (.bool b) ∧ Below w.heap.size w w'
structure L3 (n : Nat) (x y r : V) (W : World) : Prop where
  X : W.heap[n]? = some (vcell x)
  Y : W.heap[n + 1]? = some (vcell y)
  R : W.heap[n + 1 + 1]? = some (vcell r)
theorem L3.lt {n : Nat} {x y r : V} {W : World} (K : L3 n x y r W) : n + 1 + 1 < W.heap.size := (Array.getElem?_eq_some_iff.1 K.R).1
theorem L3.step {n : Nat} {x y r : V} {W W' : World} (K : L3 n x y r W) (hb : Below W.heap.size W W') : L3 n x y r W' := by
  have h1 := K.lt
  exact ⟨(hb.block _ (by omega)).trans K.X, (hb.block _ (by omega)).trans K.Y, (hb.block _ h1).trans K.R⟩
theorem L3.storeX {n : Nat} {x y r p : V} {W W' : World} (K : L3 n x y r W) (hS : Stored n W W') (hO : W'.heap[n]? = some (vcell p)) : L3 n p y r W' :=
  ⟨hO, (hS.other _ (by omega)).trans K.Y, (hS.other _ (by omega)).trans K.R⟩
theorem L3.storeY {n : Nat} {x y r p : V} {W W' : World} (K : L3 n x y r W) (hS : Stored (n + 1) W W') (hO : W'.heap[n + 1]? = some (vcell p)) : L3 n x p r W' :=
  ⟨(hS.other _ (by omega)).trans K.X, hO, (hS.other _ (by omega)).trans K.R⟩
theorem heap_alloc3 (w : World) (a b c : Obj) : (((w.alloc a).alloc b).alloc c).heap[w.heap.size]? = some a ∧ (((w.alloc a).alloc b).alloc c).heap[w.heap.size + 1]? = some b ∧ (((w.alloc a).alloc b).alloc c).heap[w.heap.size + 1 + 1]? = some c := by
  have s1 : (w.alloc a).heap.size = w.heap.size + 1 := by simp
  have s2 : ((w.alloc a).alloc b).heap.size = w.heap.size + 1 + 1 := by simp
  have h0 := heap_alloc_new w a
  have h1 := heap_alloc_new (w.alloc a) b
  have h2 := heap_alloc_new ((w.alloc a).alloc b) c
  rw [s1] at h1; rw [s2] at h2
  exact ⟨(Below.heap_alloc _ c _ (by omega)).trans ((Below.heap_alloc _ b _ (by omega)).trans h0), (Below.heap_alloc _ c _ (by omega)).trans h1, h2⟩
set_option maxRecDepth 100000 in
theorem bin12_e (op ty off : Int) (x y : V) (HU : Hid (IsBinC op ty off false)) (w : World) : Calls Tryz.prog 22 #[iv op, iv ty, iv off, vv x, vv y] w fun e w' => e = .returned (.tuple #[vv V.zero, .bool false]) ∧ Below w.heap.size w w' := by
  go_enter Tryz.func22, Tryz.ntmps22
  go_wp2_with fail
  (refine (HU.out _ ).mono ?_; rintro e u1 ⟨rfl, hb⟩; obtain ⟨hc, hf⟩ := Flow.bcell hb; have hz := hb.size; (try simp only [World.size_alloc, World.size_setCell, World.size_drew] at hz); obtain ⟨z0, z1, z2⟩ := Flow.zs3 (show w.heap.size + 3 ≤ u1.heap.size by omega))
  go_wp2_with fail
  refine Flow.bodyPost_k rfl (fun K hK => ?_)
  simp only [results, Tryz.results22]
  go_simp
  refine hK _ ⟨?_, ?_⟩
  · rfl
  · (repeat (first | exact Below.refl _ _ | refine Below.setCell ?_ (by first | omega | (simp <;> omega)) _ | refine Below.alloc ?_ (by first | omega | (simp <;> omega)) _ | refine Below.drew ?_ | refine Below.trans ?_ (Below.mono (by assumption) (by first | omega | (simp <;> omega)))))
theorem alu12_1 (w : World) : Calls Tryz.prog 55 #[iv (1 : Int)] w fun e w' => e = .returned (iv 3) ∧ Below w.heap.size w w' := by
  go_enter Tryz.func55, Tryz.ntmps55
  go_wp2
  go_ret
  exact ⟨rfl, by (repeat (first | exact Below.refl _ _ | refine Below.setCell ?_ (by first | omega | (simp <;> omega)) _ | refine Below.alloc ?_ (by first | omega | (simp <;> omega)) _ | refine Below.drew ?_ | refine Below.trans ?_ (Below.mono (by assumption) (by first | omega | (simp <;> omega)))))⟩
theorem alu12_2 (w : World) : Calls Tryz.prog 55 #[iv (2 : Int)] w fun e w' => e = .returned (iv 4) ∧ Below w.heap.size w w' := by
  go_enter Tryz.func55, Tryz.ntmps55
  go_wp2
  go_ret
  exact ⟨rfl, by (repeat (first | exact Below.refl _ _ | refine Below.setCell ?_ (by first | omega | (simp <;> omega)) _ | refine Below.alloc ?_ (by first | omega | (simp <;> omega)) _ | refine Below.drew ?_ | refine Below.trans ?_ (Below.mono (by assumption) (by first | omega | (simp <;> omega)))))⟩
theorem alu12_3 (w : World) : Calls Tryz.prog 55 #[iv (3 : Int)] w fun e w' => e = .returned (iv 11) ∧ Below w.heap.size w w' := by
  go_enter Tryz.func55, Tryz.ntmps55
  go_wp2
  go_ret
  exact ⟨rfl, by (repeat (first | exact Below.refl _ _ | refine Below.setCell ?_ (by first | omega | (simp <;> omega)) _ | refine Below.alloc ?_ (by first | omega | (simp <;> omega)) _ | refine Below.drew ?_ | refine Below.trans ?_ (Below.mono (by assumption) (by first | omega | (simp <;> omega)))))⟩
theorem alu12_4 (w : World) : Calls Tryz.prog 55 #[iv (4 : Int)] w fun e w' => e = .returned (iv 12) ∧ Below w.heap.size w w' := by
  go_enter Tryz.func55, Tryz.ntmps55
  go_wp2
  go_ret
  exact ⟨rfl, by (repeat (first | exact Below.refl _ _ | refine Below.setCell ?_ (by first | omega | (simp <;> omega)) _ | refine Below.alloc ?_ (by first | omega | (simp <;> omega)) _ | refine Below.drew ?_ | refine Below.trans ?_ (Below.mono (by assumption) (by first | omega | (simp <;> omega)))))⟩
theorem alu12_5 (w : World) : Calls Tryz.prog 55 #[iv (5 : Int)] w fun e w' => e = .returned (iv 13) ∧ Below w.heap.size w w' := by
  go_enter Tryz.func55, Tryz.ntmps55
  go_wp2
  go_ret
  exact ⟨rfl, by (repeat (first | exact Below.refl _ _ | refine Below.setCell ?_ (by first | omega | (simp <;> omega)) _ | refine Below.alloc ?_ (by first | omega | (simp <;> omega)) _ | refine Below.drew ?_ | refine Below.trans ?_ (Below.mono (by assumption) (by first | omega | (simp <;> omega)))))⟩
theorem alu12_6 (w : World) : Calls Tryz.prog 55 #[iv (6 : Int)] w fun e w' => e = .returned (iv 14) ∧ Below w.heap.size w w' := by
  go_enter Tryz.func55, Tryz.ntmps55
  go_wp2
  go_ret
  exact ⟨rfl, by (repeat (first | exact Below.refl _ _ | refine Below.setCell ?_ (by first | omega | (simp <;> omega)) _ | refine Below.alloc ?_ (by first | omega | (simp <;> omega)) _ | refine Below.drew ?_ | refine Below.trans ?_ (Below.mono (by assumption) (by first | omega | (simp <;> omega)))))⟩
theorem alu12_7 (w : World) : Calls Tryz.prog 55 #[iv (7 : Int)] w fun e w' => e = .returned (iv 15) ∧ Below w.heap.size w w' := by
  go_enter Tryz.func55, Tryz.ntmps55
  go_wp2
  go_ret
  exact ⟨rfl, by (repeat (first | exact Below.refl _ _ | refine Below.setCell ?_ (by first | omega | (simp <;> omega)) _ | refine Below.alloc ?_ (by first | omega | (simp <;> omega)) _ | refine Below.drew ?_ | refine Below.trans ?_ (Below.mono (by assumption) (by first | omega | (simp <;> omega)))))⟩
theorem alu12_8 (w : World) : Calls Tryz.prog 55 #[iv (8 : Int)] w fun e w' => e = .returned (iv 0) ∧ Below w.heap.size w w' := by
  go_enter Tryz.func55, Tryz.ntmps55
  go_wp2
  go_ret
  exact ⟨rfl, by (repeat (first | exact Below.refl _ _ | refine Below.setCell ?_ (by first | omega | (simp <;> omega)) _ | refine Below.alloc ?_ (by first | omega | (simp <;> omega)) _ | refine Below.drew ?_ | refine Below.trans ?_ (Below.mono (by assumption) (by first | omega | (simp <;> omega)))))⟩
theorem alu12_9 (w : World) : Calls Tryz.prog 55 #[iv (9 : Int)] w fun e w' => e = .returned (iv 0) ∧ Below w.heap.size w w' := by
  go_enter Tryz.func55, Tryz.ntmps55
  go_wp2
  go_ret
  exact ⟨rfl, by (repeat (first | exact Below.refl _ _ | refine Below.setCell ?_ (by first | omega | (simp <;> omega)) _ | refine Below.alloc ?_ (by first | omega | (simp <;> omega)) _ | refine Below.drew ?_ | refine Below.trans ?_ (Below.mono (by assumption) (by first | omega | (simp <;> omega)))))⟩
theorem alu12_10 (w : World) : Calls Tryz.prog 55 #[iv (10 : Int)] w fun e w' => e = .returned (iv 0) ∧ Below w.heap.size w w' := by
  go_enter Tryz.func55, Tryz.ntmps55
  go_wp2
  go_ret
  exact ⟨rfl, by (repeat (first | exact Below.refl _ _ | refine Below.setCell ?_ (by first | omega | (simp <;> omega)) _ | refine Below.alloc ?_ (by first | omega | (simp <;> omega)) _ | refine Below.drew ?_ | refine Below.trans ?_ (Below.mono (by assumption) (by first | omega | (simp <;> omega)))))⟩
theorem alu12_11 (w : World) : Calls Tryz.prog 55 #[iv (11 : Int)] w fun e w' => e = .returned (iv 8) ∧ Below w.heap.size w w' := by
  go_enter Tryz.func55, Tryz.ntmps55
  go_wp2
  go_ret
  exact ⟨rfl, by (repeat (first | exact Below.refl _ _ | refine Below.setCell ?_ (by first | omega | (simp <;> omega)) _ | refine Below.alloc ?_ (by first | omega | (simp <;> omega)) _ | refine Below.drew ?_ | refine Below.trans ?_ (Below.mono (by assumption) (by first | omega | (simp <;> omega)))))⟩
theorem alu12_12 (w : World) : Calls Tryz.prog 55 #[iv (12 : Int)] w fun e w' => e = .returned (iv 9) ∧ Below w.heap.size w w' := by
  go_enter Tryz.func55, Tryz.ntmps55
  go_wp2
  go_ret
  exact ⟨rfl, by (repeat (first | exact Below.refl _ _ | refine Below.setCell ?_ (by first | omega | (simp <;> omega)) _ | refine Below.alloc ?_ (by first | omega | (simp <;> omega)) _ | refine Below.drew ?_ | refine Below.trans ?_ (Below.mono (by assumption) (by first | omega | (simp <;> omega)))))⟩
theorem alu12_13 (w : World) : Calls Tryz.prog 55 #[iv (13 : Int)] w fun e w' => e = .returned (iv 10) ∧ Below w.heap.size w w' := by
  go_enter Tryz.func55, Tryz.ntmps55
  go_wp2
  go_ret
  exact ⟨rfl, by (repeat (first | exact Below.refl _ _ | refine Below.setCell ?_ (by first | omega | (simp <;> omega)) _ | refine Below.alloc ?_ (by first | omega | (simp <;> omega)) _ | refine Below.drew ?_ | refine Below.trans ?_ (Below.mono (by assumption) (by first | omega | (simp <;> omega)))))⟩
theorem alu12_14 (w : World) : Calls Tryz.prog 55 #[iv (14 : Int)] w fun e w' => e = .returned (iv 0) ∧ Below w.heap.size w w' := by
  go_enter Tryz.func55, Tryz.ntmps55
  go_wp2
  go_ret
  exact ⟨rfl, by (repeat (first | exact Below.refl _ _ | refine Below.setCell ?_ (by first | omega | (simp <;> omega)) _ | refine Below.alloc ?_ (by first | omega | (simp <;> omega)) _ | refine Below.drew ?_ | refine Below.trans ?_ (Below.mono (by assumption) (by first | omega | (simp <;> omega)))))⟩
theorem alu12_15 (w : World) : Calls Tryz.prog 55 #[iv (15 : Int)] w fun e w' => e = .returned (iv 0) ∧ Below w.heap.size w w' := by
  go_enter Tryz.func55, Tryz.ntmps55
  go_wp2
  go_ret
  exact ⟨rfl, by (repeat (first | exact Below.refl _ _ | refine Below.setCell ?_ (by first | omega | (simp <;> omega)) _ | refine Below.alloc ?_ (by first | omega | (simp <;> omega)) _ | refine Below.drew ?_ | refine Below.trans ?_ (Below.mono (by assumption) (by first | omega | (simp <;> omega)))))⟩
theorem alu12_16 (w : World) : Calls Tryz.prog 55 #[iv (16 : Int)] w fun e w' => e = .returned (iv 0) ∧ Below w.heap.size w w' := by
  go_enter Tryz.func55, Tryz.ntmps55
  go_wp2
  go_ret
  exact ⟨rfl, by (repeat (first | exact Below.refl _ _ | refine Below.setCell ?_ (by first | omega | (simp <;> omega)) _ | refine Below.alloc ?_ (by first | omega | (simp <;> omega)) _ | refine Below.drew ?_ | refine Below.trans ?_ (Below.mono (by assumption) (by first | omega | (simp <;> omega)))))⟩
theorem alu12_17 (w : World) : Calls Tryz.prog 55 #[iv (17 : Int)] w fun e w' => e = .returned (iv 0) ∧ Below w.heap.size w w' := by
  go_enter Tryz.func55, Tryz.ntmps55
  go_wp2
  go_ret
  exact ⟨rfl, by (repeat (first | exact Below.refl _ _ | refine Below.setCell ?_ (by first | omega | (simp <;> omega)) _ | refine Below.alloc ?_ (by first | omega | (simp <;> omega)) _ | refine Below.drew ?_ | refine Below.trans ?_ (Below.mono (by assumption) (by first | omega | (simp <;> omega)))))⟩
theorem alu12_18 (w : World) : Calls Tryz.prog 55 #[iv (18 : Int)] w fun e w' => e = .returned (iv 0) ∧ Below w.heap.size w w' := by
  go_enter Tryz.func55, Tryz.ntmps55
  go_wp2
  go_ret
  exact ⟨rfl, by (repeat (first | exact Below.refl _ _ | refine Below.setCell ?_ (by first | omega | (simp <;> omega)) _ | refine Below.alloc ?_ (by first | omega | (simp <;> omega)) _ | refine Below.drew ?_ | refine Below.trans ?_ (Below.mono (by assumption) (by first | omega | (simp <;> omega)))))⟩
theorem alu12_19 (w : World) : Calls Tryz.prog 55 #[iv (19 : Int)] w fun e w' => e = .returned (iv 0) ∧ Below w.heap.size w w' := by
  go_enter Tryz.func55, Tryz.ntmps55
  go_wp2
  go_ret
  exact ⟨rfl, by (repeat (first | exact Below.refl _ _ | refine Below.setCell ?_ (by first | omega | (simp <;> omega)) _ | refine Below.alloc ?_ (by first | omega | (simp <;> omega)) _ | refine Below.drew ?_ | refine Below.trans ?_ (Below.mono (by assumption) (by first | omega | (simp <;> omega)))))⟩
theorem alu12_20 (w : World) : Calls Tryz.prog 55 #[iv (20 : Int)] w fun e w' => e = .returned (iv 0) ∧ Below w.heap.size w w' := by
  go_enter Tryz.func55, Tryz.ntmps55
  go_wp2
  go_ret
  exact ⟨rfl, by (repeat (first | exact Below.refl _ _ | refine Below.setCell ?_ (by first | omega | (simp <;> omega)) _ | refine Below.alloc ?_ (by first | omega | (simp <;> omega)) _ | refine Below.drew ?_ | refine Below.trans ?_ (Below.mono (by assumption) (by first | omega | (simp <;> omega)))))⟩
theorem alu12_21 (w : World) : Calls Tryz.prog 55 #[iv (21 : Int)] w fun e w' => e = .returned (iv 0) ∧ Below w.heap.size w w' := by
  go_enter Tryz.func55, Tryz.ntmps55
  go_wp2
  go_ret
  exact ⟨rfl, by (repeat (first | exact Below.refl _ _ | refine Below.setCell ?_ (by first | omega | (simp <;> omega)) _ | refine Below.alloc ?_ (by first | omega | (simp <;> omega)) _ | refine Below.drew ?_ | refine Below.trans ?_ (Below.mono (by assumption) (by first | omega | (simp <;> omega)))))⟩
theorem alu12_22 (w : World) : Calls Tryz.prog 55 #[iv (22 : Int)] w fun e w' => e = .returned (iv 0) ∧ Below w.heap.size w w' := by
  go_enter Tryz.func55, Tryz.ntmps55
  go_wp2
  go_ret
  exact ⟨rfl, by (repeat (first | exact Below.refl _ _ | refine Below.setCell ?_ (by first | omega | (simp <;> omega)) _ | refine Below.alloc ?_ (by first | omega | (simp <;> omega)) _ | refine Below.drew ?_ | refine Below.trans ?_ (Below.mono (by assumption) (by first | omega | (simp <;> omega)))))⟩
theorem alu12_23 (w : World) : Calls Tryz.prog 55 #[iv (23 : Int)] w fun e w' => e = .returned (iv 0) ∧ Below w.heap.size w w' := by
  go_enter Tryz.func55, Tryz.ntmps55
  go_wp2
  go_ret
  exact ⟨rfl, by (repeat (first | exact Below.refl _ _ | refine Below.setCell ?_ (by first | omega | (simp <;> omega)) _ | refine Below.alloc ?_ (by first | omega | (simp <;> omega)) _ | refine Below.drew ?_ | refine Below.trans ?_ (Below.mono (by assumption) (by first | omega | (simp <;> omega)))))⟩
theorem alu12_24 (w : World) : Calls Tryz.prog 55 #[iv (24 : Int)] w fun e w' => e = .returned (iv 0) ∧ Below w.heap.size w w' := by
  go_enter Tryz.func55, Tryz.ntmps55
  go_wp2
  go_ret
  exact ⟨rfl, by (repeat (first | exact Below.refl _ _ | refine Below.setCell ?_ (by first | omega | (simp <;> omega)) _ | refine Below.alloc ?_ (by first | omega | (simp <;> omega)) _ | refine Below.drew ?_ | refine Below.trans ?_ (Below.mono (by assumption) (by first | omega | (simp <;> omega)))))⟩
theorem alu12_25 (w : World) : Calls Tryz.prog 55 #[iv (25 : Int)] w fun e w' => e = .returned (iv 0) ∧ Below w.heap.size w w' := by
  go_enter Tryz.func55, Tryz.ntmps55
  go_wp2
  go_ret
  exact ⟨rfl, by (repeat (first | exact Below.refl _ _ | refine Below.setCell ?_ (by first | omega | (simp <;> omega)) _ | refine Below.alloc ?_ (by first | omega | (simp <;> omega)) _ | refine Below.drew ?_ | refine Below.trans ?_ (Below.mono (by assumption) (by first | omega | (simp <;> omega)))))⟩
theorem alu12_26 (w : World) : Calls Tryz.prog 55 #[iv (26 : Int)] w fun e w' => e = .returned (iv 0) ∧ Below w.heap.size w w' := by
  go_enter Tryz.func55, Tryz.ntmps55
  go_wp2
  go_ret
  exact ⟨rfl, by (repeat (first | exact Below.refl _ _ | refine Below.setCell ?_ (by first | omega | (simp <;> omega)) _ | refine Below.alloc ?_ (by first | omega | (simp <;> omega)) _ | refine Below.drew ?_ | refine Below.trans ?_ (Below.mono (by assumption) (by first | omega | (simp <;> omega)))))⟩
theorem alu12_27 (w : World) : Calls Tryz.prog 55 #[iv (27 : Int)] w fun e w' => e = .returned (iv 0) ∧ Below w.heap.size w w' := by
  go_enter Tryz.func55, Tryz.ntmps55
  go_wp2
  go_ret
  exact ⟨rfl, by (repeat (first | exact Below.refl _ _ | refine Below.setCell ?_ (by first | omega | (simp <;> omega)) _ | refine Below.alloc ?_ (by first | omega | (simp <;> omega)) _ | refine Below.drew ?_ | refine Below.trans ?_ (Below.mono (by assumption) (by first | omega | (simp <;> omega)))))⟩
theorem alu12_28 (w : World) : Calls Tryz.prog 55 #[iv (28 : Int)] w fun e w' => e = .returned (iv 0) ∧ Below w.heap.size w w' := by
  go_enter Tryz.func55, Tryz.ntmps55
  go_wp2
  go_ret
  exact ⟨rfl, by (repeat (first | exact Below.refl _ _ | refine Below.setCell ?_ (by first | omega | (simp <;> omega)) _ | refine Below.alloc ?_ (by first | omega | (simp <;> omega)) _ | refine Below.drew ?_ | refine Below.trans ?_ (Below.mono (by assumption) (by first | omega | (simp <;> omega)))))⟩
theorem alu12_29 (w : World) : Calls Tryz.prog 55 #[iv (29 : Int)] w fun e w' => e = .returned (iv 0) ∧ Below w.heap.size w w' := by
  go_enter Tryz.func55, Tryz.ntmps55
  go_wp2
  go_ret
  exact ⟨rfl, by (repeat (first | exact Below.refl _ _ | refine Below.setCell ?_ (by first | omega | (simp <;> omega)) _ | refine Below.alloc ?_ (by first | omega | (simp <;> omega)) _ | refine Below.drew ?_ | refine Below.trans ?_ (Below.mono (by assumption) (by first | omega | (simp <;> omega)))))⟩
theorem alu12_30 (w : World) : Calls Tryz.prog 55 #[iv (30 : Int)] w fun e w' => e = .returned (iv 0) ∧ Below w.heap.size w w' := by
  go_enter Tryz.func55, Tryz.ntmps55
  go_wp2
  go_ret
  exact ⟨rfl, by (repeat (first | exact Below.refl _ _ | refine Below.setCell ?_ (by first | omega | (simp <;> omega)) _ | refine Below.alloc ?_ (by first | omega | (simp <;> omega)) _ | refine Below.drew ?_ | refine Below.trans ?_ (Below.mono (by assumption) (by first | omega | (simp <;> omega)))))⟩
set_option maxRecDepth 100000 in
theorem bin12_30_0 (ty : Int) (x y z v : V) (HU : Hid (IsBinC 30 ty 0 true)) (HC : Hid (ClipB ty x z)) (HD : Hid (ClipB (Rf.secTy 30 ty) y v)) (w : World) : Calls Tryz.prog 22 #[iv (30 : Int), iv ty, iv (0 : Int), vv x, vv y] w fun e w' => e = .returned (.tuple #[vv ({ z with a := v.a }), .bool true]) ∧ Below w.heap.size w w' := by
  obtain ⟨X0, Y0, R0⟩ := heap_alloc3 w (vcell x) (vcell y) (vcell V.zero)
  go_enter Tryz.func22, Tryz.ntmps22
  go_wp2_with fail
  (refine (HU.out _ ).mono ?_; rintro e u1 ⟨rfl, hb⟩; obtain ⟨hc, hf⟩ := Flow.bcell hb; have hz := hb.size; (try simp only [World.size_alloc, World.size_setCell, World.size_drew] at hz); obtain ⟨z0, z1, z2⟩ := Flow.zs3 (show w.heap.size + 3 ≤ u1.heap.size by omega))
  have K1 : L3 w.heap.size x y V.zero u1 := ⟨(hb.block _ (by simp <;> omega)).trans X0, (hb.block _ (by simp <;> omega)).trans Y0, (hb.block _ (by simp)).trans R0⟩
  have B1 : Below w.heap.size w u1 := by (repeat (first | exact Below.refl _ _ | refine Below.setCell ?_ (by first | omega | (simp <;> omega)) _ | refine Below.alloc ?_ (by first | omega | (simp <;> omega)) _ | refine Below.drew ?_ | refine Below.trans ?_ (Below.mono (by assumption) (by first | omega | (simp <;> omega)))))
  have y1 := K1.lt
  clear X0 Y0 R0 hb
  obtain ⟨xc, xf, xl⟩ := block_cells K1.X
  obtain ⟨yc, yf, yl⟩ := block_cells K1.Y
  obtain ⟨rc, rf, rl⟩ := block_cells K1.R
  go_wp2_with fail
  clear hc hf
  (refine (HC.out _ ).mono ?_; rintro e u2 ⟨rfl, hb⟩; obtain ⟨hc, hf⟩ := Flow.bcell hb; have hz := hb.size; (try simp only [World.size_alloc, World.size_setCell, World.size_drew] at hz); obtain ⟨z0, z1, z2⟩ := Flow.zs3 (show w.heap.size + 3 ≤ u2.heap.size by omega))
  have K2 := K1.step hb
  have B2 : Below w.heap.size w u2 := B1.trans (hb.mono (by have := K1.lt; omega))
  have y2 := K2.lt
  clear hb hc hf
  clear xc xf xl yc yf yl rc rf rl
  obtain ⟨xc, xf, xl⟩ := block_cells K2.X
  obtain ⟨yc, yf, yl⟩ := block_cells K2.Y
  obtain ⟨rc, rf, rl⟩ := block_cells K2.R
  obtain ⟨u3, e3, X3, S3⟩ := store4 K2.X 0 1 2 3 (uv z.a) (uv z.b) (uv z.c) (uv z.d)
  have K3 : L3 w.heap.size z y V.zero u3 := K2.storeX S3 X3
  have B3 : Below w.heap.size w u3 := B2.trans (S3.below _ (Nat.le_refl _))
  have y3 := K3.lt
  clear X3 S3
  go_wp2_with fail
  (try rw [e3])
  clear e3
  clear xc xf xl yc yf yl rc rf rl
  obtain ⟨xc, xf, xl⟩ := block_cells K3.X
  obtain ⟨yc, yf, yl⟩ := block_cells K3.Y
  obtain ⟨rc, rf, rl⟩ := block_cells K3.R
  refine Flow.wp_region_below 5 (by kernel_rfl) (by kernel_rfl) (fun R hRc hRt => ?_)
  simp only [List.take_succ_cons, List.take_zero, List.drop_succ_cons, List.drop_zero]
  iterate 5
    first
      | (apply Flow.flow_step; rfl; (intro w1 hb; have hc := hRc.out w1 hb; go_simp; (first | with_reducible exact ⟨rfl, hb⟩ | (go_at_call 54; refine (second12_c _ _ _).mono ?_; rintro e w2 ⟨rfl, hb2⟩; exact ⟨_, rfl, rfl, hRt.out _ _ hb hb2⟩) | (go_at_call 44; refine (HD.out _).mono ?_; rintro e w2 ⟨rfl, hb2⟩; exact ⟨_, rfl, rfl, hRt.out _ _ hb hb2⟩))))
    simp only [Act.put, List.setIfInBounds_toArray, List.set_cons_zero, List.set_cons_succ]
  apply Flow.flow_nil
  clear hRc hRt
  intro u4 hb
  have K4 := K3.step hb
  have B4 : Below w.heap.size w u4 := B3.trans (hb.mono (by have := K3.lt; omega))
  have y4 := K4.lt
  clear hb
  clear xc xf xl yc yf yl rc rf rl
  obtain ⟨xc, xf, xl⟩ := block_cells K4.X
  obtain ⟨yc, yf, yl⟩ := block_cells K4.Y
  obtain ⟨rc, rf, rl⟩ := block_cells K4.R
  obtain ⟨u5, e5, Y5, S5⟩ := store4 K4.Y 0 1 2 3 (uv v.a) (uv v.b) (uv v.c) (uv v.d)
  have K5 : L3 w.heap.size z v V.zero u5 := K4.storeY S5 Y5
  have B5 : Below w.heap.size w u5 := B4.trans (S5.below _ (Nat.le_succ _))
  have y5 := K5.lt
  clear Y5 S5
  go_wp2_with fail
  clear e5
  (refine (alu12_30 _ ).mono ?_; rintro e u6 ⟨rfl, hb⟩; obtain ⟨hc, hf⟩ := Flow.bcell hb; have hz := hb.size; (try simp only [World.size_alloc, World.size_setCell, World.size_drew] at hz); obtain ⟨z0, z1, z2⟩ := Flow.zs3 (show w.heap.size + 3 ≤ u6.heap.size by omega))
  have K6 := K5.step hb
  have B6 : Below w.heap.size w u6 := B5.trans (hb.mono (by have := K5.lt; omega))
  have y6 := K6.lt
  clear hb hc hf
  clear xc xf xl yc yf yl rc rf rl
  obtain ⟨xc, xf, xl⟩ := block_cells K6.X
  obtain ⟨yc, yf, yl⟩ := block_cells K6.Y
  obtain ⟨rc, rf, rl⟩ := block_cells K6.R
  obtain ⟨u7, e7⟩ : ∃ u7, u6.setCell ⟨w.heap.size, 0, none⟩ (uv v.a) = u7 := ⟨_, rfl⟩
  have X7 := Go.heap_setCell_same u6 w.heap.size 0 _ _ (uv v.a) K6.X
  rw [e7] at X7
  have S7 : Stored w.heap.size u6 u7 := by rw [← e7]; exact stored_cells w.heap.size 0 [uv v.a] u6
  have K7 : L3 w.heap.size { z with a := v.a } v V.zero u7 := K6.storeX S7 X7
  have B7 : Below w.heap.size w u7 := B6.trans (S7.below _ (Nat.le_refl _))
  obtain ⟨xc', xf', xl'⟩ := block_cells K7.X
  obtain ⟨rc', rf', rl'⟩ := block_cells K7.R
  clear X7 S7
  go_wp2_with fail
  clear e7
  refine Flow.bodyPost_k rfl (fun K hK => ?_)
  simp only [results, Tryz.results22]
  go_simp
  refine hK _ ⟨?_, ?_⟩
  · rfl
  · have hle : w.heap.size ≤ w.heap.size + 1 + 1 := by omega
    exact (((B7.setCell hle _).setCell hle _).setCell hle _).setCell hle _
set_option maxRecDepth 100000 in
theorem bin12_30_1 (ty : Int) (x y z v : V) (HU : Hid (IsBinC 30 ty 1 true)) (HC : Hid (ClipB ty x z)) (HD : Hid (ClipB (Rf.secTy 30 ty) y v)) (w : World) : Calls Tryz.prog 22 #[iv (30 : Int), iv ty, iv (1 : Int), vv x, vv y] w fun e w' => e = .returned (.tuple #[vv ({ z with b := v.a }), .bool true]) ∧ Below w.heap.size w w' := by
  obtain ⟨X0, Y0, R0⟩ := heap_alloc3 w (vcell x) (vcell y) (vcell V.zero)
  go_enter Tryz.func22, Tryz.ntmps22
  go_wp2_with fail
  (refine (HU.out _ ).mono ?_; rintro e u1 ⟨rfl, hb⟩; obtain ⟨hc, hf⟩ := Flow.bcell hb; have hz := hb.size; (try simp only [World.size_alloc, World.size_setCell, World.size_drew] at hz); obtain ⟨z0, z1, z2⟩ := Flow.zs3 (show w.heap.size + 3 ≤ u1.heap.size by omega))
  have K1 : L3 w.heap.size x y V.zero u1 := ⟨(hb.block _ (by simp <;> omega)).trans X0, (hb.block _ (by simp <;> omega)).trans Y0, (hb.block _ (by simp)).trans R0⟩
  have B1 : Below w.heap.size w u1 := by (repeat (first | exact Below.refl _ _ | refine Below.setCell ?_ (by first | omega | (simp <;> omega)) _ | refine Below.alloc ?_ (by first | omega | (simp <;> omega)) _ | refine Below.drew ?_ | refine Below.trans ?_ (Below.mono (by assumption) (by first | omega | (simp <;> omega)))))
  have y1 := K1.lt
  clear X0 Y0 R0 hb
  obtain ⟨xc, xf, xl⟩ := block_cells K1.X
  obtain ⟨yc, yf, yl⟩ := block_cells K1.Y
  obtain ⟨rc, rf, rl⟩ := block_cells K1.R
  go_wp2_with fail
  clear hc hf
  (refine (HC.out _ ).mono ?_; rintro e u2 ⟨rfl, hb⟩; obtain ⟨hc, hf⟩ := Flow.bcell hb; have hz := hb.size; (try simp only [World.size_alloc, World.size_setCell, World.size_drew] at hz); obtain ⟨z0, z1, z2⟩ := Flow.zs3 (show w.heap.size + 3 ≤ u2.heap.size by omega))
  have K2 := K1.step hb
  have B2 : Below w.heap.size w u2 := B1.trans (hb.mono (by have := K1.lt; omega))
  have y2 := K2.lt
  clear hb hc hf
  clear xc xf xl yc yf yl rc rf rl
  obtain ⟨xc, xf, xl⟩ := block_cells K2.X
  obtain ⟨yc, yf, yl⟩ := block_cells K2.Y
  obtain ⟨rc, rf, rl⟩ := block_cells K2.R
  obtain ⟨u3, e3, X3, S3⟩ := store4 K2.X 0 1 2 3 (uv z.a) (uv z.b) (uv z.c) (uv z.d)
  have K3 : L3 w.heap.size z y V.zero u3 := K2.storeX S3 X3
  have B3 : Below w.heap.size w u3 := B2.trans (S3.below _ (Nat.le_refl _))
  have y3 := K3.lt
  clear X3 S3
  go_wp2_with fail
  (try rw [e3])
  clear e3
  clear xc xf xl yc yf yl rc rf rl
  obtain ⟨xc, xf, xl⟩ := block_cells K3.X
  obtain ⟨yc, yf, yl⟩ := block_cells K3.Y
  obtain ⟨rc, rf, rl⟩ := block_cells K3.R
  refine Flow.wp_region_below 5 (by kernel_rfl) (by kernel_rfl) (fun R hRc hRt => ?_)
  simp only [List.take_succ_cons, List.take_zero, List.drop_succ_cons, List.drop_zero]
  iterate 5
    first
      | (apply Flow.flow_step; rfl; (intro w1 hb; have hc := hRc.out w1 hb; go_simp; (first | with_reducible exact ⟨rfl, hb⟩ | (go_at_call 54; refine (second12_c _ _ _).mono ?_; rintro e w2 ⟨rfl, hb2⟩; exact ⟨_, rfl, rfl, hRt.out _ _ hb hb2⟩) | (go_at_call 44; refine (HD.out _).mono ?_; rintro e w2 ⟨rfl, hb2⟩; exact ⟨_, rfl, rfl, hRt.out _ _ hb hb2⟩))))
    simp only [Act.put, List.setIfInBounds_toArray, List.set_cons_zero, List.set_cons_succ]
  apply Flow.flow_nil
  clear hRc hRt
  intro u4 hb
  have K4 := K3.step hb
  have B4 : Below w.heap.size w u4 := B3.trans (hb.mono (by have := K3.lt; omega))
  have y4 := K4.lt
  clear hb
  clear xc xf xl yc yf yl rc rf rl
  obtain ⟨xc, xf, xl⟩ := block_cells K4.X
  obtain ⟨yc, yf, yl⟩ := block_cells K4.Y
  obtain ⟨rc, rf, rl⟩ := block_cells K4.R
  obtain ⟨u5, e5, Y5, S5⟩ := store4 K4.Y 0 1 2 3 (uv v.a) (uv v.b) (uv v.c) (uv v.d)
  have K5 : L3 w.heap.size z v V.zero u5 := K4.storeY S5 Y5
  have B5 : Below w.heap.size w u5 := B4.trans (S5.below _ (Nat.le_succ _))
  have y5 := K5.lt
  clear Y5 S5
  go_wp2_with fail
  clear e5
  (refine (alu12_30 _ ).mono ?_; rintro e u6 ⟨rfl, hb⟩; obtain ⟨hc, hf⟩ := Flow.bcell hb; have hz := hb.size; (try simp only [World.size_alloc, World.size_setCell, World.size_drew] at hz); obtain ⟨z0, z1, z2⟩ := Flow.zs3 (show w.heap.size + 3 ≤ u6.heap.size by omega))
  have K6 := K5.step hb
  have B6 : Below w.heap.size w u6 := B5.trans (hb.mono (by have := K5.lt; omega))
  have y6 := K6.lt
  clear hb hc hf
  clear xc xf xl yc yf yl rc rf rl
  obtain ⟨xc, xf, xl⟩ := block_cells K6.X
  obtain ⟨yc, yf, yl⟩ := block_cells K6.Y
  obtain ⟨rc, rf, rl⟩ := block_cells K6.R
  obtain ⟨u7, e7⟩ : ∃ u7, u6.setCell ⟨w.heap.size, 1, none⟩ (uv v.a) = u7 := ⟨_, rfl⟩
  have X7 := Go.heap_setCell_same u6 w.heap.size 1 _ _ (uv v.a) K6.X
  rw [e7] at X7
  have S7 : Stored w.heap.size u6 u7 := by rw [← e7]; exact stored_cells w.heap.size 1 [uv v.a] u6
  have K7 : L3 w.heap.size { z with b := v.a } v V.zero u7 := K6.storeX S7 X7
  have B7 : Below w.heap.size w u7 := B6.trans (S7.below _ (Nat.le_refl _))
  obtain ⟨xc', xf', xl'⟩ := block_cells K7.X
  obtain ⟨rc', rf', rl'⟩ := block_cells K7.R
  clear X7 S7
  go_wp2_with fail
  clear e7
  refine Flow.bodyPost_k rfl (fun K hK => ?_)
  simp only [results, Tryz.results22]
  go_simp
  refine hK _ ⟨?_, ?_⟩
  · rfl
  · have hle : w.heap.size ≤ w.heap.size + 1 + 1 := by omega
    exact (((B7.setCell hle _).setCell hle _).setCell hle _).setCell hle _
set_option maxRecDepth 100000 in
theorem bin12_30_2 (ty : Int) (x y z v : V) (HU : Hid (IsBinC 30 ty 2 true)) (HC : Hid (ClipB ty x z)) (HD : Hid (ClipB (Rf.secTy 30 ty) y v)) (w : World) : Calls Tryz.prog 22 #[iv (30 : Int), iv ty, iv (2 : Int), vv x, vv y] w fun e w' => e = .returned (.tuple #[vv ({ z with c := v.a }), .bool true]) ∧ Below w.heap.size w w' := by
  obtain ⟨X0, Y0, R0⟩ := heap_alloc3 w (vcell x) (vcell y) (vcell V.zero)
  go_enter Tryz.func22, Tryz.ntmps22
  go_wp2_with fail
  (refine (HU.out _ ).mono ?_; rintro e u1 ⟨rfl, hb⟩; obtain ⟨hc, hf⟩ := Flow.bcell hb; have hz := hb.size; (try simp only [World.size_alloc, World.size_setCell, World.size_drew] at hz); obtain ⟨z0, z1, z2⟩ := Flow.zs3 (show w.heap.size + 3 ≤ u1.heap.size by omega))
  have K1 : L3 w.heap.size x y V.zero u1 := ⟨(hb.block _ (by simp <;> omega)).trans X0, (hb.block _ (by simp <;> omega)).trans Y0, (hb.block _ (by simp)).trans R0⟩
  have B1 : Below w.heap.size w u1 := by (repeat (first | exact Below.refl _ _ | refine Below.setCell ?_ (by first | omega | (simp <;> omega)) _ | refine Below.alloc ?_ (by first | omega | (simp <;> omega)) _ | refine Below.drew ?_ | refine Below.trans ?_ (Below.mono (by assumption) (by first | omega | (simp <;> omega)))))
  have y1 := K1.lt
  clear X0 Y0 R0 hb
  obtain ⟨xc, xf, xl⟩ := block_cells K1.X
  obtain ⟨yc, yf, yl⟩ := block_cells K1.Y
  obtain ⟨rc, rf, rl⟩ := block_cells K1.R
  go_wp2_with fail
  clear hc hf
  (refine (HC.out _ ).mono ?_; rintro e u2 ⟨rfl, hb⟩; obtain ⟨hc, hf⟩ := Flow.bcell hb; have hz := hb.size; (try simp only [World.size_alloc, World.size_setCell, World.size_drew] at hz); obtain ⟨z0, z1, z2⟩ := Flow.zs3 (show w.heap.size + 3 ≤ u2.heap.size by omega))
  have K2 := K1.step hb
  have B2 : Below w.heap.size w u2 := B1.trans (hb.mono (by have := K1.lt; omega))
  have y2 := K2.lt
  clear hb hc hf
  clear xc xf xl yc yf yl rc rf rl
  obtain ⟨xc, xf, xl⟩ := block_cells K2.X
  obtain ⟨yc, yf, yl⟩ := block_cells K2.Y
  obtain ⟨rc, rf, rl⟩ := block_cells K2.R
  obtain ⟨u3, e3, X3, S3⟩ := store4 K2.X 0 1 2 3 (uv z.a) (uv z.b) (uv z.c) (uv z.d)
  have K3 : L3 w.heap.size z y V.zero u3 := K2.storeX S3 X3
  have B3 : Below w.heap.size w u3 := B2.trans (S3.below _ (Nat.le_refl _))
  have y3 := K3.lt
  clear X3 S3
  go_wp2_with fail
  (try rw [e3])
  clear e3
  clear xc xf xl yc yf yl rc rf rl
  obtain ⟨xc, xf, xl⟩ := block_cells K3.X
  obtain ⟨yc, yf, yl⟩ := block_cells K3.Y
  obtain ⟨rc, rf, rl⟩ := block_cells K3.R
  refine Flow.wp_region_below 5 (by kernel_rfl) (by kernel_rfl) (fun R hRc hRt => ?_)
  simp only [List.take_succ_cons, List.take_zero, List.drop_succ_cons, List.drop_zero]
  iterate 5
    first
      | (apply Flow.flow_step; rfl; (intro w1 hb; have hc := hRc.out w1 hb; go_simp; (first | with_reducible exact ⟨rfl, hb⟩ | (go_at_call 54; refine (second12_c _ _ _).mono ?_; rintro e w2 ⟨rfl, hb2⟩; exact ⟨_, rfl, rfl, hRt.out _ _ hb hb2⟩) | (go_at_call 44; refine (HD.out _).mono ?_; rintro e w2 ⟨rfl, hb2⟩; exact ⟨_, rfl, rfl, hRt.out _ _ hb hb2⟩))))
    simp only [Act.put, List.setIfInBounds_toArray, List.set_cons_zero, List.set_cons_succ]
  apply Flow.flow_nil
  clear hRc hRt
  intro u4 hb
  have K4 := K3.step hb
  have B4 : Below w.heap.size w u4 := B3.trans (hb.mono (by have := K3.lt; omega))
  have y4 := K4.lt
  clear hb
  clear xc xf xl yc yf yl rc rf rl
  obtain ⟨xc, xf, xl⟩ := block_cells K4.X
  obtain ⟨yc, yf, yl⟩ := block_cells K4.Y
  obtain ⟨rc, rf, rl⟩ := block_cells K4.R
  obtain ⟨u5, e5, Y5, S5⟩ := store4 K4.Y 0 1 2 3 (uv v.a) (uv v.b) (uv v.c) (uv v.d)
  have K5 : L3 w.heap.size z v V.zero u5 := K4.storeY S5 Y5
  have B5 : Below w.heap.size w u5 := B4.trans (S5.below _ (Nat.le_succ _))
  have y5 := K5.lt
  clear Y5 S5
  go_wp2_with fail
  clear e5
  (refine (alu12_30 _ ).mono ?_; rintro e u6 ⟨rfl, hb⟩; obtain ⟨hc, hf⟩ := Flow.bcell hb; have hz := hb.size; (try simp only [World.size_alloc, World.size_setCell, World.size_drew] at hz); obtain ⟨z0, z1, z2⟩ := Flow.zs3 (show w.heap.size + 3 ≤ u6.heap.size by omega))
  have K6 := K5.step hb
  have B6 : Below w.heap.size w u6 := B5.trans (hb.mono (by have := K5.lt; omega))
  have y6 := K6.lt
  clear hb hc hf
  clear xc xf xl yc yf yl rc rf rl
  obtain ⟨xc, xf, xl⟩ := block_cells K6.X
  obtain ⟨yc, yf, yl⟩ := block_cells K6.Y
  obtain ⟨rc, rf, rl⟩ := block_cells K6.R
  obtain ⟨u7, e7⟩ : ∃ u7, u6.setCell ⟨w.heap.size, 2, none⟩ (uv v.a) = u7 := ⟨_, rfl⟩
  have X7 := Go.heap_setCell_same u6 w.heap.size 2 _ _ (uv v.a) K6.X
  rw [e7] at X7
  have S7 : Stored w.heap.size u6 u7 := by rw [← e7]; exact stored_cells w.heap.size 2 [uv v.a] u6
  have K7 : L3 w.heap.size { z with c := v.a } v V.zero u7 := K6.storeX S7 X7
  have B7 : Below w.heap.size w u7 := B6.trans (S7.below _ (Nat.le_refl _))
  obtain ⟨xc', xf', xl'⟩ := block_cells K7.X
  obtain ⟨rc', rf', rl'⟩ := block_cells K7.R
  clear X7 S7
  go_wp2_with fail
  clear e7
  refine Flow.bodyPost_k rfl (fun K hK => ?_)
  simp only [results, Tryz.results22]
  go_simp
  refine hK _ ⟨?_, ?_⟩
  · rfl
  · have hle : w.heap.size ≤ w.heap.size + 1 + 1 := by omega
    exact (((B7.setCell hle _).setCell hle _).setCell hle _).setCell hle _
set_option maxRecDepth 100000 in
theorem bin12_30_3 (ty : Int) (x y z v : V) (HU : Hid (IsBinC 30 ty 3 true)) (HC : Hid (ClipB ty x z)) (HD : Hid (ClipB (Rf.secTy 30 ty) y v)) (w : World) : Calls Tryz.prog 22 #[iv (30 : Int), iv ty, iv (3 : Int), vv x, vv y] w fun e w' => e = .returned (.tuple #[vv ({ z with d := v.a }), .bool true]) ∧ Below w.heap.size w w' := by
  obtain ⟨X0, Y0, R0⟩ := heap_alloc3 w (vcell x) (vcell y) (vcell V.zero)
  go_enter Tryz.func22, Tryz.ntmps22
  go_wp2_with fail
  (refine (HU.out _ ).mono ?_; rintro e u1 ⟨rfl, hb⟩; obtain ⟨hc, hf⟩ := Flow.bcell hb; have hz := hb.size; (try simp only [World.size_alloc, World.size_setCell, World.size_drew] at hz); obtain ⟨z0, z1, z2⟩ := Flow.zs3 (show w.heap.size + 3 ≤ u1.heap.size by omega))
  have K1 : L3 w.heap.size x y V.zero u1 := ⟨(hb.block _ (by simp <;> omega)).trans X0, (hb.block _ (by simp <;> omega)).trans Y0, (hb.block _ (by simp)).trans R0⟩
  have B1 : Below w.heap.size w u1 := by (repeat (first | exact Below.refl _ _ | refine Below.setCell ?_ (by first | omega | (simp <;> omega)) _ | refine Below.alloc ?_ (by first | omega | (simp <;> omega)) _ | refine Below.drew ?_ | refine Below.trans ?_ (Below.mono (by assumption) (by first | omega | (simp <;> omega)))))
  have y1 := K1.lt
  clear X0 Y0 R0 hb
  obtain ⟨xc, xf, xl⟩ := block_cells K1.X
  obtain ⟨yc, yf, yl⟩ := block_cells K1.Y
  obtain ⟨rc, rf, rl⟩ := block_cells K1.R
  go_wp2_with fail
  clear hc hf
  (refine (HC.out _ ).mono ?_; rintro e u2 ⟨rfl, hb⟩; obtain ⟨hc, hf⟩ := Flow.bcell hb; have hz := hb.size; (try simp only [World.size_alloc, World.size_setCell, World.size_drew] at hz); obtain ⟨z0, z1, z2⟩ := Flow.zs3 (show w.heap.size + 3 ≤ u2.heap.size by omega))
  have K2 := K1.step hb
  have B2 : Below w.heap.size w u2 := B1.trans (hb.mono (by have := K1.lt; omega))
  have y2 := K2.lt
  clear hb hc hf
  clear xc xf xl yc yf yl rc rf rl
  obtain ⟨xc, xf, xl⟩ := block_cells K2.X
  obtain ⟨yc, yf, yl⟩ := block_cells K2.Y
  obtain ⟨rc, rf, rl⟩ := block_cells K2.R
  obtain ⟨u3, e3, X3, S3⟩ := store4 K2.X 0 1 2 3 (uv z.a) (uv z.b) (uv z.c) (uv z.d)
  have K3 : L3 w.heap.size z y V.zero u3 := K2.storeX S3 X3
  have B3 : Below w.heap.size w u3 := B2.trans (S3.below _ (Nat.le_refl _))
  have y3 := K3.lt
  clear X3 S3
  go_wp2_with fail
  (try rw [e3])
  clear e3
  clear xc xf xl yc yf yl rc rf rl
  obtain ⟨xc, xf, xl⟩ := block_cells K3.X
  obtain ⟨yc, yf, yl⟩ := block_cells K3.Y
  obtain ⟨rc, rf, rl⟩ := block_cells K3.R
  refine Flow.wp_region_below 5 (by kernel_rfl) (by kernel_rfl) (fun R hRc hRt => ?_)
  simp only [List.take_succ_cons, List.take_zero, List.drop_succ_cons, List.drop_zero]
  iterate 5
    first
      | (apply Flow.flow_step; rfl; (intro w1 hb; have hc := hRc.out w1 hb; go_simp; (first | with_reducible exact ⟨rfl, hb⟩ | (go_at_call 54; refine (second12_c _ _ _).mono ?_; rintro e w2 ⟨rfl, hb2⟩; exact ⟨_, rfl, rfl, hRt.out _ _ hb hb2⟩) | (go_at_call 44; refine (HD.out _).mono ?_; rintro e w2 ⟨rfl, hb2⟩; exact ⟨_, rfl, rfl, hRt.out _ _ hb hb2⟩))))
    simp only [Act.put, List.setIfInBounds_toArray, List.set_cons_zero, List.set_cons_succ]
  apply Flow.flow_nil
  clear hRc hRt
  intro u4 hb
  have K4 := K3.step hb
  have B4 : Below w.heap.size w u4 := B3.trans (hb.mono (by have := K3.lt; omega))
  have y4 := K4.lt
  clear hb
  clear xc xf xl yc yf yl rc rf rl
  obtain ⟨xc, xf, xl⟩ := block_cells K4.X
  obtain ⟨yc, yf, yl⟩ := block_cells K4.Y
  obtain ⟨rc, rf, rl⟩ := block_cells K4.R
  obtain ⟨u5, e5, Y5, S5⟩ := store4 K4.Y 0 1 2 3 (uv v.a) (uv v.b) (uv v.c) (uv v.d)
  have K5 : L3 w.heap.size z v V.zero u5 := K4.storeY S5 Y5
  have B5 : Below w.heap.size w u5 := B4.trans (S5.below _ (Nat.le_succ _))
  have y5 := K5.lt
  clear Y5 S5
  go_wp2_with fail
  clear e5
  (refine (alu12_30 _ ).mono ?_; rintro e u6 ⟨rfl, hb⟩; obtain ⟨hc, hf⟩ := Flow.bcell hb; have hz := hb.size; (try simp only [World.size_alloc, World.size_setCell, World.size_drew] at hz); obtain ⟨z0, z1, z2⟩ := Flow.zs3 (show w.heap.size + 3 ≤ u6.heap.size by omega))
  have K6 := K5.step hb
  have B6 : Below w.heap.size w u6 := B5.trans (hb.mono (by have := K5.lt; omega))
  have y6 := K6.lt
  clear hb hc hf
  clear xc xf xl yc yf yl rc rf rl
  obtain ⟨xc, xf, xl⟩ := block_cells K6.X
  obtain ⟨yc, yf, yl⟩ := block_cells K6.Y
  obtain ⟨rc, rf, rl⟩ := block_cells K6.R
  obtain ⟨u7, e7⟩ : ∃ u7, u6.setCell ⟨w.heap.size, 3, none⟩ (uv v.a) = u7 := ⟨_, rfl⟩
  have X7 := Go.heap_setCell_same u6 w.heap.size 3 _ _ (uv v.a) K6.X
  rw [e7] at X7
  have S7 : Stored w.heap.size u6 u7 := by rw [← e7]; exact stored_cells w.heap.size 3 [uv v.a] u6
  have K7 : L3 w.heap.size { z with d := v.a } v V.zero u7 := K6.storeX S7 X7
  have B7 : Below w.heap.size w u7 := B6.trans (S7.below _ (Nat.le_refl _))
  obtain ⟨xc', xf', xl'⟩ := block_cells K7.X
  obtain ⟨rc', rf', rl'⟩ := block_cells K7.R
  clear X7 S7
  go_wp2_with fail
  clear e7
  refine Flow.bodyPost_k rfl (fun K hK => ?_)
  simp only [results, Tryz.results22]
  go_simp
  refine hK _ ⟨?_, ?_⟩
  · rfl
  · have hle : w.heap.size ≤ w.heap.size + 1 + 1 := by omega
    exact (((B7.setCell hle _).setCell hle _).setCell hle _).setCell hle _
set_option maxRecDepth 100000 in
theorem bin12_14 (ty off : Int) (x y z v : V) (HU : Hid (IsBinC 14 ty off true)) (HC : Hid (ClipB ty x z)) (HD : Hid (ClipB (Rf.secTy 14 ty) y v)) (w : World) : Calls Tryz.prog 22 #[iv (14 : Int), iv ty, iv off, vv x, vv y] w fun e w' => e = .returned (.tuple #[vv (Vb.one (decide (z = v))), .bool true]) ∧ Below w.heap.size w w' := by
  obtain ⟨X0, Y0, R0⟩ := heap_alloc3 w (vcell x) (vcell y) (vcell V.zero)
  go_enter Tryz.func22, Tryz.ntmps22
  go_wp2_with fail
  (refine (HU.out _ ).mono ?_; rintro e u1 ⟨rfl, hb⟩; obtain ⟨hc, hf⟩ := Flow.bcell hb; have hz := hb.size; (try simp only [World.size_alloc, World.size_setCell, World.size_drew] at hz); obtain ⟨z0, z1, z2⟩ := Flow.zs3 (show w.heap.size + 3 ≤ u1.heap.size by omega))
  have K1 : L3 w.heap.size x y V.zero u1 := ⟨(hb.block _ (by simp <;> omega)).trans X0, (hb.block _ (by simp <;> omega)).trans Y0, (hb.block _ (by simp)).trans R0⟩
  have B1 : Below w.heap.size w u1 := by (repeat (first | exact Below.refl _ _ | refine Below.setCell ?_ (by first | omega | (simp <;> omega)) _ | refine Below.alloc ?_ (by first | omega | (simp <;> omega)) _ | refine Below.drew ?_ | refine Below.trans ?_ (Below.mono (by assumption) (by first | omega | (simp <;> omega)))))
  have y1 := K1.lt
  clear X0 Y0 R0 hb
  obtain ⟨xc, xf, xl⟩ := block_cells K1.X
  obtain ⟨yc, yf, yl⟩ := block_cells K1.Y
  obtain ⟨rc, rf, rl⟩ := block_cells K1.R
  go_wp2_with fail
  clear hc hf
  (refine (HC.out _ ).mono ?_; rintro e u2 ⟨rfl, hb⟩; obtain ⟨hc, hf⟩ := Flow.bcell hb; have hz := hb.size; (try simp only [World.size_alloc, World.size_setCell, World.size_drew] at hz); obtain ⟨z0, z1, z2⟩ := Flow.zs3 (show w.heap.size + 3 ≤ u2.heap.size by omega))
  have K2 := K1.step hb
  have B2 : Below w.heap.size w u2 := B1.trans (hb.mono (by have := K1.lt; omega))
  have y2 := K2.lt
  clear hb hc hf
  clear xc xf xl yc yf yl rc rf rl
  obtain ⟨xc, xf, xl⟩ := block_cells K2.X
  obtain ⟨yc, yf, yl⟩ := block_cells K2.Y
  obtain ⟨rc, rf, rl⟩ := block_cells K2.R
  obtain ⟨u3, e3, X3, S3⟩ := store4 K2.X 0 1 2 3 (uv z.a) (uv z.b) (uv z.c) (uv z.d)
  have K3 : L3 w.heap.size z y V.zero u3 := K2.storeX S3 X3
  have B3 : Below w.heap.size w u3 := B2.trans (S3.below _ (Nat.le_refl _))
  have y3 := K3.lt
  clear X3 S3
  go_wp2_with fail
  (try rw [e3])
  clear e3
  clear xc xf xl yc yf yl rc rf rl
  obtain ⟨xc, xf, xl⟩ := block_cells K3.X
  obtain ⟨yc, yf, yl⟩ := block_cells K3.Y
  obtain ⟨rc, rf, rl⟩ := block_cells K3.R
  refine Flow.wp_region_below 5 (by kernel_rfl) (by kernel_rfl) (fun R hRc hRt => ?_)
  simp only [List.take_succ_cons, List.take_zero, List.drop_succ_cons, List.drop_zero]
  iterate 5
    first
      | (apply Flow.flow_step; rfl; (intro w1 hb; have hc := hRc.out w1 hb; go_simp; (first | with_reducible exact ⟨rfl, hb⟩ | (go_at_call 54; refine (second12_c _ _ _).mono ?_; rintro e w2 ⟨rfl, hb2⟩; exact ⟨_, rfl, rfl, hRt.out _ _ hb hb2⟩) | (go_at_call 44; refine (HD.out _).mono ?_; rintro e w2 ⟨rfl, hb2⟩; exact ⟨_, rfl, rfl, hRt.out _ _ hb hb2⟩))))
    simp only [Act.put, List.setIfInBounds_toArray, List.set_cons_zero, List.set_cons_succ]
  apply Flow.flow_nil
  clear hRc hRt
  intro u4 hb
  have K4 := K3.step hb
  have B4 : Below w.heap.size w u4 := B3.trans (hb.mono (by have := K3.lt; omega))
  have y4 := K4.lt
  clear hb
  clear xc xf xl yc yf yl rc rf rl
  obtain ⟨xc, xf, xl⟩ := block_cells K4.X
  obtain ⟨yc, yf, yl⟩ := block_cells K4.Y
  obtain ⟨rc, rf, rl⟩ := block_cells K4.R
  obtain ⟨u5, e5, Y5, S5⟩ := store4 K4.Y 0 1 2 3 (uv v.a) (uv v.b) (uv v.c) (uv v.d)
  have K5 : L3 w.heap.size z v V.zero u5 := K4.storeY S5 Y5
  have B5 : Below w.heap.size w u5 := B4.trans (S5.below _ (Nat.le_succ _))
  have y5 := K5.lt
  clear Y5 S5
  go_wp2_with fail
  clear e5
  (refine (alu12_14 _ ).mono ?_; rintro e u6 ⟨rfl, hb⟩; obtain ⟨hc, hf⟩ := Flow.bcell hb; have hz := hb.size; (try simp only [World.size_alloc, World.size_setCell, World.size_drew] at hz); obtain ⟨z0, z1, z2⟩ := Flow.zs3 (show w.heap.size + 3 ≤ u6.heap.size by omega))
  have K6 := K5.step hb
  have B6 : Below w.heap.size w u6 := B5.trans (hb.mono (by have := K5.lt; omega))
  have y6 := K6.lt
  clear hb hc hf
  clear xc xf xl yc yf yl rc rf rl
  obtain ⟨xc, xf, xl⟩ := block_cells K6.X
  obtain ⟨yc, yf, yl⟩ := block_cells K6.Y
  obtain ⟨rc, rf, rl⟩ := block_cells K6.R
  go_wp2_with fail
  (refine (one12_c _ _ ).mono ?_; rintro e u7 ⟨rfl, hb⟩; obtain ⟨hc, hf⟩ := Flow.bcell hb; have hz := hb.size; (try simp only [World.size_alloc, World.size_setCell, World.size_drew] at hz); obtain ⟨z0, z1, z2⟩ := Flow.zs3 (show w.heap.size + 3 ≤ u7.heap.size by omega))
  have K7 := K6.step hb
  have B7 : Below w.heap.size w u7 := B6.trans (hb.mono (by have := K6.lt; omega))
  have y7 := K7.lt
  clear hb hc hf
  clear xc xf xl yc yf yl rc rf rl
  obtain ⟨xc, xf, xl⟩ := block_cells K7.X
  obtain ⟨yc, yf, yl⟩ := block_cells K7.Y
  obtain ⟨rc, rf, rl⟩ := block_cells K7.R
  go_wp2_with fail
  refine Flow.bodyPost_k rfl (fun K hK => ?_)
  simp only [results, Tryz.results22]
  go_simp
  refine hK _ ⟨?_, ?_⟩
  · rfl
  · have hle : w.heap.size ≤ w.heap.size + 1 + 1 := by omega
    exact (((B7.setCell hle _).setCell hle _).setCell hle _).setCell hle _
set_option maxRecDepth 100000 in
theorem bin12_15 (ty off : Int) (x y z v : V) (HU : Hid (IsBinC 15 ty off true)) (HC : Hid (ClipB ty x z)) (HD : Hid (ClipB (Rf.secTy 15 ty) y v)) (w : World) : Calls Tryz.prog 22 #[iv (15 : Int), iv ty, iv off, vv x, vv y] w fun e w' => e = .returned (.tuple #[vv (Vb.one (!decide (z = v))), .bool true]) ∧ Below w.heap.size w w' := by
  obtain ⟨X0, Y0, R0⟩ := heap_alloc3 w (vcell x) (vcell y) (vcell V.zero)
  go_enter Tryz.func22, Tryz.ntmps22
  go_wp2_with fail
  (refine (HU.out _ ).mono ?_; rintro e u1 ⟨rfl, hb⟩; obtain ⟨hc, hf⟩ := Flow.bcell hb; have hz := hb.size; (try simp only [World.size_alloc, World.size_setCell, World.size_drew] at hz); obtain ⟨z0, z1, z2⟩ := Flow.zs3 (show w.heap.size + 3 ≤ u1.heap.size by omega))
  have K1 : L3 w.heap.size x y V.zero u1 := ⟨(hb.block _ (by simp <;> omega)).trans X0, (hb.block _ (by simp <;> omega)).trans Y0, (hb.block _ (by simp)).trans R0⟩
  have B1 : Below w.heap.size w u1 := by (repeat (first | exact Below.refl _ _ | refine Below.setCell ?_ (by first | omega | (simp <;> omega)) _ | refine Below.alloc ?_ (by first | omega | (simp <;> omega)) _ | refine Below.drew ?_ | refine Below.trans ?_ (Below.mono (by assumption) (by first | omega | (simp <;> omega)))))
  have y1 := K1.lt
  clear X0 Y0 R0 hb
  obtain ⟨xc, xf, xl⟩ := block_cells K1.X
  obtain ⟨yc, yf, yl⟩ := block_cells K1.Y
  obtain ⟨rc, rf, rl⟩ := block_cells K1.R
  go_wp2_with fail
  clear hc hf
  (refine (HC.out _ ).mono ?_; rintro e u2 ⟨rfl, hb⟩; obtain ⟨hc, hf⟩ := Flow.bcell hb; have hz := hb.size; (try simp only [World.size_alloc, World.size_setCell, World.size_drew] at hz); obtain ⟨z0, z1, z2⟩ := Flow.zs3 (show w.heap.size + 3 ≤ u2.heap.size by omega))
  have K2 := K1.step hb
  have B2 : Below w.heap.size w u2 := B1.trans (hb.mono (by have := K1.lt; omega))
  have y2 := K2.lt
  clear hb hc hf
  clear xc xf xl yc yf yl rc rf rl
  obtain ⟨xc, xf, xl⟩ := block_cells K2.X
  obtain ⟨yc, yf, yl⟩ := block_cells K2.Y
  obtain ⟨rc, rf, rl⟩ := block_cells K2.R
  obtain ⟨u3, e3, X3, S3⟩ := store4 K2.X 0 1 2 3 (uv z.a) (uv z.b) (uv z.c) (uv z.d)
  have K3 : L3 w.heap.size z y V.zero u3 := K2.storeX S3 X3
  have B3 : Below w.heap.size w u3 := B2.trans (S3.below _ (Nat.le_refl _))
  have y3 := K3.lt
  clear X3 S3
  go_wp2_with fail
  (try rw [e3])
  clear e3
  clear xc xf xl yc yf yl rc rf rl
  obtain ⟨xc, xf, xl⟩ := block_cells K3.X
  obtain ⟨yc, yf, yl⟩ := block_cells K3.Y
  obtain ⟨rc, rf, rl⟩ := block_cells K3.R
  refine Flow.wp_region_below 5 (by kernel_rfl) (by kernel_rfl) (fun R hRc hRt => ?_)
  simp only [List.take_succ_cons, List.take_zero, List.drop_succ_cons, List.drop_zero]
  iterate 5
    first
      | (apply Flow.flow_step; rfl; (intro w1 hb; have hc := hRc.out w1 hb; go_simp; (first | with_reducible exact ⟨rfl, hb⟩ | (go_at_call 54; refine (second12_c _ _ _).mono ?_; rintro e w2 ⟨rfl, hb2⟩; exact ⟨_, rfl, rfl, hRt.out _ _ hb hb2⟩) | (go_at_call 44; refine (HD.out _).mono ?_; rintro e w2 ⟨rfl, hb2⟩; exact ⟨_, rfl, rfl, hRt.out _ _ hb hb2⟩))))
    simp only [Act.put, List.setIfInBounds_toArray, List.set_cons_zero, List.set_cons_succ]
  apply Flow.flow_nil
  clear hRc hRt
  intro u4 hb
  have K4 := K3.step hb
  have B4 : Below w.heap.size w u4 := B3.trans (hb.mono (by have := K3.lt; omega))
  have y4 := K4.lt
  clear hb
  clear xc xf xl yc yf yl rc rf rl
  obtain ⟨xc, xf, xl⟩ := block_cells K4.X
  obtain ⟨yc, yf, yl⟩ := block_cells K4.Y
  obtain ⟨rc, rf, rl⟩ := block_cells K4.R
  obtain ⟨u5, e5, Y5, S5⟩ := store4 K4.Y 0 1 2 3 (uv v.a) (uv v.b) (uv v.c) (uv v.d)
  have K5 : L3 w.heap.size z v V.zero u5 := K4.storeY S5 Y5
  have B5 : Below w.heap.size w u5 := B4.trans (S5.below _ (Nat.le_succ _))
  have y5 := K5.lt
  clear Y5 S5
  go_wp2_with fail
  clear e5
  (refine (alu12_15 _ ).mono ?_; rintro e u6 ⟨rfl, hb⟩; obtain ⟨hc, hf⟩ := Flow.bcell hb; have hz := hb.size; (try simp only [World.size_alloc, World.size_setCell, World.size_drew] at hz); obtain ⟨z0, z1, z2⟩ := Flow.zs3 (show w.heap.size + 3 ≤ u6.heap.size by omega))
  have K6 := K5.step hb
  have B6 : Below w.heap.size w u6 := B5.trans (hb.mono (by have := K5.lt; omega))
  have y6 := K6.lt
  clear hb hc hf
  clear xc xf xl yc yf yl rc rf rl
  obtain ⟨xc, xf, xl⟩ := block_cells K6.X
  obtain ⟨yc, yf, yl⟩ := block_cells K6.Y
  obtain ⟨rc, rf, rl⟩ := block_cells K6.R
  go_wp2_with fail
  (refine (one12_c _ _ ).mono ?_; rintro e u7 ⟨rfl, hb⟩; obtain ⟨hc, hf⟩ := Flow.bcell hb; have hz := hb.size; (try simp only [World.size_alloc, World.size_setCell, World.size_drew] at hz); obtain ⟨z0, z1, z2⟩ := Flow.zs3 (show w.heap.size + 3 ≤ u7.heap.size by omega))
  have K7 := K6.step hb
  have B7 : Below w.heap.size w u7 := B6.trans (hb.mono (by have := K6.lt; omega))
  have y7 := K7.lt
  clear hb hc hf
  clear xc xf xl yc yf yl rc rf rl
  obtain ⟨xc, xf, xl⟩ := block_cells K7.X
  obtain ⟨yc, yf, yl⟩ := block_cells K7.Y
  obtain ⟨rc, rf, rl⟩ := block_cells K7.R
  go_wp2_with fail
  refine Flow.bodyPost_k rfl (fun K hK => ?_)
  simp only [results, Tryz.results22]
  go_simp
  refine hK _ ⟨?_, ?_⟩
  · rfl
  · have hle : w.heap.size ≤ w.heap.size + 1 + 1 := by omega
    exact (((B7.setCell hle _).setCell hle _).setCell hle _).setCell hle _
set_option maxRecDepth 100000 in
theorem bin12_16 (ty off : Int) (x y z v : V) (HU : Hid (IsBinC 16 ty off true)) (HC : Hid (ClipB ty x z)) (HD : Hid (ClipB (Rf.secTy 16 ty) y v)) (w : World) : Calls Tryz.prog 22 #[iv (16 : Int), iv ty, iv off, vv x, vv y] w fun e w' => e = .returned (.tuple #[vv (Vb.one (decide (z.a < v.a))), .bool true]) ∧ Below w.heap.size w w' := by
  obtain ⟨X0, Y0, R0⟩ := heap_alloc3 w (vcell x) (vcell y) (vcell V.zero)
  go_enter Tryz.func22, Tryz.ntmps22
  go_wp2_with fail
  (refine (HU.out _ ).mono ?_; rintro e u1 ⟨rfl, hb⟩; obtain ⟨hc, hf⟩ := Flow.bcell hb; have hz := hb.size; (try simp only [World.size_alloc, World.size_setCell, World.size_drew] at hz); obtain ⟨z0, z1, z2⟩ := Flow.zs3 (show w.heap.size + 3 ≤ u1.heap.size by omega))
  have K1 : L3 w.heap.size x y V.zero u1 := ⟨(hb.block _ (by simp <;> omega)).trans X0, (hb.block _ (by simp <;> omega)).trans Y0, (hb.block _ (by simp)).trans R0⟩
  have B1 : Below w.heap.size w u1 := by (repeat (first | exact Below.refl _ _ | refine Below.setCell ?_ (by first | omega | (simp <;> omega)) _ | refine Below.alloc ?_ (by first | omega | (simp <;> omega)) _ | refine Below.drew ?_ | refine Below.trans ?_ (Below.mono (by assumption) (by first | omega | (simp <;> omega)))))
  have y1 := K1.lt
  clear X0 Y0 R0 hb
  obtain ⟨xc, xf, xl⟩ := block_cells K1.X
  obtain ⟨yc, yf, yl⟩ := block_cells K1.Y
  obtain ⟨rc, rf, rl⟩ := block_cells K1.R
  go_wp2_with fail
  clear hc hf
  (refine (HC.out _ ).mono ?_; rintro e u2 ⟨rfl, hb⟩; obtain ⟨hc, hf⟩ := Flow.bcell hb; have hz := hb.size; (try simp only [World.size_alloc, World.size_setCell, World.size_drew] at hz); obtain ⟨z0, z1, z2⟩ := Flow.zs3 (show w.heap.size + 3 ≤ u2.heap.size by omega))
  have K2 := K1.step hb
  have B2 : Below w.heap.size w u2 := B1.trans (hb.mono (by have := K1.lt; omega))
  have y2 := K2.lt
  clear hb hc hf
  clear xc xf xl yc yf yl rc rf rl
  obtain ⟨xc, xf, xl⟩ := block_cells K2.X
  obtain ⟨yc, yf, yl⟩ := block_cells K2.Y
  obtain ⟨rc, rf, rl⟩ := block_cells K2.R
  obtain ⟨u3, e3, X3, S3⟩ := store4 K2.X 0 1 2 3 (uv z.a) (uv z.b) (uv z.c) (uv z.d)
  have K3 : L3 w.heap.size z y V.zero u3 := K2.storeX S3 X3
  have B3 : Below w.heap.size w u3 := B2.trans (S3.below _ (Nat.le_refl _))
  have y3 := K3.lt
  clear X3 S3
  go_wp2_with fail
  (try rw [e3])
  clear e3
  clear xc xf xl yc yf yl rc rf rl
  obtain ⟨xc, xf, xl⟩ := block_cells K3.X
  obtain ⟨yc, yf, yl⟩ := block_cells K3.Y
  obtain ⟨rc, rf, rl⟩ := block_cells K3.R
  refine Flow.wp_region_below 5 (by kernel_rfl) (by kernel_rfl) (fun R hRc hRt => ?_)
  simp only [List.take_succ_cons, List.take_zero, List.drop_succ_cons, List.drop_zero]
  iterate 5
    first
      | (apply Flow.flow_step; rfl; (intro w1 hb; have hc := hRc.out w1 hb; go_simp; (first | with_reducible exact ⟨rfl, hb⟩ | (go_at_call 54; refine (second12_c _ _ _).mono ?_; rintro e w2 ⟨rfl, hb2⟩; exact ⟨_, rfl, rfl, hRt.out _ _ hb hb2⟩) | (go_at_call 44; refine (HD.out _).mono ?_; rintro e w2 ⟨rfl, hb2⟩; exact ⟨_, rfl, rfl, hRt.out _ _ hb hb2⟩))))
    simp only [Act.put, List.setIfInBounds_toArray, List.set_cons_zero, List.set_cons_succ]
  apply Flow.flow_nil
  clear hRc hRt
  intro u4 hb
  have K4 := K3.step hb
  have B4 : Below w.heap.size w u4 := B3.trans (hb.mono (by have := K3.lt; omega))
  have y4 := K4.lt
  clear hb
  clear xc xf xl yc yf yl rc rf rl
  obtain ⟨xc, xf, xl⟩ := block_cells K4.X
  obtain ⟨yc, yf, yl⟩ := block_cells K4.Y
  obtain ⟨rc, rf, rl⟩ := block_cells K4.R
  obtain ⟨u5, e5, Y5, S5⟩ := store4 K4.Y 0 1 2 3 (uv v.a) (uv v.b) (uv v.c) (uv v.d)
  have K5 : L3 w.heap.size z v V.zero u5 := K4.storeY S5 Y5
  have B5 : Below w.heap.size w u5 := B4.trans (S5.below _ (Nat.le_succ _))
  have y5 := K5.lt
  clear Y5 S5
  go_wp2_with fail
  clear e5
  (refine (alu12_16 _ ).mono ?_; rintro e u6 ⟨rfl, hb⟩; obtain ⟨hc, hf⟩ := Flow.bcell hb; have hz := hb.size; (try simp only [World.size_alloc, World.size_setCell, World.size_drew] at hz); obtain ⟨z0, z1, z2⟩ := Flow.zs3 (show w.heap.size + 3 ≤ u6.heap.size by omega))
  have K6 := K5.step hb
  have B6 : Below w.heap.size w u6 := B5.trans (hb.mono (by have := K5.lt; omega))
  have y6 := K6.lt
  clear hb hc hf
  clear xc xf xl yc yf yl rc rf rl
  obtain ⟨xc, xf, xl⟩ := block_cells K6.X
  obtain ⟨yc, yf, yl⟩ := block_cells K6.Y
  obtain ⟨rc, rf, rl⟩ := block_cells K6.R
  go_wp2_with fail
  (refine (one12_c _ _ ).mono ?_; rintro e u7 ⟨rfl, hb⟩; obtain ⟨hc, hf⟩ := Flow.bcell hb; have hz := hb.size; (try simp only [World.size_alloc, World.size_setCell, World.size_drew] at hz); obtain ⟨z0, z1, z2⟩ := Flow.zs3 (show w.heap.size + 3 ≤ u7.heap.size by omega))
  have K7 := K6.step hb
  have B7 : Below w.heap.size w u7 := B6.trans (hb.mono (by have := K6.lt; omega))
  have y7 := K7.lt
  clear hb hc hf
  clear xc xf xl yc yf yl rc rf rl
  obtain ⟨xc, xf, xl⟩ := block_cells K7.X
  obtain ⟨yc, yf, yl⟩ := block_cells K7.Y
  obtain ⟨rc, rf, rl⟩ := block_cells K7.R
  go_wp2_with fail
  refine Flow.bodyPost_k rfl (fun K hK => ?_)
  simp only [results, Tryz.results22]
  go_simp
  refine hK _ ⟨?_, ?_⟩
  · rfl
  · have hle : w.heap.size ≤ w.heap.size + 1 + 1 := by omega
    exact (((B7.setCell hle _).setCell hle _).setCell hle _).setCell hle _
set_option maxRecDepth 100000 in
theorem bin12_17 (ty off : Int) (x y z v : V) (HU : Hid (IsBinC 17 ty off true)) (HC : Hid (ClipB ty x z)) (HD : Hid (ClipB (Rf.secTy 17 ty) y v)) (w : World) : Calls Tryz.prog 22 #[iv (17 : Int), iv ty, iv off, vv x, vv y] w fun e w' => e = .returned (.tuple #[vv (Vb.one (decide (S z.a < S v.a))), .bool true]) ∧ Below w.heap.size w w' := by
  obtain ⟨X0, Y0, R0⟩ := heap_alloc3 w (vcell x) (vcell y) (vcell V.zero)
  go_enter Tryz.func22, Tryz.ntmps22
  go_wp2_with fail
  (refine (HU.out _ ).mono ?_; rintro e u1 ⟨rfl, hb⟩; obtain ⟨hc, hf⟩ := Flow.bcell hb; have hz := hb.size; (try simp only [World.size_alloc, World.size_setCell, World.size_drew] at hz); obtain ⟨z0, z1, z2⟩ := Flow.zs3 (show w.heap.size + 3 ≤ u1.heap.size by omega))
  have K1 : L3 w.heap.size x y V.zero u1 := ⟨(hb.block _ (by simp <;> omega)).trans X0, (hb.block _ (by simp <;> omega)).trans Y0, (hb.block _ (by simp)).trans R0⟩
  have B1 : Below w.heap.size w u1 := by (repeat (first | exact Below.refl _ _ | refine Below.setCell ?_ (by first | omega | (simp <;> omega)) _ | refine Below.alloc ?_ (by first | omega | (simp <;> omega)) _ | refine Below.drew ?_ | refine Below.trans ?_ (Below.mono (by assumption) (by first | omega | (simp <;> omega)))))
  have y1 := K1.lt
  clear X0 Y0 R0 hb
  obtain ⟨xc, xf, xl⟩ := block_cells K1.X
  obtain ⟨yc, yf, yl⟩ := block_cells K1.Y
  obtain ⟨rc, rf, rl⟩ := block_cells K1.R
  go_wp2_with fail
  clear hc hf
  (refine (HC.out _ ).mono ?_; rintro e u2 ⟨rfl, hb⟩; obtain ⟨hc, hf⟩ := Flow.bcell hb; have hz := hb.size; (try simp only [World.size_alloc, World.size_setCell, World.size_drew] at hz); obtain ⟨z0, z1, z2⟩ := Flow.zs3 (show w.heap.size + 3 ≤ u2.heap.size by omega))
  have K2 := K1.step hb
  have B2 : Below w.heap.size w u2 := B1.trans (hb.mono (by have := K1.lt; omega))
  have y2 := K2.lt
  clear hb hc hf
  clear xc xf xl yc yf yl rc rf rl
  obtain ⟨xc, xf, xl⟩ := block_cells K2.X
  obtain ⟨yc, yf, yl⟩ := block_cells K2.Y
  obtain ⟨rc, rf, rl⟩ := block_cells K2.R
  obtain ⟨u3, e3, X3, S3⟩ := store4 K2.X 0 1 2 3 (uv z.a) (uv z.b) (uv z.c) (uv z.d)
  have K3 : L3 w.heap.size z y V.zero u3 := K2.storeX S3 X3
  have B3 : Below w.heap.size w u3 := B2.trans (S3.below _ (Nat.le_refl _))
  have y3 := K3.lt
  clear X3 S3
  go_wp2_with fail
  (try rw [e3])
  clear e3
  clear xc xf xl yc yf yl rc rf rl
  obtain ⟨xc, xf, xl⟩ := block_cells K3.X
  obtain ⟨yc, yf, yl⟩ := block_cells K3.Y
  obtain ⟨rc, rf, rl⟩ := block_cells K3.R
  refine Flow.wp_region_below 5 (by kernel_rfl) (by kernel_rfl) (fun R hRc hRt => ?_)
  simp only [List.take_succ_cons, List.take_zero, List.drop_succ_cons, List.drop_zero]
  iterate 5
    first
      | (apply Flow.flow_step; rfl; (intro w1 hb; have hc := hRc.out w1 hb; go_simp; (first | with_reducible exact ⟨rfl, hb⟩ | (go_at_call 54; refine (second12_c _ _ _).mono ?_; rintro e w2 ⟨rfl, hb2⟩; exact ⟨_, rfl, rfl, hRt.out _ _ hb hb2⟩) | (go_at_call 44; refine (HD.out _).mono ?_; rintro e w2 ⟨rfl, hb2⟩; exact ⟨_, rfl, rfl, hRt.out _ _ hb hb2⟩))))
    simp only [Act.put, List.setIfInBounds_toArray, List.set_cons_zero, List.set_cons_succ]
  apply Flow.flow_nil
  clear hRc hRt
  intro u4 hb
  have K4 := K3.step hb
  have B4 : Below w.heap.size w u4 := B3.trans (hb.mono (by have := K3.lt; omega))
  have y4 := K4.lt
  clear hb
  clear xc xf xl yc yf yl rc rf rl
  obtain ⟨xc, xf, xl⟩ := block_cells K4.X
  obtain ⟨yc, yf, yl⟩ := block_cells K4.Y
  obtain ⟨rc, rf, rl⟩ := block_cells K4.R
  obtain ⟨u5, e5, Y5, S5⟩ := store4 K4.Y 0 1 2 3 (uv v.a) (uv v.b) (uv v.c) (uv v.d)
  have K5 : L3 w.heap.size z v V.zero u5 := K4.storeY S5 Y5
  have B5 : Below w.heap.size w u5 := B4.trans (S5.below _ (Nat.le_succ _))
  have y5 := K5.lt
  clear Y5 S5
  go_wp2_with fail
  clear e5
  (refine (alu12_17 _ ).mono ?_; rintro e u6 ⟨rfl, hb⟩; obtain ⟨hc, hf⟩ := Flow.bcell hb; have hz := hb.size; (try simp only [World.size_alloc, World.size_setCell, World.size_drew] at hz); obtain ⟨z0, z1, z2⟩ := Flow.zs3 (show w.heap.size + 3 ≤ u6.heap.size by omega))
  have K6 := K5.step hb
  have B6 : Below w.heap.size w u6 := B5.trans (hb.mono (by have := K5.lt; omega))
  have y6 := K6.lt
  clear hb hc hf
  clear xc xf xl yc yf yl rc rf rl
  obtain ⟨xc, xf, xl⟩ := block_cells K6.X
  obtain ⟨yc, yf, yl⟩ := block_cells K6.Y
  obtain ⟨rc, rf, rl⟩ := block_cells K6.R
  go_wp2_with fail
  (refine (one12_c _ _ ).mono ?_; rintro e u7 ⟨rfl, hb⟩; obtain ⟨hc, hf⟩ := Flow.bcell hb; have hz := hb.size; (try simp only [World.size_alloc, World.size_setCell, World.size_drew] at hz); obtain ⟨z0, z1, z2⟩ := Flow.zs3 (show w.heap.size + 3 ≤ u7.heap.size by omega))
  have K7 := K6.step hb
  have B7 : Below w.heap.size w u7 := B6.trans (hb.mono (by have := K6.lt; omega))
  have y7 := K7.lt
  clear hb hc hf
  clear xc xf xl yc yf yl rc rf rl
  obtain ⟨xc, xf, xl⟩ := block_cells K7.X
  obtain ⟨yc, yf, yl⟩ := block_cells K7.Y
  obtain ⟨rc, rf, rl⟩ := block_cells K7.R
  go_wp2_with fail
  refine Flow.bodyPost_k rfl (fun K hK => ?_)
  simp only [results, Tryz.results22]
  go_simp
  refine hK _ ⟨?_, ?_⟩
  · rfl
  · have hle : w.heap.size ≤ w.heap.size + 1 + 1 := by omega
    exact (((B7.setCell hle _).setCell hle _).setCell hle _).setCell hle _
set_option maxRecDepth 100000 in
theorem bin12_18 (ty off : Int) (x y z v : V) (HU : Hid (IsBinC 18 ty off true)) (HC : Hid (ClipB ty x z)) (HD : Hid (ClipB (Rf.secTy 18 ty) y v)) (w : World) : Calls Tryz.prog 22 #[iv (18 : Int), iv ty, iv off, vv x, vv y] w fun e w' => e = .returned (.tuple #[vv (Vb.one (decide (z.a ≤ v.a))), .bool true]) ∧ Below w.heap.size w w' := by
  obtain ⟨X0, Y0, R0⟩ := heap_alloc3 w (vcell x) (vcell y) (vcell V.zero)
  go_enter Tryz.func22, Tryz.ntmps22
  go_wp2_with fail
  (refine (HU.out _ ).mono ?_; rintro e u1 ⟨rfl, hb⟩; obtain ⟨hc, hf⟩ := Flow.bcell hb; have hz := hb.size; (try simp only [World.size_alloc, World.size_setCell, World.size_drew] at hz); obtain ⟨z0, z1, z2⟩ := Flow.zs3 (show w.heap.size + 3 ≤ u1.heap.size by omega))
  have K1 : L3 w.heap.size x y V.zero u1 := ⟨(hb.block _ (by simp <;> omega)).trans X0, (hb.block _ (by simp <;> omega)).trans Y0, (hb.block _ (by simp)).trans R0⟩
  have B1 : Below w.heap.size w u1 := by (repeat (first | exact Below.refl _ _ | refine Below.setCell ?_ (by first | omega | (simp <;> omega)) _ | refine Below.alloc ?_ (by first | omega | (simp <;> omega)) _ | refine Below.drew ?_ | refine Below.trans ?_ (Below.mono (by assumption) (by first | omega | (simp <;> omega)))))
  have y1 := K1.lt
  clear X0 Y0 R0 hb
  obtain ⟨xc, xf, xl⟩ := block_cells K1.X
  obtain ⟨yc, yf, yl⟩ := block_cells K1.Y
  obtain ⟨rc, rf, rl⟩ := block_cells K1.R
  go_wp2_with fail
  clear hc hf
  (refine (HC.out _ ).mono ?_; rintro e u2 ⟨rfl, hb⟩; obtain ⟨hc, hf⟩ := Flow.bcell hb; have hz := hb.size; (try simp only [World.size_alloc, World.size_setCell, World.size_drew] at hz); obtain ⟨z0, z1, z2⟩ := Flow.zs3 (show w.heap.size + 3 ≤ u2.heap.size by omega))
  have K2 := K1.step hb
  have B2 : Below w.heap.size w u2 := B1.trans (hb.mono (by have := K1.lt; omega))
  have y2 := K2.lt
  clear hb hc hf
  clear xc xf xl yc yf yl rc rf rl
  obtain ⟨xc, xf, xl⟩ := block_cells K2.X
  obtain ⟨yc, yf, yl⟩ := block_cells K2.Y
  obtain ⟨rc, rf, rl⟩ := block_cells K2.R
  obtain ⟨u3, e3, X3, S3⟩ := store4 K2.X 0 1 2 3 (uv z.a) (uv z.b) (uv z.c) (uv z.d)
  have K3 : L3 w.heap.size z y V.zero u3 := K2.storeX S3 X3
  have B3 : Below w.heap.size w u3 := B2.trans (S3.below _ (Nat.le_refl _))
  have y3 := K3.lt
  clear X3 S3
  go_wp2_with fail
  (try rw [e3])
  clear e3
  clear xc xf xl yc yf yl rc rf rl
  obtain ⟨xc, xf, xl⟩ := block_cells K3.X
  obtain ⟨yc, yf, yl⟩ := block_cells K3.Y
  obtain ⟨rc, rf, rl⟩ := block_cells K3.R
  refine Flow.wp_region_below 5 (by kernel_rfl) (by kernel_rfl) (fun R hRc hRt => ?_)
  simp only [List.take_succ_cons, List.take_zero, List.drop_succ_cons, List.drop_zero]
  iterate 5
    first
      | (apply Flow.flow_step; rfl; (intro w1 hb; have hc := hRc.out w1 hb; go_simp; (first | with_reducible exact ⟨rfl, hb⟩ | (go_at_call 54; refine (second12_c _ _ _).mono ?_; rintro e w2 ⟨rfl, hb2⟩; exact ⟨_, rfl, rfl, hRt.out _ _ hb hb2⟩) | (go_at_call 44; refine (HD.out _).mono ?_; rintro e w2 ⟨rfl, hb2⟩; exact ⟨_, rfl, rfl, hRt.out _ _ hb hb2⟩))))
    simp only [Act.put, List.setIfInBounds_toArray, List.set_cons_zero, List.set_cons_succ]
  apply Flow.flow_nil
  clear hRc hRt
  intro u4 hb
  have K4 := K3.step hb
  have B4 : Below w.heap.size w u4 := B3.trans (hb.mono (by have := K3.lt; omega))
  have y4 := K4.lt
  clear hb
  clear xc xf xl yc yf yl rc rf rl
  obtain ⟨xc, xf, xl⟩ := block_cells K4.X
  obtain ⟨yc, yf, yl⟩ := block_cells K4.Y
  obtain ⟨rc, rf, rl⟩ := block_cells K4.R
  obtain ⟨u5, e5, Y5, S5⟩ := store4 K4.Y 0 1 2 3 (uv v.a) (uv v.b) (uv v.c) (uv v.d)
  have K5 : L3 w.heap.size z v V.zero u5 := K4.storeY S5 Y5
  have B5 : Below w.heap.size w u5 := B4.trans (S5.below _ (Nat.le_succ _))
  have y5 := K5.lt
  clear Y5 S5
  go_wp2_with fail
  clear e5
  (refine (alu12_18 _ ).mono ?_; rintro e u6 ⟨rfl, hb⟩; obtain ⟨hc, hf⟩ := Flow.bcell hb; have hz := hb.size; (try simp only [World.size_alloc, World.size_setCell, World.size_drew] at hz); obtain ⟨z0, z1, z2⟩ := Flow.zs3 (show w.heap.size + 3 ≤ u6.heap.size by omega))
  have K6 := K5.step hb
  have B6 : Below w.heap.size w u6 := B5.trans (hb.mono (by have := K5.lt; omega))
  have y6 := K6.lt
  clear hb hc hf
  clear xc xf xl yc yf yl rc rf rl
  obtain ⟨xc, xf, xl⟩ := block_cells K6.X
  obtain ⟨yc, yf, yl⟩ := block_cells K6.Y
  obtain ⟨rc, rf, rl⟩ := block_cells K6.R
  go_wp2_with fail
  (refine (one12_c _ _ ).mono ?_; rintro e u7 ⟨rfl, hb⟩; obtain ⟨hc, hf⟩ := Flow.bcell hb; have hz := hb.size; (try simp only [World.size_alloc, World.size_setCell, World.size_drew] at hz); obtain ⟨z0, z1, z2⟩ := Flow.zs3 (show w.heap.size + 3 ≤ u7.heap.size by omega))
  have K7 := K6.step hb
  have B7 : Below w.heap.size w u7 := B6.trans (hb.mono (by have := K6.lt; omega))
  have y7 := K7.lt
  clear hb hc hf
  clear xc xf xl yc yf yl rc rf rl
  obtain ⟨xc, xf, xl⟩ := block_cells K7.X
  obtain ⟨yc, yf, yl⟩ := block_cells K7.Y
  obtain ⟨rc, rf, rl⟩ := block_cells K7.R
  go_wp2_with fail
  refine Flow.bodyPost_k rfl (fun K hK => ?_)
  simp only [results, Tryz.results22]
  go_simp
  refine hK _ ⟨?_, ?_⟩
  · rfl
  · have hle : w.heap.size ≤ w.heap.size + 1 + 1 := by omega
    exact (((B7.setCell hle _).setCell hle _).setCell hle _).setCell hle _
set_option maxRecDepth 100000 in
theorem bin12_19 (ty off : Int) (x y z v : V) (HU : Hid (IsBinC 19 ty off true)) (HC : Hid (ClipB ty x z)) (HD : Hid (ClipB (Rf.secTy 19 ty) y v)) (w : World) : Calls Tryz.prog 22 #[iv (19 : Int), iv ty, iv off, vv x, vv y] w fun e w' => e = .returned (.tuple #[vv (Vb.one (decide (S z.a ≤ S v.a))), .bool true]) ∧ Below w.heap.size w w' := by
  obtain ⟨X0, Y0, R0⟩ := heap_alloc3 w (vcell x) (vcell y) (vcell V.zero)
  go_enter Tryz.func22, Tryz.ntmps22
  go_wp2_with fail
  (refine (HU.out _ ).mono ?_; rintro e u1 ⟨rfl, hb⟩; obtain ⟨hc, hf⟩ := Flow.bcell hb; have hz := hb.size; (try simp only [World.size_alloc, World.size_setCell, World.size_drew] at hz); obtain ⟨z0, z1, z2⟩ := Flow.zs3 (show w.heap.size + 3 ≤ u1.heap.size by omega))
  have K1 : L3 w.heap.size x y V.zero u1 := ⟨(hb.block _ (by simp <;> omega)).trans X0, (hb.block _ (by simp <;> omega)).trans Y0, (hb.block _ (by simp)).trans R0⟩
  have B1 : Below w.heap.size w u1 := by (repeat (first | exact Below.refl _ _ | refine Below.setCell ?_ (by first | omega | (simp <;> omega)) _ | refine Below.alloc ?_ (by first | omega | (simp <;> omega)) _ | refine Below.drew ?_ | refine Below.trans ?_ (Below.mono (by assumption) (by first | omega | (simp <;> omega)))))
  have y1 := K1.lt
  clear X0 Y0 R0 hb
  obtain ⟨xc, xf, xl⟩ := block_cells K1.X
  obtain ⟨yc, yf, yl⟩ := block_cells K1.Y
  obtain ⟨rc, rf, rl⟩ := block_cells K1.R
  go_wp2_with fail
  clear hc hf
  (refine (HC.out _ ).mono ?_; rintro e u2 ⟨rfl, hb⟩; obtain ⟨hc, hf⟩ := Flow.bcell hb; have hz := hb.size; (try simp only [World.size_alloc, World.size_setCell, World.size_drew] at hz); obtain ⟨z0, z1, z2⟩ := Flow.zs3 (show w.heap.size + 3 ≤ u2.heap.size by omega))
  have K2 := K1.step hb
  have B2 : Below w.heap.size w u2 := B1.trans (hb.mono (by have := K1.lt; omega))
  have y2 := K2.lt
  clear hb hc hf
  clear xc xf xl yc yf yl rc rf rl
  obtain ⟨xc, xf, xl⟩ := block_cells K2.X
  obtain ⟨yc, yf, yl⟩ := block_cells K2.Y
  obtain ⟨rc, rf, rl⟩ := block_cells K2.R
  obtain ⟨u3, e3, X3, S3⟩ := store4 K2.X 0 1 2 3 (uv z.a) (uv z.b) (uv z.c) (uv z.d)
  have K3 : L3 w.heap.size z y V.zero u3 := K2.storeX S3 X3
  have B3 : Below w.heap.size w u3 := B2.trans (S3.below _ (Nat.le_refl _))
  have y3 := K3.lt
  clear X3 S3
  go_wp2_with fail
  (try rw [e3])
  clear e3
  clear xc xf xl yc yf yl rc rf rl
  obtain ⟨xc, xf, xl⟩ := block_cells K3.X
  obtain ⟨yc, yf, yl⟩ := block_cells K3.Y
  obtain ⟨rc, rf, rl⟩ := block_cells K3.R
  refine Flow.wp_region_below 5 (by kernel_rfl) (by kernel_rfl) (fun R hRc hRt => ?_)
  simp only [List.take_succ_cons, List.take_zero, List.drop_succ_cons, List.drop_zero]
  iterate 5
    first
      | (apply Flow.flow_step; rfl; (intro w1 hb; have hc := hRc.out w1 hb; go_simp; (first | with_reducible exact ⟨rfl, hb⟩ | (go_at_call 54; refine (second12_c _ _ _).mono ?_; rintro e w2 ⟨rfl, hb2⟩; exact ⟨_, rfl, rfl, hRt.out _ _ hb hb2⟩) | (go_at_call 44; refine (HD.out _).mono ?_; rintro e w2 ⟨rfl, hb2⟩; exact ⟨_, rfl, rfl, hRt.out _ _ hb hb2⟩))))
    simp only [Act.put, List.setIfInBounds_toArray, List.set_cons_zero, List.set_cons_succ]
  apply Flow.flow_nil
  clear hRc hRt
  intro u4 hb
  have K4 := K3.step hb
  have B4 : Below w.heap.size w u4 := B3.trans (hb.mono (by have := K3.lt; omega))
  have y4 := K4.lt
  clear hb
  clear xc xf xl yc yf yl rc rf rl
  obtain ⟨xc, xf, xl⟩ := block_cells K4.X
  obtain ⟨yc, yf, yl⟩ := block_cells K4.Y
  obtain ⟨rc, rf, rl⟩ := block_cells K4.R
  obtain ⟨u5, e5, Y5, S5⟩ := store4 K4.Y 0 1 2 3 (uv v.a) (uv v.b) (uv v.c) (uv v.d)
  have K5 : L3 w.heap.size z v V.zero u5 := K4.storeY S5 Y5
  have B5 : Below w.heap.size w u5 := B4.trans (S5.below _ (Nat.le_succ _))
  have y5 := K5.lt
  clear Y5 S5
  go_wp2_with fail
  clear e5
  (refine (alu12_19 _ ).mono ?_; rintro e u6 ⟨rfl, hb⟩; obtain ⟨hc, hf⟩ := Flow.bcell hb; have hz := hb.size; (try simp only [World.size_alloc, World.size_setCell, World.size_drew] at hz); obtain ⟨z0, z1, z2⟩ := Flow.zs3 (show w.heap.size + 3 ≤ u6.heap.size by omega))
  have K6 := K5.step hb
  have B6 : Below w.heap.size w u6 := B5.trans (hb.mono (by have := K5.lt; omega))
  have y6 := K6.lt
  clear hb hc hf
  clear xc xf xl yc yf yl rc rf rl
  obtain ⟨xc, xf, xl⟩ := block_cells K6.X
  obtain ⟨yc, yf, yl⟩ := block_cells K6.Y
  obtain ⟨rc, rf, rl⟩ := block_cells K6.R
  go_wp2_with fail
  (refine (one12_c _ _ ).mono ?_; rintro e u7 ⟨rfl, hb⟩; obtain ⟨hc, hf⟩ := Flow.bcell hb; have hz := hb.size; (try simp only [World.size_alloc, World.size_setCell, World.size_drew] at hz); obtain ⟨z0, z1, z2⟩ := Flow.zs3 (show w.heap.size + 3 ≤ u7.heap.size by omega))
  have K7 := K6.step hb
  have B7 : Below w.heap.size w u7 := B6.trans (hb.mono (by have := K6.lt; omega))
  have y7 := K7.lt
  clear hb hc hf
  clear xc xf xl yc yf yl rc rf rl
  obtain ⟨xc, xf, xl⟩ := block_cells K7.X
  obtain ⟨yc, yf, yl⟩ := block_cells K7.Y
  obtain ⟨rc, rf, rl⟩ := block_cells K7.R
  go_wp2_with fail
  refine Flow.bodyPost_k rfl (fun K hK => ?_)
  simp only [results, Tryz.results22]
  go_simp
  refine hK _ ⟨?_, ?_⟩
  · rfl
  · have hle : w.heap.size ≤ w.heap.size + 1 + 1 := by omega
    exact (((B7.setCell hle _).setCell hle _).setCell hle _).setCell hle _
end Go.Proofs.YtboknfppecgjmaaGreat
