/- 'lanes': the iterator that yields where the lanes of a width begin, and the mask of one there. -/
import Derived.Test.YtboknfppecgjmaaGreatMask
import Derived.Test.YtboknfppecgjmaaGreatFlowIn
namespace Go.Proofs.YtboknfppecgjmaaGreat
set_option linter.unusedVariables false
set_option linter.unusedSimpArgs false
open Go.RowKit Go.Shelf
attribute [local go_sem] Oper.semAt_some

/-- Where the first k lanes begin. -/
def fr (width k : Nat) : List (Fin 32) := (List.range k).map fun j => Fin.ofNat 32 (j * width)
theorem fr_succ (width k : Nat) : fr width (k + 1) = fr width k ++ [Fin.ofNat 32 (k * width)] := by simp [fr, List.range_succ]
theorem fr_len (width k : Nat) : (fr width k).length = k := by simp [fr]
/-- Block b lies as it lay. -/
def SameAt (b : Nat) (W W' : World) : Prop := W'.heap[b]? = W.heap[b]? ∧ W.heap.size ≤ W'.heap.size
theorem SameAt.trans {b : Nat} {A B C : World} (h : SameAt b A B) (k : SameAt b B C) : SameAt b A C := ⟨k.1.trans h.1, Nat.le_trans h.2 k.2⟩
def laneMask (width : Nat) : BitVec 32 := (1#32 <<< width) - 1#32
abbrev laneEnc (width : Nat) (x : Fin 32) : Array Value := #[iv (x.val : Nat), uv (laneMask width <<< x.val)]
theorem fin_val (a : Nat) (h : a < 32) : (Fin.ofNat 32 a).val = a := by simp [Fin.ofNat]; omega

set_option maxHeartbeats 1000000 in
theorem lanes1_in (width : Nat) (hw : width = 8 ∨ width = 16 ∨ width = 32) (n : Nat) (hn : 1 ≤ n) (l Bw : Nat) (J Jx : List (Fin 32) → World → Prop)
    (hY : ∀ pre x W, J pre W → pre.length < 32 → YieldAt Fence.wide (n - 1) Tryz.prog l (laneEnc width x) W fun e W' =>
      (e = .returned (.bool true) ∧ J (pre ++ [x]) W' ∧ SameAt Bw W W') ∨ (e = .returned (.bool false) ∧ Jx (pre ++ [x]) W'))
    (W : World) (hBw : W.cell? ⟨Bw, 0, none⟩ = some (iv (width : Nat))) (h0 : J [] W) :
    CallsIn Fence.wide n Tryz.prog 146 #[.func (.yield l) #[] #[], .pointer (some ⟨Bw, 0, none⟩)] W fun e W' => (∃ v, e = .returned v) ∧
      ((∃ xs, xs = fr width (32 / width) ∧ J xs W') ∨ (∃ pre, True ∧ Jx pre W')) := by
  have h1 : (1 : Int) ≤ width := by omega
  have h2 : (width : Int) ≤ 32 := by omega
  refine callsIn_of_wp Tryz.func146 rfl trivial ?_ rfl
  simp only [Tryz.ntmps146, List.size_toArray, List.length_cons, List.length_nil, Nat.reduceAdd, Nat.reduceSub, Array.replicate_succ, Array.replicate_zero, List.push_toArray, List.append_toArray, List.nil_append, List.cons_append]
  gi_wp2
  simp only [shl_u32, sub_u32]
  gi_loopw [4] (fun p wr => ∃ k : Nat, p = iv ((k * width : Nat)) ∧ k * width ≤ 32 ∧ wr.cell? ⟨Bw, 0, none⟩ = some (iv (width : Nat)) ∧ J (fr width k) wr)
    (fun p _ => 32 - (intOf p).toNat)
  case atStart =>
    exact ⟨0, by simp, by omega, hBw, h0⟩
  case round =>
    obtain ⟨k, rfl, hk, hc, hJs⟩ := hrel
    by_cases hlt : k * width < 32
    · obtain ⟨fn, tmps, assign, body, hy, hR⟩ := hY (fr width k) (Fin.ofNat 32 (k * width)) wr hJs (by rw [fr_len]; have : k * 1 ≤ k * width := Nat.mul_le_mul_left _ (by omega); omega)
      simp only [laneEnc, laneMask, fin_val _ hlt, Int.natCast_mul] at hy
      gi_wp2
      refine hR.mono ?_
      rintro e W3 (⟨rfl, hJ3, hk3⟩ | ⟨rfl, hJx3⟩)
      · have hc3 : W3.cell? ⟨Bw, 0, none⟩ = some (iv (width : Nat)) := (World.cell?_of_block (a := ⟨Bw, 0, none⟩) hk3.1).trans hc
        have hkm : (k + 1) * width = k * width + width := by rw [Nat.add_mul, Nat.one_mul]
        have hle : (k + 1) * width ≤ 32 := by rcases hw with rfl | rfl | rfl <;> omega
        have hadd : ((k : Int) * (width : Int)) + (width : Int) = (((k + 1) * width : Nat) : Int) := by rw [hkm]; simp
        have HA := Lib.hid hadd
        have HK := Lib.hid hkm
        have h64 : (0 : Int) ≤ (k : Int) * (width : Int) := by rw [← Int.natCast_mul]; omega
        have h65 : (k : Int) * (width : Int) ≤ 32 := by rw [← Int.natCast_mul]; omega
        clear hadd hkm hc hy hR
        gi_wp2
        go_roundw
        case rel => exact ⟨k + 1, by rw [← HA.out], hle, hc3, by rw [fr_succ]; exact hJ3⟩
        case measure => simp only [intOf]; have := HK.out; omega
      · gi_wp2
        refine bodyPost_ret (results_none rfl _ _ _) rfl ?_
        exact ⟨⟨_, rfl⟩, .inr ⟨_, trivial, hJx3⟩⟩
    · gi_wp2
      go_end0
      have hk2 : k = 32 / width := by
        rcases hw with rfl | rfl | rfl <;> omega
      subst hk2
      exact ⟨⟨_, rfl⟩, .inl ⟨_, rfl, hJs⟩⟩

/-- The closure that 'lanes' hands back, as an iterator. -/
theorem lanes1_stops (width : Nat) (hw : width = 8 ∨ width = 16 ∨ width = 32) (n : Nat) (hn : 1 ≤ n) (Bw : Nat) (w : World) (hb : Bw < w.heap.size) (hBw : w.cell? ⟨Bw, 0, none⟩ = some (iv (width : Nat))) :
    SeqStopsK Fence.wide n Tryz.prog 146 #[.pointer (some ⟨Bw, 0, none⟩)] (laneEnc width) (SameAt Bw) (fun xs => xs = fr width (32 / width)) (fun _ => True) 32 w := by
  intro l J Jx W hW hJ hJx hY h0
  exact lanes1_in width hw n hn l Bw J Jx hY W ((hW.cell (p := ⟨Bw, 0, none⟩) hb).trans hBw) h0

set_option maxHeartbeats 400000 in
theorem lanes_c (width : Int) (w : World) : Calls Tryz.prog 144 #[iv width] w fun e w' => e = .returned (.func (.func 146) #[] #[.pointer (some ⟨w.heap.size, 0, none⟩)]) ∧ w' = w.alloc (.cells #[iv width] 3) := by
  go_enter Tryz.func144, Tryz.ntmps144
  go_wp2
  go_ret
  exact ⟨rfl, rfl⟩
end Go.Proofs.YtboknfppecgjmaaGreat
