/- Call of package vbits. -/
import Derived.Test.YtboknfppecgjmaaGreatBin
namespace Go.Proofs.YtboknfppecgjmaaGreat
set_option linter.unusedVariables false
set_option linter.unusedSimpArgs false
open Go.RowKit Go.Shelf
attribute [local go_sem] U_eq_zero
/-- A slice of words reads as a list. -/
def Lists (w : World) (v : Value) (l : List (BitVec 32)) : Prop := (∃ a cap, v = .slice a 0 cap ∧ l = []) ∨ ∃ b off cap, v = .slice (some ⟨b, off, none⟩) l.length cap ∧ ∀ i x, l[i]? = some x → w.cell? ⟨b, off + i, none⟩ = some (uv x)
theorem Lists.below {w w' : World} {v : Value} {l : List (BitVec 32)} (h : Lists w v l) (hb : Below w.heap.size w w') : Lists w' v l := by
  rcases h with h | ⟨b, off, cap, hv, hc⟩
  · exact .inl h
  · refine .inr ⟨b, off, cap, hv, fun i x hi => ?_⟩
    have h1 := hc i x hi
    have hlt := block_lt_of_cell h1
    simp only at hlt
    rw [(Flow.bcell hb).1 _ _ hlt]
    exact h1
theorem ret_two {p : BitVec 32 × Int} {x : BitVec 32} {n : Int} (h : p = (x, n)) : Ending.returned (.tuple #[uv x, iv n]) = .returned (.tuple #[uv p.1, iv p.2]) := by rw [h]
set_option maxRecDepth 100000 in
set_option maxHeartbeats 4000000 in
theorem call4_c (p0 p1 p2 p3 : BitVec 32) (b off cap : Nat) (w : World) (c0 : w.cell? ⟨b, off, none⟩ = some (uv p0)) (c1 : w.cell? ⟨b, off + 1, none⟩ = some (uv p1)) (c2 : w.cell? ⟨b, off + 2, none⟩ = some (uv p2)) (c3 : w.cell? ⟨b, off + 3, none⟩ = some (uv p3)) : Calls Tryz.prog 33 #[iv 1, .slice (some ⟨b, off, none⟩) 4 cap] w fun e w' => e = .returned (.tuple #[uv (Vb.call 1 [p0, p1, p2, p3]).1, iv (Vb.call 1 [p0, p1, p2, p3]).2]) ∧ w' = w := by
  by_cases h0 : p0 = 0#32
  rotate_left
  · have hv : Vb.call 1 [p0, p1, p2, p3] = (15#32, 0) := by simp [Vb.call, h0]
    have HV := Lib.hid hv
    clear hv
    go_enter Tryz.func33, Tryz.ntmps33
    go_wp2_with fail
    refine wp_loop_rounds 6 ?_
    rw [rounds_succ]
    go_wp2_with fail
    go_ret2
    exact ⟨ret_two HV.out, rfl⟩
  by_cases h1 : p1 = 0#32
  rotate_left
  · have hv : Vb.call 1 [p0, p1, p2, p3] = (15#32, 0) := by simp [Vb.call, h0, h1]
    have HV := Lib.hid hv
    clear hv
    go_enter Tryz.func33, Tryz.ntmps33
    go_wp2_with fail
    refine wp_loop_rounds 6 ?_
    rw [rounds_succ]
    go_wp2_with fail
    rw [rounds_succ]
    go_wp2_with fail
    go_ret2
    exact ⟨ret_two HV.out, rfl⟩
  by_cases h2 : p2 = 0#32
  rotate_left
  · have hv : Vb.call 1 [p0, p1, p2, p3] = (15#32, 0) := by simp [Vb.call, h0, h1, h2]
    have HV := Lib.hid hv
    clear hv
    go_enter Tryz.func33, Tryz.ntmps33
    go_wp2_with fail
    refine wp_loop_rounds 6 ?_
    rw [rounds_succ]
    go_wp2_with fail
    rw [rounds_succ]
    go_wp2_with fail
    rw [rounds_succ]
    go_wp2_with fail
    go_ret2
    exact ⟨ret_two HV.out, rfl⟩
  by_cases h3 : p3 = 0#32
  rotate_left
  · have hv : Vb.call 1 [p0, p1, p2, p3] = (15#32, 0) := by simp [Vb.call, h0, h1, h2, h3]
    have HV := Lib.hid hv
    clear hv
    go_enter Tryz.func33, Tryz.ntmps33
    go_wp2_with fail
    refine wp_loop_rounds 6 ?_
    rw [rounds_succ]
    go_wp2_with fail
    rw [rounds_succ]
    go_wp2_with fail
    rw [rounds_succ]
    go_wp2_with fail
    rw [rounds_succ]
    go_wp2_with fail
    go_ret2
    exact ⟨ret_two HV.out, rfl⟩
  · have hv : Vb.call 1 [p0, p1, p2, p3] = (0#32, 0) := by simp [Vb.call, h0, h1, h2, h3]
    have HV := Lib.hid hv
    clear hv
    go_enter Tryz.func33, Tryz.ntmps33
    go_wp2_with fail
    refine wp_loop_rounds 6 ?_
    rw [rounds_succ]
    go_wp2_with fail
    rw [rounds_succ]
    go_wp2_with fail
    rw [rounds_succ]
    go_wp2_with fail
    rw [rounds_succ]
    go_wp2_with fail
    rw [rounds_succ]
    go_wp2_with fail
    go_ret2
    exact ⟨ret_two HV.out, rfl⟩
set_option maxRecDepth 100000 in
set_option maxHeartbeats 4000000 in
theorem call5_c (p0 p1 p2 p3 p4 : BitVec 32) (b off cap : Nat) (w : World) (c0 : w.cell? ⟨b, off, none⟩ = some (uv p0)) (c1 : w.cell? ⟨b, off + 1, none⟩ = some (uv p1)) (c2 : w.cell? ⟨b, off + 2, none⟩ = some (uv p2)) (c3 : w.cell? ⟨b, off + 3, none⟩ = some (uv p3)) (c4 : w.cell? ⟨b, off + 4, none⟩ = some (uv p4)) : Calls Tryz.prog 33 #[iv 2, .slice (some ⟨b, off, none⟩) 5 cap] w fun e w' => e = .returned (.tuple #[uv (Vb.call 2 [p0, p1, p2, p3, p4]).1, iv (Vb.call 2 [p0, p1, p2, p3, p4]).2]) ∧ w' = w := by
  by_cases h0 : p0 = 0#32
  rotate_left
  · have hv : Vb.call 2 [p0, p1, p2, p3, p4] = (1#32, 0) := by simp [Vb.call, h0]
    have HV := Lib.hid hv
    clear hv
    go_enter Tryz.func33, Tryz.ntmps33
    go_wp2_with fail
    refine wp_loop_rounds 6 ?_
    rw [rounds_succ]
    go_wp2_with fail
    go_ret2
    exact ⟨ret_two HV.out, rfl⟩
  by_cases h1 : p1 = 0#32
  rotate_left
  · have hv : Vb.call 2 [p0, p1, p2, p3, p4] = (1#32, 0) := by simp [Vb.call, h0, h1]
    have HV := Lib.hid hv
    clear hv
    go_enter Tryz.func33, Tryz.ntmps33
    go_wp2_with fail
    refine wp_loop_rounds 6 ?_
    rw [rounds_succ]
    go_wp2_with fail
    rw [rounds_succ]
    go_wp2_with fail
    go_ret2
    exact ⟨ret_two HV.out, rfl⟩
  by_cases h2 : p2 = 0#32
  rotate_left
  · have hv : Vb.call 2 [p0, p1, p2, p3, p4] = (1#32, 0) := by simp [Vb.call, h0, h1, h2]
    have HV := Lib.hid hv
    clear hv
    go_enter Tryz.func33, Tryz.ntmps33
    go_wp2_with fail
    refine wp_loop_rounds 6 ?_
    rw [rounds_succ]
    go_wp2_with fail
    rw [rounds_succ]
    go_wp2_with fail
    rw [rounds_succ]
    go_wp2_with fail
    go_ret2
    exact ⟨ret_two HV.out, rfl⟩
  by_cases h3 : p3 = 0#32
  rotate_left
  · have hv : Vb.call 2 [p0, p1, p2, p3, p4] = (1#32, 0) := by simp [Vb.call, h0, h1, h2, h3]
    have HV := Lib.hid hv
    clear hv
    go_enter Tryz.func33, Tryz.ntmps33
    go_wp2_with fail
    refine wp_loop_rounds 6 ?_
    rw [rounds_succ]
    go_wp2_with fail
    rw [rounds_succ]
    go_wp2_with fail
    rw [rounds_succ]
    go_wp2_with fail
    rw [rounds_succ]
    go_wp2_with fail
    go_ret2
    exact ⟨ret_two HV.out, rfl⟩
  by_cases h4 : p4 = 0#32
  rotate_left
  · have hv : Vb.call 2 [p0, p1, p2, p3, p4] = (1#32, 0) := by simp [Vb.call, h0, h1, h2, h3, h4]
    have HV := Lib.hid hv
    clear hv
    go_enter Tryz.func33, Tryz.ntmps33
    go_wp2_with fail
    refine wp_loop_rounds 6 ?_
    rw [rounds_succ]
    go_wp2_with fail
    rw [rounds_succ]
    go_wp2_with fail
    rw [rounds_succ]
    go_wp2_with fail
    rw [rounds_succ]
    go_wp2_with fail
    rw [rounds_succ]
    go_wp2_with fail
    go_ret2
    exact ⟨ret_two HV.out, rfl⟩
  · have hv : Vb.call 2 [p0, p1, p2, p3, p4] = (0#32, 0) := by simp [Vb.call, h0, h1, h2, h3, h4]
    have HV := Lib.hid hv
    clear hv
    go_enter Tryz.func33, Tryz.ntmps33
    go_wp2_with fail
    refine wp_loop_rounds 6 ?_
    rw [rounds_succ]
    go_wp2_with fail
    rw [rounds_succ]
    go_wp2_with fail
    rw [rounds_succ]
    go_wp2_with fail
    rw [rounds_succ]
    go_wp2_with fail
    rw [rounds_succ]
    go_wp2_with fail
    rw [rounds_succ]
    go_wp2_with fail
    go_ret2
    exact ⟨ret_two HV.out, rfl⟩
set_option maxHeartbeats 4000000 in
theorem callno_c (op : Int) (a : Option Addr) (n cap : Nat) (hn : n ≤ maxLen) (h1 : ¬ (op = 1 ∧ n = 4)) (h2 : ¬ (op = 2 ∧ n = 5)) (w : World) :
    Calls Tryz.prog 33 #[iv op, .slice a n cap] w fun e w' => e = .returned (.tuple #[uv 0#32, iv 1]) ∧ w' = w := by
  unfold maxLen at hn
  by_cases e1 : op = 1
  · subst e1
    have k1 : ((n : Int) == 4) = false := by simp at h1; simp; omega
    have k2 : ((n : Int) != 4) = true := by simp at h1; simp; omega
    clear h1 h2
    go_enter Tryz.func33, Tryz.ntmps33
    go_wp2_with fail
    go_ret2
    exact ⟨rfl, rfl⟩
  · have k0 : (op == 1) = false := by simp [e1]
    by_cases e2 : op = 2
    · subst e2
      have k1 : ((n : Int) == 5) = false := by simp at h2; simp; omega
      have k2 : ((n : Int) != 5) = true := by simp at h2; simp; omega
      clear h1 h2 e1 k0
      go_enter Tryz.func33, Tryz.ntmps33
      go_wp2_with fail
      go_ret2
      exact ⟨rfl, rfl⟩
    · have k1 : (op == 2) = false := by simp [e2]
      clear h1 h2 e1 e2
      go_enter Tryz.func33, Tryz.ntmps33
      go_wp2_with fail
      go_ret2
      exact ⟨rfl, rfl⟩
theorem call_no {op : Int} {s : List (BitVec 32)} (h1 : ¬ (op = 1 ∧ s.length = 4)) (h2 : ¬ (op = 2 ∧ s.length = 5)) : Vb.call op s = (0#32, 1) := by
  unfold Vb.call; rw [if_neg h1, if_neg h2]; rfl
theorem call_c (op : Int) (v : Value) (l : List (BitVec 32)) (w : World) (h : Lists w v l) (hl : l.length ≤ maxLen) :
    Calls Tryz.prog 33 #[iv op, v] w fun e w' => e = .returned (.tuple #[uv (Vb.call op l).1, iv (Vb.call op l).2]) ∧ w' = w := by
  rcases h with ⟨a, cap, rfl, rfl⟩ | ⟨b, off, cap, rfl, hc⟩
  · rw [call_no (by simp) (by simp)]
    exact callno_c op a 0 cap (by simp) (by simp) (by simp) w
  · by_cases h1 : op = 1 ∧ l.length = 4
    · obtain ⟨rfl, hn⟩ := h1
      match l, hn with
      | [p0, p1, p2, p3], _ => exact call4_c p0 p1 p2 p3 b off cap w (hc 0 _ rfl) (hc 1 _ rfl) (hc 2 _ rfl) (hc 3 _ rfl)
    · by_cases h2 : op = 2 ∧ l.length = 5
      · obtain ⟨rfl, hn⟩ := h2
        match l, hn with
        | [p0, p1, p2, p3, p4], _ => exact call5_c p0 p1 p2 p3 p4 b off cap w (hc 0 _ rfl) (hc 1 _ rfl) (hc 2 _ rfl) (hc 3 _ rfl) (hc 4 _ rfl)
      · rw [call_no h1 h2]
        exact callno_c op _ l.length cap hl h1 h2 w
end Go.Proofs.YtboknfppecgjmaaGreat
