/- Bin: the rule that the table names. -/
import Derived.Test.YtboknfppecgjmaaGreatUn
import Derived.Test.YtboknfppecgjmaaGreatFlowC
namespace Go.Proofs.YtboknfppecgjmaaGreat
set_option linter.unusedVariables false
set_option linter.unusedSimpArgs false
open Go.RowKit Go.Shelf
/-- The lanes' cells that the table's closures point at. -/
structure BiCells (B : Nat) (w : World) : Prop where
  wid : ∀ i (h : i < biLanes.length), w.cell? ⟨B + 2 * i, 0, none⟩ = some (iv biLanes[i].1)
  fn : ∀ i (h : i < biLanes.length), w.cell? ⟨B + 2 * i + 1, 0, none⟩ = some (.func (.func biLanes[i].2) #[] #[])
set_option maxHeartbeats 4000000 in
/-- What the table holds at an operation's number. -/
theorem bi_rule (o : Vb.Binary) (h : 1 ≤ o.op ∧ o.op ≤ 30) (ho : o.op = 30 → 0 ≤ o.off ∧ o.off ≤ 3) (B : Nat) : ∃ g caps, (∀ w, (Instr.index 81 (.agg (biTable B)) (iv o.op)).run Tryz.prog w = .ok (.func (.func g) #[] caps) w) ∧ (∀ args w, (callFunc g args).run Tryz.prog w = .ok (.enter g args) w) ∧
    ∀ w, BiCells B w → Calls Tryz.prog g (#[bnv o] ++ caps) w fun e w' => e = .returned (vv (Vb.binOp o)) ∧ Below w.heap.size w w' := by
  obtain ⟨op, ty, off, x, a, y, b⟩ := o
  simp only at h ho
  have hcs : op = 1 ∨ op = 2 ∨ op = 3 ∨ op = 4 ∨ op = 5 ∨ op = 6 ∨ op = 7 ∨ op = 8 ∨ op = 9 ∨ op = 10 ∨ op = 11 ∨ op = 12 ∨ op = 13 ∨ op = 14 ∨ op = 15 ∨ op = 16 ∨ op = 17 ∨ op = 18 ∨ op = 19 ∨ op = 20 ∨ op = 21 ∨ op = 22 ∨ op = 23 ∨ op = 24 ∨ op = 25 ∨ op = 26 ∨ op = 27 ∨ op = 28 ∨ op = 29 ∨ op = 30 := by omega
  rcases hcs with rfl | rfl | rfl | rfl | rfl | rfl | rfl | rfl | rfl | rfl | rfl | rfl | rfl | rfl | rfl | rfl | rfl | rfl | rfl | rfl | rfl | rfl | rfl | rfl | rfl | rfl | rfl | rfl | rfl | rfl
  · exact ⟨137, #[.pointer (some ⟨B + 0, 0, none⟩), .pointer (some ⟨B + 0 + 1, 0, none⟩)], fun w => by kernel_rfl, enters_of Tryz.func137 (by kernel_rfl) rfl, fun w hc => by show Calls _ _ #[_, _, _] _ _; exact bi_lane1_c _ 32 (.inr (.inr rfl)) 98 Vb.added (enters_of Tryz.func98 (by kernel_rfl) rfl) added_c (B + 0) (B + 0 + 1) w (hc.wid 0 (by decide)) (hc.fn 0 (by decide))⟩
  · exact ⟨137, #[.pointer (some ⟨B + 2, 0, none⟩), .pointer (some ⟨B + 2 + 1, 0, none⟩)], fun w => by kernel_rfl, enters_of Tryz.func137 (by kernel_rfl) rfl, fun w hc => by show Calls _ _ #[_, _, _] _ _; exact bi_lane1_c _ 32 (.inr (.inr rfl)) 99 Vb.subtracted (enters_of Tryz.func99 (by kernel_rfl) rfl) subtracted_c (B + 2) (B + 2 + 1) w (hc.wid 1 (by decide)) (hc.fn 1 (by decide))⟩
  · exact ⟨_, #[], fun w => by kernel_rfl, enters_of Tryz.func100 (by kernel_rfl) rfl, fun w _ => bi_mul_c _ w⟩
  · exact ⟨_, #[], fun w => by kernel_rfl, enters_of Tryz.func101 (by kernel_rfl) rfl, fun w _ => bi_any_c _ w⟩
  · exact ⟨_, #[], fun w => by kernel_rfl, enters_of Tryz.func101 (by kernel_rfl) rfl, fun w _ => bi_any_c _ w⟩
  · exact ⟨_, #[], fun w => by kernel_rfl, enters_of Tryz.func101 (by kernel_rfl) rfl, fun w _ => bi_any_c _ w⟩
  · exact ⟨_, #[], fun w => by kernel_rfl, enters_of Tryz.func101 (by kernel_rfl) rfl, fun w _ => bi_any_c _ w⟩
  · exact ⟨_, #[], fun w => by kernel_rfl, enters_of Tryz.func102 (by kernel_rfl) rfl, fun w _ => bi_and_c _ w⟩
  · exact ⟨_, #[], fun w => by kernel_rfl, enters_of Tryz.func103 (by kernel_rfl) rfl, fun w _ => bi_or_c _ w⟩
  · exact ⟨_, #[], fun w => by kernel_rfl, enters_of Tryz.func104 (by kernel_rfl) rfl, fun w _ => bi_xor_c _ w⟩
  · exact ⟨_, #[], fun w => by kernel_rfl, enters_of Tryz.func105 (by kernel_rfl) rfl, fun w _ => bi_shift_c _ w⟩
  · exact ⟨_, #[], fun w => by kernel_rfl, enters_of Tryz.func105 (by kernel_rfl) rfl, fun w _ => bi_shift_c _ w⟩
  · exact ⟨_, #[], fun w => by kernel_rfl, enters_of Tryz.func105 (by kernel_rfl) rfl, fun w _ => bi_shift_c _ w⟩
  · exact ⟨_, #[], fun w => by kernel_rfl, enters_of Tryz.func106 (by kernel_rfl) rfl, fun w _ => bi_same_c _ w⟩
  · exact ⟨_, #[], fun w => by kernel_rfl, enters_of Tryz.func106 (by kernel_rfl) rfl, fun w _ => bi_same_c _ w⟩
  · exact ⟨_, #[], fun w => by kernel_rfl, enters_of Tryz.func107 (by kernel_rfl) rfl, fun w _ => bi_less_c _ w⟩
  · exact ⟨_, #[], fun w => by kernel_rfl, enters_of Tryz.func107 (by kernel_rfl) rfl, fun w _ => bi_less_c _ w⟩
  · exact ⟨_, #[], fun w => by kernel_rfl, enters_of Tryz.func107 (by kernel_rfl) rfl, fun w _ => bi_less_c _ w⟩
  · exact ⟨_, #[], fun w => by kernel_rfl, enters_of Tryz.func107 (by kernel_rfl) rfl, fun w _ => bi_less_c _ w⟩
  · exact ⟨137, #[.pointer (some ⟨B + 4, 0, none⟩), .pointer (some ⟨B + 4 + 1, 0, none⟩)], fun w => by kernel_rfl, enters_of Tryz.func137 (by kernel_rfl) rfl, fun w hc => by show Calls _ _ #[_, _, _] _ _; exact bi_lane1_c _ 8 (.inl rfl) 98 Vb.added (enters_of Tryz.func98 (by kernel_rfl) rfl) added_c (B + 4) (B + 4 + 1) w (hc.wid 2 (by decide)) (hc.fn 2 (by decide))⟩
  · exact ⟨137, #[.pointer (some ⟨B + 6, 0, none⟩), .pointer (some ⟨B + 6 + 1, 0, none⟩)], fun w => by kernel_rfl, enters_of Tryz.func137 (by kernel_rfl) rfl, fun w hc => by show Calls _ _ #[_, _, _] _ _; exact bi_lane1_c _ 16 (.inr (.inl rfl)) 98 Vb.added (enters_of Tryz.func98 (by kernel_rfl) rfl) added_c (B + 6) (B + 6 + 1) w (hc.wid 3 (by decide)) (hc.fn 3 (by decide))⟩
  · exact ⟨137, #[.pointer (some ⟨B + 8, 0, none⟩), .pointer (some ⟨B + 8 + 1, 0, none⟩)], fun w => by kernel_rfl, enters_of Tryz.func137 (by kernel_rfl) rfl, fun w hc => by show Calls _ _ #[_, _, _] _ _; exact bi_lane1_c _ 32 (.inr (.inr rfl)) 98 Vb.added (enters_of Tryz.func98 (by kernel_rfl) rfl) added_c (B + 8) (B + 8 + 1) w (hc.wid 4 (by decide)) (hc.fn 4 (by decide))⟩
  · exact ⟨137, #[.pointer (some ⟨B + 10, 0, none⟩), .pointer (some ⟨B + 10 + 1, 0, none⟩)], fun w => by kernel_rfl, enters_of Tryz.func137 (by kernel_rfl) rfl, fun w hc => by show Calls _ _ #[_, _, _] _ _; exact bi_lane1_c _ 8 (.inl rfl) 99 Vb.subtracted (enters_of Tryz.func99 (by kernel_rfl) rfl) subtracted_c (B + 10) (B + 10 + 1) w (hc.wid 5 (by decide)) (hc.fn 5 (by decide))⟩
  · exact ⟨137, #[.pointer (some ⟨B + 12, 0, none⟩), .pointer (some ⟨B + 12 + 1, 0, none⟩)], fun w => by kernel_rfl, enters_of Tryz.func137 (by kernel_rfl) rfl, fun w hc => by show Calls _ _ #[_, _, _] _ _; exact bi_lane1_c _ 16 (.inr (.inl rfl)) 99 Vb.subtracted (enters_of Tryz.func99 (by kernel_rfl) rfl) subtracted_c (B + 12) (B + 12 + 1) w (hc.wid 6 (by decide)) (hc.fn 6 (by decide))⟩
  · exact ⟨137, #[.pointer (some ⟨B + 14, 0, none⟩), .pointer (some ⟨B + 14 + 1, 0, none⟩)], fun w => by kernel_rfl, enters_of Tryz.func137 (by kernel_rfl) rfl, fun w hc => by show Calls _ _ #[_, _, _] _ _; exact bi_lane1_c _ 32 (.inr (.inr rfl)) 99 Vb.subtracted (enters_of Tryz.func99 (by kernel_rfl) rfl) subtracted_c (B + 14) (B + 14 + 1) w (hc.wid 7 (by decide)) (hc.fn 7 (by decide))⟩
  · exact ⟨137, #[.pointer (some ⟨B + 16, 0, none⟩), .pointer (some ⟨B + 16 + 1, 0, none⟩)], fun w => by kernel_rfl, enters_of Tryz.func137 (by kernel_rfl) rfl, fun w hc => by show Calls _ _ #[_, _, _] _ _; exact bi_lane1_c _ 8 (.inl rfl) 108 Vb.equal (enters_of Tryz.func108 (by kernel_rfl) rfl) equal_c (B + 16) (B + 16 + 1) w (hc.wid 8 (by decide)) (hc.fn 8 (by decide))⟩
  · exact ⟨137, #[.pointer (some ⟨B + 18, 0, none⟩), .pointer (some ⟨B + 18 + 1, 0, none⟩)], fun w => by kernel_rfl, enters_of Tryz.func137 (by kernel_rfl) rfl, fun w hc => by show Calls _ _ #[_, _, _] _ _; exact bi_lane1_c _ 16 (.inr (.inl rfl)) 108 Vb.equal (enters_of Tryz.func108 (by kernel_rfl) rfl) equal_c (B + 18) (B + 18 + 1) w (hc.wid 9 (by decide)) (hc.fn 9 (by decide))⟩
  · exact ⟨137, #[.pointer (some ⟨B + 20, 0, none⟩), .pointer (some ⟨B + 20 + 1, 0, none⟩)], fun w => by kernel_rfl, enters_of Tryz.func137 (by kernel_rfl) rfl, fun w hc => by show Calls _ _ #[_, _, _] _ _; exact bi_lane1_c _ 32 (.inr (.inr rfl)) 108 Vb.equal (enters_of Tryz.func108 (by kernel_rfl) rfl) equal_c (B + 20) (B + 20 + 1) w (hc.wid 10 (by decide)) (hc.fn 10 (by decide))⟩
  · exact ⟨_, #[], fun w => by kernel_rfl, enters_of Tryz.func109 (by kernel_rfl) rfl, fun w _ => bi_shuf_c _ w⟩
  · exact ⟨_, #[], fun w => by kernel_rfl, enters_of Tryz.func110 (by kernel_rfl) rfl, fun w _ => bi_put_c _ (ho rfl).1 (ho rfl).2 w⟩
theorem second_range {op ty off : Int} (h : Vb.second op ty off ≠ 0) : 1 ≤ op ∧ op ≤ 30 := by
  unfold Vb.second at h
  simp only at h
  split at h
  · rename_i hc; omega
  · split at h
    · exact absurd rfl h
    · split at h
      · rename_i hc
        simp only [Bool.or_eq_true, Bool.and_eq_true, decide_eq_true_eq, beq_iff_eq] at hc
        omega
      · exact absurd rfl h
theorem second_off {ty off : Int} (h : Vb.second 30 ty off ≠ 0) : 0 ≤ off ∧ off ≤ 3 := by
  unfold Vb.second at h
  simp only at h
  split at h
  · rename_i hc; omega
  · split at h
    · exact absurd rfl h
    · omega
set_option maxHeartbeats 4000000 in
theorem bin_c (op ty off : Int) (x a y b : V) (w : World) : Calls Tryz.prog 21 #[iv op, iv ty, iv off, vv x, vv a, vv y, vv b] w fun e w' => e = .returned (.tuple #[vv (Vb.bin op ty off x a y b).1, iv (Vb.bin op ty off x a y b).2]) ∧ Below w.heap.size w w' := by
  by_cases h1 : Vb.second op ty off = 0
  · have hv : Vb.bin op ty off x a y b = (V.zero, 1) := by simp [Vb.bin, h1]
    have HV := Lib.hid hv
    clear hv
    go_enter Tryz.func21, Tryz.ntmps21
    go_wp2_with (first | (go_at_call 41; refine (is_c _ _ _).mono ?_; rintro e w1 ⟨rfl, hb⟩; obtain ⟨hc, hf⟩ := Flow.bcell hb; have hz := hb.size; (try simp only [World.size_alloc, World.size_setCell, World.size_drew] at hz); obtain ⟨z0, z1, z2, z3, z4⟩ := Flow.zs5 (show w.heap.size + 5 ≤ w1.heap.size by omega)) | (go_at_call 51; refine (second_c _ _ _ _).mono ?_; rintro e w1 ⟨rfl, hb⟩; obtain ⟨hc, hf⟩ := Flow.bcell hb; have hz := hb.size; (try simp only [World.size_alloc, World.size_setCell, World.size_drew] at hz); obtain ⟨z0, z1, z2, z3, z4⟩ := Flow.zs5 (show w.heap.size + 5 ≤ w1.heap.size by omega)))
    all_goals (refine Flow.bodyPost_k rfl (fun K hK => ?_); simp only [results, Tryz.results21]; go_simp; refine hK _ ⟨?_, ?_⟩)
    · exact ret_pair HV.out
    · (repeat (first | exact Below.refl _ _ | refine Below.setCell ?_ (by first | omega | (simp <;> omega)) _ | refine Below.alloc ?_ (by first | omega | (simp <;> omega)) _ | refine Below.drew ?_ | refine Below.trans ?_ (Below.mono (by assumption) (by first | omega | (simp <;> omega)))))
  cases h2 : Vb.is ty x
  · have hv : Vb.bin op ty off x a y b = (V.zero, 1) := by simp [Vb.bin, h2]
    have HV := Lib.hid hv
    clear hv
    go_enter Tryz.func21, Tryz.ntmps21
    go_wp2_with (first | (go_at_call 41; refine (is_c _ _ _).mono ?_; rintro e w1 ⟨rfl, hb⟩; obtain ⟨hc, hf⟩ := Flow.bcell hb; have hz := hb.size; (try simp only [World.size_alloc, World.size_setCell, World.size_drew] at hz); obtain ⟨z0, z1, z2, z3, z4⟩ := Flow.zs5 (show w.heap.size + 5 ≤ w1.heap.size by omega)) | (go_at_call 51; refine (second_c _ _ _ _).mono ?_; rintro e w1 ⟨rfl, hb⟩; obtain ⟨hc, hf⟩ := Flow.bcell hb; have hz := hb.size; (try simp only [World.size_alloc, World.size_setCell, World.size_drew] at hz); obtain ⟨z0, z1, z2, z3, z4⟩ := Flow.zs5 (show w.heap.size + 5 ≤ w1.heap.size by omega)))
    all_goals (refine Flow.bodyPost_k rfl (fun K hK => ?_); simp only [results, Tryz.results21]; go_simp; refine hK _ ⟨?_, ?_⟩)
    · exact ret_pair HV.out
    · (repeat (first | exact Below.refl _ _ | refine Below.setCell ?_ (by first | omega | (simp <;> omega)) _ | refine Below.alloc ?_ (by first | omega | (simp <;> omega)) _ | refine Below.drew ?_ | refine Below.trans ?_ (Below.mono (by assumption) (by first | omega | (simp <;> omega)))))
  cases h3 : Vb.is ty a
  · have hv : Vb.bin op ty off x a y b = (V.zero, 1) := by simp [Vb.bin, h3]
    have HV := Lib.hid hv
    clear hv
    go_enter Tryz.func21, Tryz.ntmps21
    go_wp2_with (first | (go_at_call 41; refine (is_c _ _ _).mono ?_; rintro e w1 ⟨rfl, hb⟩; obtain ⟨hc, hf⟩ := Flow.bcell hb; have hz := hb.size; (try simp only [World.size_alloc, World.size_setCell, World.size_drew] at hz); obtain ⟨z0, z1, z2, z3, z4⟩ := Flow.zs5 (show w.heap.size + 5 ≤ w1.heap.size by omega)) | (go_at_call 51; refine (second_c _ _ _ _).mono ?_; rintro e w1 ⟨rfl, hb⟩; obtain ⟨hc, hf⟩ := Flow.bcell hb; have hz := hb.size; (try simp only [World.size_alloc, World.size_setCell, World.size_drew] at hz); obtain ⟨z0, z1, z2, z3, z4⟩ := Flow.zs5 (show w.heap.size + 5 ≤ w1.heap.size by omega)))
    all_goals (refine Flow.bodyPost_k rfl (fun K hK => ?_); simp only [results, Tryz.results21]; go_simp; refine hK _ ⟨?_, ?_⟩)
    · exact ret_pair HV.out
    · (repeat (first | exact Below.refl _ _ | refine Below.setCell ?_ (by first | omega | (simp <;> omega)) _ | refine Below.alloc ?_ (by first | omega | (simp <;> omega)) _ | refine Below.drew ?_ | refine Below.trans ?_ (Below.mono (by assumption) (by first | omega | (simp <;> omega)))))
  cases h4 : Vb.is (Vb.second op ty off) y
  · have hv : Vb.bin op ty off x a y b = (V.zero, 1) := by simp [Vb.bin, h4]
    have HV := Lib.hid hv
    clear hv
    go_enter Tryz.func21, Tryz.ntmps21
    go_wp2_with (first | (go_at_call 41; refine (is_c _ _ _).mono ?_; rintro e w1 ⟨rfl, hb⟩; obtain ⟨hc, hf⟩ := Flow.bcell hb; have hz := hb.size; (try simp only [World.size_alloc, World.size_setCell, World.size_drew] at hz); obtain ⟨z0, z1, z2, z3, z4⟩ := Flow.zs5 (show w.heap.size + 5 ≤ w1.heap.size by omega)) | (go_at_call 51; refine (second_c _ _ _ _).mono ?_; rintro e w1 ⟨rfl, hb⟩; obtain ⟨hc, hf⟩ := Flow.bcell hb; have hz := hb.size; (try simp only [World.size_alloc, World.size_setCell, World.size_drew] at hz); obtain ⟨z0, z1, z2, z3, z4⟩ := Flow.zs5 (show w.heap.size + 5 ≤ w1.heap.size by omega)))
    all_goals (refine Flow.bodyPost_k rfl (fun K hK => ?_); simp only [results, Tryz.results21]; go_simp; refine hK _ ⟨?_, ?_⟩)
    · exact ret_pair HV.out
    · (repeat (first | exact Below.refl _ _ | refine Below.setCell ?_ (by first | omega | (simp <;> omega)) _ | refine Below.alloc ?_ (by first | omega | (simp <;> omega)) _ | refine Below.drew ?_ | refine Below.trans ?_ (Below.mono (by assumption) (by first | omega | (simp <;> omega)))))
  cases h5 : Vb.is (Vb.second op ty off) b
  · have hv : Vb.bin op ty off x a y b = (V.zero, 1) := by simp [Vb.bin, h5]
    have HV := Lib.hid hv
    clear hv
    go_enter Tryz.func21, Tryz.ntmps21
    go_wp2_with (first | (go_at_call 41; refine (is_c _ _ _).mono ?_; rintro e w1 ⟨rfl, hb⟩; obtain ⟨hc, hf⟩ := Flow.bcell hb; have hz := hb.size; (try simp only [World.size_alloc, World.size_setCell, World.size_drew] at hz); obtain ⟨z0, z1, z2, z3, z4⟩ := Flow.zs5 (show w.heap.size + 5 ≤ w1.heap.size by omega)) | (go_at_call 51; refine (second_c _ _ _ _).mono ?_; rintro e w1 ⟨rfl, hb⟩; obtain ⟨hc, hf⟩ := Flow.bcell hb; have hz := hb.size; (try simp only [World.size_alloc, World.size_setCell, World.size_drew] at hz); obtain ⟨z0, z1, z2, z3, z4⟩ := Flow.zs5 (show w.heap.size + 5 ≤ w1.heap.size by omega)))
    all_goals (refine Flow.bodyPost_k rfl (fun K hK => ?_); simp only [results, Tryz.results21]; go_simp; refine hK _ ⟨?_, ?_⟩)
    · exact ret_pair HV.out
    · (repeat (first | exact Below.refl _ _ | refine Below.setCell ?_ (by first | omega | (simp <;> omega)) _ | refine Below.alloc ?_ (by first | omega | (simp <;> omega)) _ | refine Below.drew ?_ | refine Below.trans ?_ (Below.mono (by assumption) (by first | omega | (simp <;> omega)))))
  have hv : Vb.bin op ty off x a y b = (Vb.binOp ⟨op, ty, off, x, a, y, b⟩, 0) := by simp [Vb.bin, h1, h2, h3, h4, h5]
  have hop := second_range h1
  have hoff : op = 30 → 0 ≤ off ∧ off ≤ 3 := fun h => second_off (h ▸ h1)
  have HV := Lib.hid hv
  have HOP := Lib.hid hop
  have HOFF := Lib.hid hoff
  clear hv hop hoff
  go_enter Tryz.func21, Tryz.ntmps21
  go_wp2_with (first | (go_at_call 41; refine (is_c _ _ _).mono ?_; rintro e w1 ⟨rfl, hb⟩; obtain ⟨hc, hf⟩ := Flow.bcell hb; have hz := hb.size; (try simp only [World.size_alloc, World.size_setCell, World.size_drew] at hz); obtain ⟨z0, z1, z2, z3, z4⟩ := Flow.zs5 (show w.heap.size + 5 ≤ w1.heap.size by omega)) | (go_at_call 51; refine (second_c _ _ _ _).mono ?_; rintro e w1 ⟨rfl, hb⟩; obtain ⟨hc, hf⟩ := Flow.bcell hb; have hz := hb.size; (try simp only [World.size_alloc, World.size_setCell, World.size_drew] at hz); obtain ⟨z0, z1, z2, z3, z4⟩ := Flow.zs5 (show w.heap.size + 5 ≤ w1.heap.size by omega)))
  rename_i hne _ _
  obtain ⟨g, caps, hix, hcf, hcg⟩ := bi_rule ⟨op, ty, off, x, a, y, b⟩ HOP.out HOFF.out (w1.heap.size + 1)
  have HG := Lib.hid hcg
  clear hcg
  refine FlowC.wp_region_call (fun w' => Below w1.heap.size w1 w' ∧ BiCells (w1.heap.size + 1) w') (fun w' h => h.1) 11 (by omega) (by kernel_rfl) (by kernel_rfl) (fun R hRc hR0 hR1 => ?_)
  simp only [List.take_succ_cons, List.take_zero, List.drop_succ_cons, List.drop_zero]
  apply FlowC.flow_first (.agg (biTable (w1.heap.size + 1)))
  · rfl
  · intro w2 hw2
    have e := hR0.out w2 hw2
    subst e
    go_simp
    refine (binaries_c _).mono ?_
    rintro e w3 ⟨rfl, hb, hw, hf⟩
    exact ⟨_, rfl, rfl, hR1.out _ ⟨⟨hb.os, hb.tape, hb.output, hb.size, hb.block⟩, ⟨hw, hf⟩⟩⟩
  simp only [Act.put, List.setIfInBounds_toArray, List.set_cons_zero, List.set_cons_succ]
  iterate 10
    apply FlowC.flow_step
    · rfl
    · intro bb w2 hw2
      have hc := hRc.out bb w2 hw2
      go_simp
      with_reducible exact ⟨rfl, hw2⟩
    simp only [Act.put, List.setIfInBounds_toArray, List.set_cons_zero, List.set_cons_succ]
  apply FlowC.flow_nil
  clear hRc hR0 hR1
  rintro w2 ⟨hb2, hbc⟩
  obtain ⟨hc, hf⟩ := Flow.bcell hb2
  have hz := hb2.size
  obtain ⟨z0, z1, z2, z3, z4⟩ := Flow.zs5 (show w.heap.size + 5 ≤ w2.heap.size by omega)
  have HBC := Lib.hid hbc
  clear hbc
  go_wp2_with (refine (HG.out _ HBC.out).mono ?_; rintro e w3 ⟨rfl, hb⟩; obtain ⟨hc3, hf3⟩ := Flow.bcell hb; have hz3 := hb.size; obtain ⟨z0, z1, z2, z3, z4⟩ := Flow.zs5 (show w.heap.size + 5 ≤ w3.heap.size by omega))
  refine Flow.bodyPost_k rfl (fun K hK => ?_)
  simp only [results, Tryz.results21]
  go_simp
  refine hK _ ⟨?_, ?_⟩
  · exact ret_pair HV.out
  · (repeat (first | exact Below.refl _ _ | refine Below.setCell ?_ (by first | omega | (simp <;> omega)) _ | refine Below.alloc ?_ (by first | omega | (simp <;> omega)) _ | refine Below.drew ?_ | refine Below.trans ?_ (Below.mono (by assumption) (by first | omega | (simp <;> omega)))))
end Go.Proofs.YtboknfppecgjmaaGreat
