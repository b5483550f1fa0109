/- Un: the rule that the table names. -/
import Derived.Test.YtboknfppecgjmaaGreatBiTable
import Derived.Test.YtboknfppecgjmaaGreatKinds
namespace Go.Proofs.YtboknfppecgjmaaGreat
set_option linter.unusedVariables false
set_option linter.unusedSimpArgs false
open Go.RowKit Go.Shelf
theorem isUn_range {op from_ to off : Int} (h : Vb.isUn op from_ to off = true) : 1 ≤ op ∧ op ≤ 13 := by
  unfold Vb.isUn at h
  simp only at h
  split at h
  · cases h
  · repeat' (split at h)
    all_goals first | omega | (cases h; done)
theorem isUn_off {from_ to off : Int} (h : Vb.isUn 12 from_ to off = true) : 0 ≤ off ∧ off ≤ 3 := by
  by_cases h0 : off = 0
  · omega
  · by_cases h1 : off < 0
    · simp [Vb.isUn, h0, h1] at h
    · by_cases h2 : 3 < off
      · simp [Vb.isUn, h0, h2] at h
      · omega
/-- What the table holds at an operation's number. -/
theorem un_rule (u : Vb.Unary) (op : Int) (h : 1 ≤ op ∧ op ≤ 13) (ho : op = 12 → 0 ≤ u.off ∧ u.off ≤ 3) : ∃ g, (∀ w, (Instr.index 71 (.agg unTable) (iv op)).run Tryz.prog w = .ok (.func (.func g) #[] #[]) w) ∧ (∀ args w, (callFunc g args).run Tryz.prog w = .ok (.enter g args) w) ∧
    ∀ w, Calls Tryz.prog g #[unv u] w fun e w' => e = .returned (vv (Vb.unOp op u)) ∧ Below w.heap.size w w' := by
  have hcs : op = 1 ∨ op = 2 ∨ op = 3 ∨ op = 4 ∨ op = 5 ∨ op = 6 ∨ op = 7 ∨ op = 8 ∨ op = 9 ∨ op = 10 ∨ op = 11 ∨ op = 12 ∨ op = 13 := by omega
  rcases hcs with rfl | rfl | rfl | rfl | rfl | rfl | rfl | rfl | rfl | rfl | rfl | rfl | rfl
  · exact ⟨_, fun w => by kernel_rfl, enters_of Tryz.func82 (by kernel_rfl) rfl, fun w => un_not_c u w⟩
  · exact ⟨_, fun w => by kernel_rfl, enters_of Tryz.func83 (by kernel_rfl) rfl, fun w => un_same_c u w⟩
  · exact ⟨_, fun w => by kernel_rfl, enters_of Tryz.func84 (by kernel_rfl) rfl, fun w => un_sext_c u w⟩
  · exact ⟨_, fun w => by kernel_rfl, enters_of Tryz.func83 (by kernel_rfl) rfl, fun w => un_same_c u w⟩
  · exact ⟨_, fun w => by kernel_rfl, enters_of Tryz.func85 (by kernel_rfl) rfl, fun w => un_nz_c u w⟩
  · exact ⟨_, fun w => by kernel_rfl, enters_of Tryz.func86 (by kernel_rfl) rfl, fun w => un_fill_c u w⟩
  · exact ⟨_, fun w => by kernel_rfl, enters_of Tryz.func87 (by kernel_rfl) rfl, fun w => un_left_c u w⟩
  · exact ⟨_, fun w => by kernel_rfl, enters_of Tryz.func88 (by kernel_rfl) rfl, fun w => un_lanes8_c u w⟩
  · exact ⟨_, fun w => by kernel_rfl, enters_of Tryz.func89 (by kernel_rfl) rfl, fun w => un_lanes16_c u w⟩
  · exact ⟨_, fun w => by kernel_rfl, enters_of Tryz.func90 (by kernel_rfl) rfl, fun w => un_lanes32_c u w⟩
  · exact ⟨_, fun w => by kernel_rfl, enters_of Tryz.func91 (by kernel_rfl) rfl, fun w => un_splat_c u w⟩
  · exact ⟨_, fun w => by kernel_rfl, enters_of Tryz.func92 (by kernel_rfl) rfl, fun w => un_word_c u (ho rfl).1 (ho rfl).2 w⟩
  · exact ⟨_, fun w => by kernel_rfl, enters_of Tryz.func93 (by kernel_rfl) rfl, fun w => un_mask_c u w⟩
theorem ret_pair {x : V} {n : Int} {p : V × Int} (h : p = (x, n)) : Ending.returned (.tuple #[vv x, iv n]) = .returned (.tuple #[vv p.1, iv p.2]) := by rw [h]
set_option maxHeartbeats 4000000 in
theorem un_c (op ty to off : Int) (x a : V) (w : World) : Calls Tryz.prog 18 #[iv op, iv ty, iv to, iv off, vv x, vv a] w fun e w' => e = .returned (.tuple #[vv (Vb.un op ty to off x a).1, iv (Vb.un op ty to off x a).2]) ∧ Below w.heap.size w w' := by
  cases h1 : Vb.isUn op ty to off
  · have hv : Vb.un op ty to off x a = (V.zero, 1) := by simp [Vb.un, h1]
    have HV := Lib.hid hv
    clear hv
    go_enter Tryz.func18, Tryz.ntmps18
    go_wp2_with (first | (go_at_call 41; refine (is_c _ _ _).mono ?_; rintro e w1 ⟨rfl, hb⟩; obtain ⟨hc, hf⟩ := Flow.bcell hb; have hz := hb.size; (try simp only [World.size_alloc, World.size_setCell, World.size_drew] at hz); obtain ⟨z0, z1, z2⟩ := Flow.zs3 (show w.heap.size + 3 ≤ w1.heap.size by omega)) | (go_at_call 40; refine (isUn_c _ _ _ _ _).mono ?_; rintro e w1 ⟨rfl, hb⟩; obtain ⟨hc, hf⟩ := Flow.bcell hb; have hz := hb.size; (try simp only [World.size_alloc, World.size_setCell, World.size_drew] at hz); obtain ⟨z0, z1, z2⟩ := Flow.zs3 (show w.heap.size + 3 ≤ w1.heap.size by omega)))
    all_goals (refine Flow.bodyPost_k rfl (fun K hK => ?_); simp only [results, Tryz.results18]; go_simp; refine hK _ ⟨?_, ?_⟩)
    · exact ret_pair HV.out
    · (repeat (first | exact Below.refl _ _ | refine Below.setCell ?_ (by first | omega | (simp <;> omega)) _ | refine Below.alloc ?_ (by first | omega | (simp <;> omega)) _ | refine Below.drew ?_ | refine Below.trans ?_ (Below.mono (by assumption) (by first | omega | (simp <;> omega)))))
  cases h2 : Vb.is ty x
  · have hv : Vb.un op ty to off x a = (V.zero, 1) := by simp [Vb.un, h1, h2]
    have HV := Lib.hid hv
    clear hv
    go_enter Tryz.func18, Tryz.ntmps18
    go_wp2_with (first | (go_at_call 41; refine (is_c _ _ _).mono ?_; rintro e w1 ⟨rfl, hb⟩; obtain ⟨hc, hf⟩ := Flow.bcell hb; have hz := hb.size; (try simp only [World.size_alloc, World.size_setCell, World.size_drew] at hz); obtain ⟨z0, z1, z2⟩ := Flow.zs3 (show w.heap.size + 3 ≤ w1.heap.size by omega)) | (go_at_call 40; refine (isUn_c _ _ _ _ _).mono ?_; rintro e w1 ⟨rfl, hb⟩; obtain ⟨hc, hf⟩ := Flow.bcell hb; have hz := hb.size; (try simp only [World.size_alloc, World.size_setCell, World.size_drew] at hz); obtain ⟨z0, z1, z2⟩ := Flow.zs3 (show w.heap.size + 3 ≤ w1.heap.size by omega)))
    all_goals (refine Flow.bodyPost_k rfl (fun K hK => ?_); simp only [results, Tryz.results18]; go_simp; refine hK _ ⟨?_, ?_⟩)
    · exact ret_pair HV.out
    · (repeat (first | exact Below.refl _ _ | refine Below.setCell ?_ (by first | omega | (simp <;> omega)) _ | refine Below.alloc ?_ (by first | omega | (simp <;> omega)) _ | refine Below.drew ?_ | refine Below.trans ?_ (Below.mono (by assumption) (by first | omega | (simp <;> omega)))))
  cases h3 : Vb.is ty a
  · have hv : Vb.un op ty to off x a = (V.zero, 1) := by simp [Vb.un, h1, h2, h3]
    have HV := Lib.hid hv
    clear hv
    go_enter Tryz.func18, Tryz.ntmps18
    go_wp2_with (first | (go_at_call 41; refine (is_c _ _ _).mono ?_; rintro e w1 ⟨rfl, hb⟩; obtain ⟨hc, hf⟩ := Flow.bcell hb; have hz := hb.size; (try simp only [World.size_alloc, World.size_setCell, World.size_drew] at hz); obtain ⟨z0, z1, z2⟩ := Flow.zs3 (show w.heap.size + 3 ≤ w1.heap.size by omega)) | (go_at_call 40; refine (isUn_c _ _ _ _ _).mono ?_; rintro e w1 ⟨rfl, hb⟩; obtain ⟨hc, hf⟩ := Flow.bcell hb; have hz := hb.size; (try simp only [World.size_alloc, World.size_setCell, World.size_drew] at hz); obtain ⟨z0, z1, z2⟩ := Flow.zs3 (show w.heap.size + 3 ≤ w1.heap.size by omega)))
    all_goals (refine Flow.bodyPost_k rfl (fun K hK => ?_); simp only [results, Tryz.results18]; go_simp; refine hK _ ⟨?_, ?_⟩)
    · exact ret_pair HV.out
    · (repeat (first | exact Below.refl _ _ | refine Below.setCell ?_ (by first | omega | (simp <;> omega)) _ | refine Below.alloc ?_ (by first | omega | (simp <;> omega)) _ | refine Below.drew ?_ | refine Below.trans ?_ (Below.mono (by assumption) (by first | omega | (simp <;> omega)))))
  have hv : Vb.un op ty to off x a = (Vb.unOp op ⟨x, a, ty, to, off⟩, 0) := by simp [Vb.un, h1, h2, h3]
  have hop := isUn_range h1
  obtain ⟨g, hg, hcf, hcg⟩ := un_rule ⟨x, a, ty, to, off⟩ op hop (fun h => isUn_off (h ▸ h1))
  have HV := Lib.hid hv
  have HG := Lib.hid hcg
  clear hv hcg
  obtain ⟨o1, o2⟩ := hop
  have o3 : 0 ≤ op := by omega
  have o4 : op < 14 := by omega
  clear o1 o2
  go_enter Tryz.func18, Tryz.ntmps18
  go_wp2_with (first | (go_at_call 41; refine (is_c _ _ _).mono ?_; rintro e w1 ⟨rfl, hb⟩; obtain ⟨hc, hf⟩ := Flow.bcell hb; have hz := hb.size; (try simp only [World.size_alloc, World.size_setCell, World.size_drew] at hz); obtain ⟨z0, z1, z2⟩ := Flow.zs3 (show w.heap.size + 3 ≤ w1.heap.size by omega)) | (go_at_call 40; refine (isUn_c _ _ _ _ _).mono ?_; rintro e w1 ⟨rfl, hb⟩; obtain ⟨hc, hf⟩ := Flow.bcell hb; have hz := hb.size; (try simp only [World.size_alloc, World.size_setCell, World.size_drew] at hz); obtain ⟨z0, z1, z2⟩ := Flow.zs3 (show w.heap.size + 3 ≤ w1.heap.size by omega)))
  refine Flow.wp_region_below 10 (by kernel_rfl) (by kernel_rfl) (fun R hRc hRt => ?_)
  simp only [List.take_succ_cons, List.take_zero, List.drop_succ_cons, List.drop_zero]
  iterate 10
    first
      | refine Flow.flow_skip rfl ?_
      | (apply Flow.flow_step; rfl; (intro w1 hb; have hc := hRc.out w1 hb; go_simp; (first | with_reducible exact ⟨rfl, hb⟩ | (go_at_call 42; refine (unaries_c _).mono ?_; rintro e w2 ⟨rfl, hb2⟩; exact ⟨_, rfl, rfl, hRt.out _ _ hb hb2⟩) | (refine (HG.out _).mono ?_;rintro e w2 ⟨rfl,hb2⟩;exact ⟨_,rfl,rfl,hRt.out _ _ hb hb2⟩))))
    simp only [Act.put, List.setIfInBounds_toArray, List.set_cons_zero, List.set_cons_succ]
  apply Flow.flow_nil
  clear hRc hRt
  intro w1 hb
  obtain ⟨hc, hf⟩ := Flow.bcell hb
  have hz := hb.size
  (try simp only [World.size_alloc, World.size_setCell, World.size_drew] at hz)
  obtain ⟨z0, z1, z2⟩ := Flow.zs3 (show w.heap.size + 3 ≤ w1.heap.size by omega)
  go_wp2
  refine Flow.bodyPost_k rfl (fun K hK => ?_)
  simp only [results, Tryz.results18]
  go_simp
  refine hK _ ⟨?_, ?_⟩
  · exact ret_pair HV.out
  · (repeat (first | exact Below.refl _ _ | refine Below.setCell ?_ (by first | omega | (simp <;> omega)) _ | refine Below.alloc ?_ (by first | omega | (simp <;> omega)) _ | refine Below.drew ?_ | refine Below.trans ?_ (Below.mono (by assumption) (by first | omega | (simp <;> omega)))))
end Go.Proofs.YtboknfppecgjmaaGreat
