/- Part 4 of the proof's texts: Open, Leaf, With, Vec, Unary, Mask, Lanes, EachSt. -/
import Derived.ChangeSame
import Derived.ChangeArms
import Derived.Below
import Derived.Test.YtboknfppecgjmaaGreatExa0
import Derived.Test.YtboknfppecgjmaaGreatExa3
set_option maxHeartbeats 16000000
namespace Go.Proofs.YtboknfppecgjmaaGreat
set_option linter.unusedVariables false
set_option linter.unusedSimpArgs false
open Go.RowKit Go.ChangeShapes Go.WideShapes
section
variable {H : Type} {enc : TypeId × Value → H} {P : Program} {w : World} {base : Nat} {spare : Nat → Bool} {held : Bool} {fuel : Nat} {cs : List Value} {y : DataW H × List MemPlace} {t e : TypeId}
abbrev ud (x : BitVec 32) : DataW H := .lit (.int .u32 (U x))
abbrev vd (x : V) : DataW H := .agg [ud x.a, ud x.b, ud x.c, ud x.d]
theorem U_of_wf {n : Int} (h : (Lit.int .u32 n).wf = true) : n = U (BitVec.ofInt 32 n) := by
  have e1 : IntKind.u32.min = 0 := rfl
  have e2 : IntKind.u32.max = 4294967295 := rfl
  rw [← mod_u32]
  simp only [Lit.wf, e1, e2, Bool.and_eq_true, decide_eq_true_eq] at h
  omega
theorem trod_u32 (he : P.underlying e = some (.int .u32)) (h : DataW.trod enc P w base spare held fuel e cs = some y) : ∃ x, cs = [uv x] ∧ y = (ud x, []) := by
  obtain ⟨n, rfl, rfl, hw⟩ := DataW.trod_int he h
  obtain ⟨x, rfl⟩ : ∃ x, n = U x := ⟨_, U_of_wf hw⟩
  exact ⟨x, rfl, rfl⟩
theorem trod_vec (ht : P.underlying t = some (.array 4 e)) (he : P.underlying e = some (.int .u32)) (hc : P.cellsOf e = 1) (hct : P.cellsOf t = 4) (h : DataW.trod enc P w base spare held fuel t cs = some y) :
    ∃ x : V, cs = [uv x.a, uv x.b, uv x.c, uv x.d] ∧ y = (vd x, []) := by
  cases fuel with
  | zero => simp [DataW.trod] at h
  | succ n =>
    rw [DataW.trod_step] at h
    unfold DataW.trodStep at h
    simp only [ht] at h
    split at h
    · rename_i hl
      rw [hct] at hl
      match cs, hl with
      | [c0, c1, c2, c3], _ =>
        simp only [hc, Option.map_eq_some_iff] at h
        obtain ⟨ys, hm, rfl⟩ := h
        have hr : List.range 4 = [0, 1, 2, 3] := rfl
        rw [hr] at hm
        simp only [List.mapM_cons, List.mapM_nil, bind, Option.bind_eq_some_iff, pure, Option.some.injEq] at hm
        obtain ⟨y0, h0, zs, ⟨y1, h1, z2, ⟨y2, h2, z3, ⟨y3, h3, z4, rfl, rfl⟩, rfl⟩, rfl⟩, rfl⟩ := hm
        obtain ⟨x0, e0, rfl⟩ := trod_u32 he h0
        obtain ⟨x1, e1, rfl⟩ := trod_u32 he h1
        obtain ⟨x2, e2, rfl⟩ := trod_u32 he h2
        obtain ⟨x3, e3, rfl⟩ := trod_u32 he h3
        simp at e0 e1 e2 e3
        exact ⟨⟨x0, x1, x2, x3⟩, by rw [e0, e1, e2, e3], rfl⟩
    · cases h
end
end Go.Proofs.YtboknfppecgjmaaGreat
namespace Go.Proofs.YtboknfppecgjmaaGreat
set_option linter.unusedVariables false
set_option linter.unusedSimpArgs false
open Go.RowKit Go.Shelf
theorem left_c (z : BitVec 32) (w : World) : Calls Tryz.prog 134 #[uv z] w fun e w' => e = .returned (uv (Vb.left z)) ∧ w' = w := by
  go_enter Tryz.func134, Tryz.ntmps134
  go_wp2
  go_ret
  exact ⟨rfl, rfl⟩
theorem some_c (z : BitVec 32) (w : World) : Calls Tryz.prog 139 #[uv z] w fun e w' => e = .returned (uv (Vb.some z)) ∧ w' = w := by
  by_cases h : z = 0#32
  all_goals
    go_enter Tryz.func139, Tryz.ntmps139
    go_wp2
    all_goals go_ret
    exact ⟨ret_lit (by simp [Vb.some, h, U_ofNat]), rfl⟩
theorem added_c (x a y b : BitVec 32) (w : World) : Calls Tryz.prog 98 #[uv x, uv a, uv y, uv b] w fun e w' => e = .returned (uv (Vb.added x a y b)) ∧ w' = w := by
  go_enter Tryz.func98, Tryz.ntmps98
  go_wp2
  go_ret
  exact ⟨rfl, rfl⟩
theorem subtracted_c (x a y b : BitVec 32) (w : World) : Calls Tryz.prog 99 #[uv x, uv a, uv y, uv b] w fun e w' => e = .returned (uv (Vb.subtracted x a y b)) ∧ w' = w := by
  go_enter Tryz.func99, Tryz.ntmps99
  go_wp2
  go_ret
  exact ⟨rfl, rfl⟩
theorem equal_c (x a y b : BitVec 32) (w : World) : Calls Tryz.prog 108 #[uv x, uv a, uv y, uv b] w fun e w' => e = .returned (uv (Vb.equal x a y b)) ∧ w' = w := by
  by_cases h : (x ^^^ y) &&& ~~~(a ||| b) = 0#32
  · go_enter Tryz.func108, Tryz.ntmps108
    go_wp2_with (go_at_call 139; refine (some_c _ _).mono ?_; rintro e w1 ⟨rfl, rfl⟩)
    go_ret
    exact ⟨ret_lit (by simp [Vb.equal, h, U_ofNat]), rfl⟩
  · go_enter Tryz.func108, Tryz.ntmps108
    go_wp2_with (go_at_call 139; refine (some_c _ _).mono ?_; rintro e w1 ⟨rfl, rfl⟩)
    go_ret
    exact ⟨ret_lit (by simp [Vb.equal, h, U_ofNat]), rfl⟩
theorem unLane_c (x a y b : BitVec 32) (w : World) : Calls Tryz.prog 143 #[uv x, uv a, uv y, uv b] w fun e w' => e = .returned (uv (Vb.unLane x a y b)) ∧ w' = w := by
  by_cases h : x &&& ~~~a = 0#32
  · go_enter Tryz.func143, Tryz.ntmps143
    go_wp2_with (go_at_call 139; refine (some_c _ _).mono ?_; rintro e w1 ⟨rfl, rfl⟩)
    go_ret
    exact ⟨ret_lit (by simp [Vb.unLane, h, U_ofNat]), rfl⟩
  · go_enter Tryz.func143, Tryz.ntmps143
    go_wp2_with (go_at_call 139; refine (some_c _ _).mono ?_; rintro e w1 ⟨rfl, rfl⟩)
    go_ret
    exact ⟨ret_lit (by simp [Vb.unLane, h, U_ofNat]), rfl⟩
theorem least_c (x a : BitVec 32) (w : World) : Calls Tryz.prog 141 #[uv x, uv a] w fun e w' => e = .returned (uv (Vb.least x a)) ∧ w' = w := by
  go_enter Tryz.func141, Tryz.ntmps141
  go_wp2
  go_ret
  exact ⟨rfl, rfl⟩
theorem greatest_c (x a : BitVec 32) (w : World) : Calls Tryz.prog 142 #[uv x, uv a] w fun e w' => e = .returned (uv (Vb.greatest x a)) ∧ w' = w := by
  go_enter Tryz.func142, Tryz.ntmps142
  go_wp2
  go_ret
  exact ⟨rfl, rfl⟩
theorem word_c (x : BitVec 32) (w : World) : Calls Tryz.prog 132 #[uv x] w fun e w' => e = .returned (vv (V.word x)) ∧ Below w.heap.size w w' := by
  go_enter Tryz.func132, Tryz.ntmps132
  go_wp2
  refine Flow.bodyPost_k rfl (fun K hK => ?_)
  simp only [results, Tryz.results132]
  go_simp
  refine hK _ ⟨?_, ?_⟩
  · rfl
  · (repeat (first | exact Below.refl _ _ | refine Below.setCell ?_ (by first | omega | (simp <;> omega)) _ | refine Below.alloc ?_ (by first | omega | (simp <;> omega)) _ | refine Below.drew ?_ | refine Below.trans ?_ (Below.mono (by assumption) (by first | omega | (simp <;> omega)))))
theorem ones_c (ty : Int) (w : World) : Calls Tryz.prog 81 #[iv ty] w fun e w' => e = .returned (vv (Vb.ones ty)) ∧ Below w.heap.size w w' := by
  go_enter Tryz.func81, Tryz.ntmps81
  go_wp2_with (go_at_call 132; refine (word_c _ _).mono ?_; rintro e w1 ⟨rfl, hb⟩; obtain ⟨hc, hf⟩ := Flow.bcell hb; have hz := hb.size; (try simp only [World.size_alloc, World.size_setCell, World.size_drew] at hz))
  all_goals (refine Flow.bodyPost_k rfl (fun K hK => ?_); simp only [results, Tryz.results81]; go_simp; refine hK _ ⟨?_, ?_⟩)
  all_goals (first | (apply ret4 <;> simp_all [Vb.ones, V.word, V.all, V.zero]; done) | (repeat (first | exact Below.refl _ _ | refine Below.setCell ?_ (by first | omega | (simp <;> omega)) _ | refine Below.alloc ?_ (by first | omega | (simp <;> omega)) _ | refine Below.drew ?_ | refine Below.trans ?_ (Below.mono (by assumption) (by first | omega | (simp <;> omega))))))
end Go.Proofs.YtboknfppecgjmaaGreat
namespace Go.Proofs.YtboknfppecgjmaaGreat
set_option linter.unusedVariables false
set_option linter.unusedSimpArgs false
open Go.RowKit Go.Shelf
theorem with_c (g : Nat) (h : BitVec 32 → BitVec 32 → BitVec 32) (hcf : ∀ args w, (callFunc g args).run Tryz.prog w = .ok (.enter g args) w)
    (hg : ∀ x y w, Calls Tryz.prog g #[uv x, uv y] w fun e w' => e = .returned (uv (h x y)) ∧ w' = w) (x y : V) (w : World) :
    Calls Tryz.prog 126 #[vv x, vv y, .func (.func g) #[] #[]] w fun e w' => e = .returned (vv (V.map2 h x y)) ∧ Below w.heap.size w w' := by
  have H := Lib.hid hg
  clear hg
  go_enter Tryz.func126, Tryz.ntmps126
  go_wp2_with fail
  refine wp_loop_rounds 5 ?_
  iterate 4
    rw [rounds_succ]
    go_wp2_with fail
    refine Flow.wp_region_below 9 (by kernel_rfl) (by kernel_rfl) (fun R hRc hRt => ?_)
    simp only [List.take_succ_cons, List.take_zero, List.drop_succ_cons, List.drop_zero]
    iterate 9
      first
        | refine Flow.flow_skip rfl ?_
        | (apply Flow.flow_step; rfl; (intro w1 hb; have hc := hRc.out w1 hb; go_simp; (first | with_reducible exact ⟨rfl, hb⟩ | (refine (H.out _ _ _).mono ?_; rintro e w2 ⟨rfl, rfl⟩; exact ⟨_, rfl, rfl, hb⟩))))
      simp only [Act.put, List.setIfInBounds_toArray, List.set_cons_zero, List.set_cons_succ]
    apply Flow.flow_nil
    clear hRc hRt
    intro w1 hb
    obtain ⟨hc, hf⟩ := Flow.bcell hb
    have hz := hb.size
    (try simp only [World.size_alloc, World.size_setCell, World.size_drew] at hz)
    obtain ⟨z0, z1, z2, z3⟩ := Flow.zs4 (show w.heap.size + 4 ≤ w1.heap.size by omega)
    go_wp2_with fail
  rw [rounds_succ]
  go_wp2_with fail
  refine Flow.bodyPost_k rfl (fun K hK => ?_)
  simp only [results, Tryz.results126]
  go_simp
  refine hK _ ⟨?_, ?_⟩
  · rfl
  · (repeat (first | exact Below.refl _ _ | refine Below.setCell ?_ (by first | omega | (simp <;> omega)) _ | refine Below.alloc ?_ (by first | omega | (simp <;> omega)) _ | refine Below.drew ?_ | refine Below.trans ?_ (Below.mono (by assumption) (by first | omega | (simp <;> omega)))))
end Go.Proofs.YtboknfppecgjmaaGreat
namespace Go.Proofs.YtboknfppecgjmaaGreat
set_option linter.unusedVariables false
set_option linter.unusedSimpArgs false
open Go.RowKit Go.Shelf
theorem and1_c (x y : BitVec 32) (w : World) : Calls Tryz.prog 127 #[uv x, uv y] w fun e w' => e = .returned (uv ((fun x y => x &&& y) x y)) ∧ w' = w := by
  go_enter Tryz.func127, Tryz.ntmps127
  go_wp2
  go_ret
  exact ⟨rfl, rfl⟩
theorem and_c (x y : V) (w : World) : Calls Tryz.prog 65 #[vv x, vv y] w fun e w' => e = .returned (vv (V.and x y)) ∧ Below w.heap.size w w' := by
  go_enter Tryz.func65, Tryz.ntmps65
  go_wp2_with (go_at_call 126; refine (with_c _ (fun x y => x &&& y) (enters_of Tryz.func127 (by kernel_rfl) rfl) and1_c _ _ _).mono ?_; rintro e w1 ⟨rfl, hb⟩; obtain ⟨hc, hf⟩ := Flow.bcell hb; have hz := hb.size; (try simp only [World.size_alloc, World.size_setCell, World.size_drew] at hz); obtain ⟨z0, z1, z2⟩ := Flow.zs3 (show w.heap.size + 3 ≤ w1.heap.size by omega))
  refine Flow.bodyPost_k rfl (fun K hK => ?_)
  simp only [results, Tryz.results65]
  go_simp
  refine hK _ ⟨?_, ?_⟩
  · rfl
  · (repeat (first | exact Below.refl _ _ | refine Below.setCell ?_ (by first | omega | (simp <;> omega)) _ | refine Below.alloc ?_ (by first | omega | (simp <;> omega)) _ | refine Below.drew ?_ | refine Below.trans ?_ (Below.mono (by assumption) (by first | omega | (simp <;> omega)))))
theorem or1_c (x y : BitVec 32) (w : World) : Calls Tryz.prog 129 #[uv x, uv y] w fun e w' => e = .returned (uv ((fun x y => x ||| y) x y)) ∧ w' = w := by
  go_enter Tryz.func129, Tryz.ntmps129
  go_wp2
  go_ret
  exact ⟨rfl, rfl⟩
theorem or_c (x y : V) (w : World) : Calls Tryz.prog 68 #[vv x, vv y] w fun e w' => e = .returned (vv (V.or x y)) ∧ Below w.heap.size w w' := by
  go_enter Tryz.func68, Tryz.ntmps68
  go_wp2_with (go_at_call 126; refine (with_c _ (fun x y => x ||| y) (enters_of Tryz.func129 (by kernel_rfl) rfl) or1_c _ _ _).mono ?_; rintro e w1 ⟨rfl, hb⟩; obtain ⟨hc, hf⟩ := Flow.bcell hb; have hz := hb.size; (try simp only [World.size_alloc, World.size_setCell, World.size_drew] at hz); obtain ⟨z0, z1, z2⟩ := Flow.zs3 (show w.heap.size + 3 ≤ w1.heap.size by omega))
  refine Flow.bodyPost_k rfl (fun K hK => ?_)
  simp only [results, Tryz.results68]
  go_simp
  refine hK _ ⟨?_, ?_⟩
  · rfl
  · (repeat (first | exact Below.refl _ _ | refine Below.setCell ?_ (by first | omega | (simp <;> omega)) _ | refine Below.alloc ?_ (by first | omega | (simp <;> omega)) _ | refine Below.drew ?_ | refine Below.trans ?_ (Below.mono (by assumption) (by first | omega | (simp <;> omega)))))
theorem xor1_c (x y : BitVec 32) (w : World) : Calls Tryz.prog 128 #[uv x, uv y] w fun e w' => e = .returned (uv ((fun x y => x ^^^ y) x y)) ∧ w' = w := by
  go_enter Tryz.func128, Tryz.ntmps128
  go_wp2
  go_ret
  exact ⟨rfl, rfl⟩
theorem xor_c (x y : V) (w : World) : Calls Tryz.prog 67 #[vv x, vv y] w fun e w' => e = .returned (vv (V.xor x y)) ∧ Below w.heap.size w w' := by
  go_enter Tryz.func67, Tryz.ntmps67
  go_wp2_with (go_at_call 126; refine (with_c _ (fun x y => x ^^^ y) (enters_of Tryz.func128 (by kernel_rfl) rfl) xor1_c _ _ _).mono ?_; rintro e w1 ⟨rfl, hb⟩; obtain ⟨hc, hf⟩ := Flow.bcell hb; have hz := hb.size; (try simp only [World.size_alloc, World.size_setCell, World.size_drew] at hz); obtain ⟨z0, z1, z2⟩ := Flow.zs3 (show w.heap.size + 3 ≤ w1.heap.size by omega))
  refine Flow.bodyPost_k rfl (fun K hK => ?_)
  simp only [results, Tryz.results67]
  go_simp
  refine hK _ ⟨?_, ?_⟩
  · rfl
  · (repeat (first | exact Below.refl _ _ | refine Below.setCell ?_ (by first | omega | (simp <;> omega)) _ | refine Below.alloc ?_ (by first | omega | (simp <;> omega)) _ | refine Below.drew ?_ | refine Below.trans ?_ (Below.mono (by assumption) (by first | omega | (simp <;> omega)))))
theorem without1_c (x y : BitVec 32) (w : World) : Calls Tryz.prog 131 #[uv x, uv y] w fun e w' => e = .returned (uv ((fun x y => x &&& ~~~y) x y)) ∧ w' = w := by
  go_enter Tryz.func131, Tryz.ntmps131
  go_wp2
  go_ret
  exact ⟨rfl, rfl⟩
theorem without_c (x y : V) (w : World) : Calls Tryz.prog 80 #[vv x, vv y] w fun e w' => e = .returned (vv (V.without x y)) ∧ Below w.heap.size w w' := by
  go_enter Tryz.func80, Tryz.ntmps80
  go_wp2_with (go_at_call 126; refine (with_c _ (fun x y => x &&& ~~~y) (enters_of Tryz.func131 (by kernel_rfl) rfl) without1_c _ _ _).mono ?_; rintro e w1 ⟨rfl, hb⟩; obtain ⟨hc, hf⟩ := Flow.bcell hb; have hz := hb.size; (try simp only [World.size_alloc, World.size_setCell, World.size_drew] at hz); obtain ⟨z0, z1, z2⟩ := Flow.zs3 (show w.heap.size + 3 ≤ w1.heap.size by omega))
  refine Flow.bodyPost_k rfl (fun K hK => ?_)
  simp only [results, Tryz.results80]
  go_simp
  refine hK _ ⟨?_, ?_⟩
  · rfl
  · (repeat (first | exact Below.refl _ _ | refine Below.setCell ?_ (by first | omega | (simp <;> omega)) _ | refine Below.alloc ?_ (by first | omega | (simp <;> omega)) _ | refine Below.drew ?_ | refine Below.trans ?_ (Below.mono (by assumption) (by first | omega | (simp <;> omega)))))
theorem zero_c (x : V) (w : World) : Calls Tryz.prog 66 #[vv x] w fun e w' => e = .returned (.bool x.isZero) ∧ Below w.heap.size w w' := by
  go_enter Tryz.func66, Tryz.ntmps66
  go_wp2
  go_ret
  exact ⟨rfl, by (repeat (first | exact Below.refl _ _ | refine Below.setCell ?_ (by first | omega | (simp <;> omega)) _ | refine Below.alloc ?_ (by first | omega | (simp <;> omega)) _ | refine Below.drew ?_ | refine Below.trans ?_ (Below.mono (by assumption) (by first | omega | (simp <;> omega)))))⟩
theorem isType_c (ty : Int) (w : World) : Calls Tryz.prog 79 #[iv ty] w fun e w' => e = .returned (.bool (Vb.isType ty)) ∧ Below w.heap.size w w' := by
  go_enter Tryz.func79, Tryz.ntmps79
  go_wp2_with (first | (go_at_call 81; refine (ones_c _ _).mono ?_; rintro e w1 ⟨rfl, hb⟩; obtain ⟨hc, hf⟩ := Flow.bcell hb; have hz := hb.size; (try simp only [World.size_alloc, World.size_setCell, World.size_drew] at hz)) | (go_at_call 66; refine (zero_c _ _).mono ?_; rintro e w1 ⟨rfl, hb⟩; obtain ⟨hc, hf⟩ := Flow.bcell hb; have hz := hb.size; (try simp only [World.size_alloc, World.size_setCell, World.size_drew] at hz)))
  go_ret
  exact ⟨rfl, by (repeat (first | exact Below.refl _ _ | refine Below.setCell ?_ (by first | omega | (simp <;> omega)) _ | refine Below.alloc ?_ (by first | omega | (simp <;> omega)) _ | refine Below.drew ?_ | refine Below.trans ?_ (Below.mono (by assumption) (by first | omega | (simp <;> omega)))))⟩
theorem is_c (ty : Int) (x : V) (w : World) : Calls Tryz.prog 41 #[iv ty, vv x] w fun e w' => e = .returned (.bool (Vb.is ty x)) ∧ Below w.heap.size w w' := by
  cases h : Vb.isType ty
  · go_enter Tryz.func41, Tryz.ntmps41
    go_wp2_with fail
    have it := fun w => isType_c ty w
    simp only [h] at it
    refine Flow.wp_region_below 9 (by kernel_rfl) (by kernel_rfl) (fun R hRc hRt => ?_)
    simp only [List.take_succ_cons, List.take_zero, List.drop_succ_cons, List.drop_zero]
    iterate 9
      first
        | refine Flow.flow_skip rfl ?_
        | (apply Flow.flow_step; rfl; (intro w1 hb; have hc := hRc.out w1 hb; go_simp; (first | with_reducible exact ⟨rfl, hb⟩ | (refine (it _).mono ?_; rintro e w2 ⟨rfl, hb2⟩; exact ⟨_, rfl, rfl, hRt.out _ _ hb hb2⟩))))
      simp only [Act.put, List.setIfInBounds_toArray, List.set_cons_zero, List.set_cons_succ]
    apply Flow.flow_nil
    clear hRc hRt
    intro w1 hb
    obtain ⟨hc, hf⟩ := Flow.bcell hb
    have hz := hb.size
    (try simp only [World.size_alloc, World.size_setCell, World.size_drew] at hz)
    obtain z0 := Flow.zs1 (show w.heap.size + 1 ≤ w1.heap.size by omega)
    clear it
    go_wp2
    go_ret
    exact ⟨by simp [Vb.is, h], by (repeat (first | exact Below.refl _ _ | refine Below.setCell ?_ (by first | omega | (simp <;> omega)) _ | refine Below.alloc ?_ (by first | omega | (simp <;> omega)) _ | refine Below.drew ?_ | refine Below.trans ?_ (Below.mono (by assumption) (by first | omega | (simp <;> omega)))))⟩
  · go_enter Tryz.func41, Tryz.ntmps41
    go_wp2_with fail
    have it := fun w => isType_c ty w
    simp only [h] at it
    refine Flow.wp_region_below 9 (by kernel_rfl) (by kernel_rfl) (fun R hRc hRt => ?_)
    simp only [List.take_succ_cons, List.take_zero, List.drop_succ_cons, List.drop_zero]
    iterate 9
      first
        | refine Flow.flow_skip rfl ?_
        | (apply Flow.flow_step; rfl; (intro w1 hb; have hc := hRc.out w1 hb; go_simp; (first | with_reducible exact ⟨rfl, hb⟩ | (refine (it _).mono ?_; rintro e w2 ⟨rfl, hb2⟩; exact ⟨_, rfl, rfl, hRt.out _ _ hb hb2⟩) | (refine (ones_c _ _).mono ?_; rintro e w2 ⟨rfl, hb2⟩; exact ⟨_, rfl, rfl, hRt.out _ _ hb hb2⟩) | (refine (without_c _ _ _).mono ?_; rintro e w2 ⟨rfl, hb2⟩; exact ⟨_, rfl, rfl, hRt.out _ _ hb hb2⟩) | (refine (zero_c _ _).mono ?_; rintro e w2 ⟨rfl, hb2⟩; exact ⟨_, rfl, rfl, hRt.out _ _ hb hb2⟩))))
      simp only [Act.put, List.setIfInBounds_toArray, List.set_cons_zero, List.set_cons_succ]
    apply Flow.flow_nil
    clear hRc hRt
    intro w1 hb
    obtain ⟨hc, hf⟩ := Flow.bcell hb
    have hz := hb.size
    (try simp only [World.size_alloc, World.size_setCell, World.size_drew] at hz)
    obtain z0 := Flow.zs1 (show w.heap.size + 1 ≤ w1.heap.size by omega)
    clear it
    go_wp2
    go_ret
    exact ⟨by simp [Vb.is, h], by (repeat (first | exact Below.refl _ _ | refine Below.setCell ?_ (by first | omega | (simp <;> omega)) _ | refine Below.alloc ?_ (by first | omega | (simp <;> omega)) _ | refine Below.drew ?_ | refine Below.trans ?_ (Below.mono (by assumption) (by first | omega | (simp <;> omega)))))⟩
theorem one_c (b : Bool) (w : World) : Calls Tryz.prog 133 #[.bool b] w fun e w' => e = .returned (vv (Vb.one b)) ∧ Below w.heap.size w w' := by
  cases b
  all_goals
    go_enter Tryz.func133, Tryz.ntmps133
    go_wp2_with (go_at_call 132; refine (word_c _ _).mono ?_; rintro e w1 ⟨rfl, hb⟩; obtain ⟨hc, hf⟩ := Flow.bcell hb; have hz := hb.size; (try simp only [World.size_alloc, World.size_setCell, World.size_drew] at hz); obtain z0 := Flow.zs1 (show w.heap.size + 1 ≤ w1.heap.size by omega))
    refine Flow.bodyPost_k rfl (fun K hK => ?_)
    simp only [results, Tryz.results133]
    go_simp
    refine hK _ ⟨?_, ?_⟩
    · rfl
    · (repeat (first | exact Below.refl _ _ | refine Below.setCell ?_ (by first | omega | (simp <;> omega)) _ | refine Below.alloc ?_ (by first | omega | (simp <;> omega)) _ | refine Below.drew ?_ | refine Below.trans ?_ (Below.mono (by assumption) (by first | omega | (simp <;> omega)))))
end Go.Proofs.YtboknfppecgjmaaGreat
namespace Go.Proofs.YtboknfppecgjmaaGreat
set_option linter.unusedVariables false
set_option linter.unusedSimpArgs false
open Go.RowKit Go.Shelf
abbrev unv (u : Vb.Unary) : Value := .agg #[uv u.x.a, uv u.x.b, uv u.x.c, uv u.x.d, uv u.a.a, uv u.a.b, uv u.a.c, uv u.a.d, iv u.from_, iv u.to, iv u.off]
theorem un_not_c (u : Vb.Unary) (w : World) : Calls Tryz.prog 82 #[unv u] w fun e w' => e = .returned (vv u.not) ∧ Below w.heap.size w w' := by
  go_enter Tryz.func82, Tryz.ntmps82
  go_wp2
  refine Flow.bodyPost_k rfl (fun K hK => ?_)
  simp only [results, Tryz.results82]
  go_simp
  refine hK _ ⟨?_, ?_⟩
  · rfl
  · (repeat (first | exact Below.refl _ _ | refine Below.setCell ?_ (by first | omega | (simp <;> omega)) _ | refine Below.alloc ?_ (by first | omega | (simp <;> omega)) _ | refine Below.drew ?_ | refine Below.trans ?_ (Below.mono (by assumption) (by first | omega | (simp <;> omega)))))
theorem un_same_c (u : Vb.Unary) (w : World) : Calls Tryz.prog 83 #[unv u] w fun e w' => e = .returned (vv u.same) ∧ Below w.heap.size w w' := by
  go_enter Tryz.func83, Tryz.ntmps83
  go_wp2_with fail
  refine Flow.wp_region_below 6 (by kernel_rfl) (by kernel_rfl) (fun R hRc hRt => ?_)
  simp only [List.take_succ_cons, List.take_zero, List.drop_succ_cons, List.drop_zero]
  iterate 6
    first
      | refine Flow.flow_skip rfl ?_
      | (apply Flow.flow_step; rfl; (intro w1 hb; have hc := hRc.out w1 hb; go_simp; (first | with_reducible exact ⟨rfl, hb⟩ | (go_at_call 65; refine (and_c _ _ _).mono ?_; rintro e w2 ⟨rfl, hb2⟩; exact ⟨_, rfl, rfl, hRt.out _ _ hb hb2⟩) | (go_at_call 81; refine (ones_c _ _).mono ?_; rintro e w2 ⟨rfl, hb2⟩; exact ⟨_, rfl, rfl, hRt.out _ _ hb hb2⟩))))
    simp only [Act.put, List.setIfInBounds_toArray, List.set_cons_zero, List.set_cons_succ]
  apply Flow.flow_nil
  clear hRc hRt
  intro w1 hb
  obtain ⟨hc, hf⟩ := Flow.bcell hb
  have hz := hb.size
  (try simp only [World.size_alloc, World.size_setCell, World.size_drew] at hz)
  obtain ⟨z0, z1⟩ := Flow.zs2 (show w.heap.size + 2 ≤ w1.heap.size by omega)
  go_wp2
  refine Flow.bodyPost_k rfl (fun K hK => ?_)
  simp only [results, Tryz.results83]
  go_simp
  refine hK _ ⟨?_, ?_⟩
  · rfl
  · (repeat (first | exact Below.refl _ _ | refine Below.setCell ?_ (by first | omega | (simp <;> omega)) _ | refine Below.alloc ?_ (by first | omega | (simp <;> omega)) _ | refine Below.drew ?_ | refine Below.trans ?_ (Below.mono (by assumption) (by first | omega | (simp <;> omega)))))
theorem un_splat_c (u : Vb.Unary) (w : World) : Calls Tryz.prog 91 #[unv u] w fun e w' => e = .returned (vv u.splat) ∧ Below w.heap.size w w' := by
  go_enter Tryz.func91, Tryz.ntmps91
  go_wp2
  refine Flow.bodyPost_k rfl (fun K hK => ?_)
  simp only [results, Tryz.results91]
  go_simp
  refine hK _ ⟨?_, ?_⟩
  · rfl
  · (repeat (first | exact Below.refl _ _ | refine Below.setCell ?_ (by first | omega | (simp <;> omega)) _ | refine Below.alloc ?_ (by first | omega | (simp <;> omega)) _ | refine Below.drew ?_ | refine Below.trans ?_ (Below.mono (by assumption) (by first | omega | (simp <;> omega)))))
theorem un_left_c (u : Vb.Unary) (w : World) : Calls Tryz.prog 87 #[unv u] w fun e w' => e = .returned (vv u.left) ∧ Below w.heap.size w w' := by
  go_enter Tryz.func87, Tryz.ntmps87
  go_wp2_with fail
  refine Flow.wp_region_below 14 (by kernel_rfl) (by kernel_rfl) (fun R hRc hRt => ?_)
  simp only [List.take_succ_cons, List.take_zero, List.drop_succ_cons, List.drop_zero]
  iterate 14
    first
      | refine Flow.flow_skip rfl ?_
      | (apply Flow.flow_step; rfl; (intro w1 hb; have hc := hRc.out w1 hb; go_simp; (first | with_reducible exact ⟨rfl, hb⟩ | (go_at_call 134; refine (left_c _ _).mono ?_; rintro e w2 ⟨rfl, rfl⟩; exact ⟨_, rfl, rfl, hb⟩) | (go_at_call 132; refine (word_c _ _).mono ?_; rintro e w2 ⟨rfl, hb2⟩; exact ⟨_, rfl, rfl, hRt.out _ _ hb hb2⟩))))
    simp only [Act.put, List.setIfInBounds_toArray, List.set_cons_zero, List.set_cons_succ]
  apply Flow.flow_nil
  clear hRc hRt
  intro w1 hb
  obtain ⟨hc, hf⟩ := Flow.bcell hb
  have hz := hb.size
  (try simp only [World.size_alloc, World.size_setCell, World.size_drew] at hz)
  obtain ⟨z0, z1⟩ := Flow.zs2 (show w.heap.size + 2 ≤ w1.heap.size by omega)
  go_wp2
  refine Flow.bodyPost_k rfl (fun K hK => ?_)
  simp only [results, Tryz.results87]
  go_simp
  refine hK _ ⟨?_, ?_⟩
  · rfl
  · (repeat (first | exact Below.refl _ _ | refine Below.setCell ?_ (by first | omega | (simp <;> omega)) _ | refine Below.alloc ?_ (by first | omega | (simp <;> omega)) _ | refine Below.drew ?_ | refine Below.trans ?_ (Below.mono (by assumption) (by first | omega | (simp <;> omega)))))
theorem un_fill_c (u : Vb.Unary) (w : World) : Calls Tryz.prog 86 #[unv u] w fun e w' => e = .returned (vv u.fill) ∧ Below w.heap.size w w' := by
  by_cases h : u.a.a = 1#32
  · go_enter Tryz.func86, Tryz.ntmps86
    go_wp2_with (go_at_call 81; refine (ones_c _ _).mono ?_; rintro e w1 ⟨rfl, hb⟩; obtain ⟨hc, hf⟩ := Flow.bcell hb; have hz := hb.size; (try simp only [World.size_alloc, World.size_setCell, World.size_drew] at hz); obtain ⟨z0, z1⟩ := Flow.zs2 (show w.heap.size + 2 ≤ w1.heap.size by omega))
    refine Flow.bodyPost_k rfl (fun K hK => ?_)
    simp only [results, Tryz.results86]
    go_simp
    refine hK _ ⟨?_, ?_⟩
    · exact ret_vv (by simp [Vb.Unary.fill, h])
    · (repeat (first | exact Below.refl _ _ | refine Below.setCell ?_ (by first | omega | (simp <;> omega)) _ | refine Below.alloc ?_ (by first | omega | (simp <;> omega)) _ | refine Below.drew ?_ | refine Below.trans ?_ (Below.mono (by assumption) (by first | omega | (simp <;> omega)))))
  · go_enter Tryz.func86, Tryz.ntmps86
    go_wp2_with (go_at_call 81; refine (ones_c _ _).mono ?_; rintro e w1 ⟨rfl, hb⟩; obtain ⟨hc, hf⟩ := Flow.bcell hb; have hz := hb.size; (try simp only [World.size_alloc, World.size_setCell, World.size_drew] at hz); obtain ⟨z0, z1⟩ := Flow.zs2 (show w.heap.size + 2 ≤ w1.heap.size by omega))
    refine Flow.bodyPost_k rfl (fun K hK => ?_)
    simp only [results, Tryz.results86]
    go_simp
    refine hK _ ⟨?_, ?_⟩
    · exact ret_vv (y := u.fill) (x := V.zero) (by simp [Vb.Unary.fill, h])
    · (repeat (first | exact Below.refl _ _ | refine Below.setCell ?_ (by first | omega | (simp <;> omega)) _ | refine Below.alloc ?_ (by first | omega | (simp <;> omega)) _ | refine Below.drew ?_ | refine Below.trans ?_ (Below.mono (by assumption) (by first | omega | (simp <;> omega)))))
theorem un_nz_c (u : Vb.Unary) (w : World) : Calls Tryz.prog 85 #[unv u] w fun e w' => e = .returned (vv u.nz) ∧ Below w.heap.size w w' := by
  cases h : u.a.isZero
  · have hz0 := fun w => zero_c u.a w
    simp only [h] at hz0
    go_enter Tryz.func85, Tryz.ntmps85
    go_wp2_with fail
    refine (hz0 _).mono ?_
    rintro e w1 ⟨rfl, hb⟩; obtain ⟨hc, hf⟩ := Flow.bcell hb; have hz := hb.size; (try simp only [World.size_alloc, World.size_setCell, World.size_drew] at hz); obtain ⟨z0, z1⟩ := Flow.zs2 (show w.heap.size + 2 ≤ w1.heap.size by omega)
    clear hz0
    go_wp2_with (first | (go_at_call 66; refine (zero_c _ _).mono ?_; rintro e w1 ⟨rfl, hb⟩; obtain ⟨hc, hf⟩ := Flow.bcell hb; have hz := hb.size; (try simp only [World.size_alloc, World.size_setCell, World.size_drew] at hz); obtain ⟨z0, z1⟩ := Flow.zs2 (show w.heap.size + 2 ≤ w1.heap.size by omega)) | (go_at_call 80; refine (without_c _ _ _).mono ?_; rintro e w1 ⟨rfl, hb⟩; obtain ⟨hc, hf⟩ := Flow.bcell hb; have hz := hb.size; (try simp only [World.size_alloc, World.size_setCell, World.size_drew] at hz); obtain ⟨z0, z1⟩ := Flow.zs2 (show w.heap.size + 2 ≤ w1.heap.size by omega)) | (go_at_call 133; refine (one_c _ _).mono ?_; rintro e w1 ⟨rfl, hb⟩; obtain ⟨hc, hf⟩ := Flow.bcell hb; have hz := hb.size; (try simp only [World.size_alloc, World.size_setCell, World.size_drew] at hz); obtain ⟨z0, z1⟩ := Flow.zs2 (show w.heap.size + 2 ≤ w1.heap.size by omega)))
    refine Flow.bodyPost_k rfl (fun K hK => ?_)
    simp only [results, Tryz.results85]
    go_simp
    refine hK _ ⟨?_, ?_⟩
    · exact ret_vv (by simp [Vb.Unary.nz, h])
    · (repeat (first | exact Below.refl _ _ | refine Below.setCell ?_ (by first | omega | (simp <;> omega)) _ | refine Below.alloc ?_ (by first | omega | (simp <;> omega)) _ | refine Below.drew ?_ | refine Below.trans ?_ (Below.mono (by assumption) (by first | omega | (simp <;> omega)))))
  · have hz0 := fun w => zero_c u.a w
    simp only [h] at hz0
    go_enter Tryz.func85, Tryz.ntmps85
    go_wp2_with fail
    refine (hz0 _).mono ?_
    rintro e w1 ⟨rfl, hb⟩; obtain ⟨hc, hf⟩ := Flow.bcell hb; have hz := hb.size; (try simp only [World.size_alloc, World.size_setCell, World.size_drew] at hz); obtain ⟨z0, z1⟩ := Flow.zs2 (show w.heap.size + 2 ≤ w1.heap.size by omega)
    clear hz0
    go_wp2_with (first | (go_at_call 66; refine (zero_c _ _).mono ?_; rintro e w1 ⟨rfl, hb⟩; obtain ⟨hc, hf⟩ := Flow.bcell hb; have hz := hb.size; (try simp only [World.size_alloc, World.size_setCell, World.size_drew] at hz); obtain ⟨z0, z1⟩ := Flow.zs2 (show w.heap.size + 2 ≤ w1.heap.size by omega)) | (go_at_call 80; refine (without_c _ _ _).mono ?_; rintro e w1 ⟨rfl, hb⟩; obtain ⟨hc, hf⟩ := Flow.bcell hb; have hz := hb.size; (try simp only [World.size_alloc, World.size_setCell, World.size_drew] at hz); obtain ⟨z0, z1⟩ := Flow.zs2 (show w.heap.size + 2 ≤ w1.heap.size by omega)) | (go_at_call 133; refine (one_c _ _).mono ?_; rintro e w1 ⟨rfl, hb⟩; obtain ⟨hc, hf⟩ := Flow.bcell hb; have hz := hb.size; (try simp only [World.size_alloc, World.size_setCell, World.size_drew] at hz); obtain ⟨z0, z1⟩ := Flow.zs2 (show w.heap.size + 2 ≤ w1.heap.size by omega)))
    refine Flow.bodyPost_k rfl (fun K hK => ?_)
    simp only [results, Tryz.results85]
    go_simp
    refine hK _ ⟨?_, ?_⟩
    · exact ret_vv (by simp [Vb.Unary.nz, h])
    · (repeat (first | exact Below.refl _ _ | refine Below.setCell ?_ (by first | omega | (simp <;> omega)) _ | refine Below.alloc ?_ (by first | omega | (simp <;> omega)) _ | refine Below.drew ?_ | refine Below.trans ?_ (Below.mono (by assumption) (by first | omega | (simp <;> omega)))))
theorem un_sext_c (u : Vb.Unary) (w : World) : Calls Tryz.prog 84 #[unv u] w fun e w' => e = .returned (vv u.sext) ∧ Below w.heap.size w w' := by
  by_cases h : u.a.a &&& ((Vb.ones u.from_).a &&& ~~~((Vb.ones u.from_).a >>> 1)) = 0#32
  · go_enter Tryz.func84, Tryz.ntmps84
    go_wp2_with fail
    refine Flow.wp_region_below 10 (by kernel_rfl) (by kernel_rfl) (fun R hRc hRt => ?_)
    simp only [List.take_succ_cons, List.take_zero, List.drop_succ_cons, List.drop_zero]
    iterate 10
      first
        | refine Flow.flow_skip rfl ?_
        | (apply Flow.flow_step; rfl; (intro w1 hb; have hc := hRc.out w1 hb; go_simp; (first | with_reducible exact ⟨rfl, hb⟩ | (go_at_call 81; refine (ones_c _ _).mono ?_; rintro e w2 ⟨rfl, hb2⟩; exact ⟨_, rfl, rfl, hRt.out _ _ hb hb2⟩))))
      simp only [Act.put, List.setIfInBounds_toArray, List.set_cons_zero, List.set_cons_succ]
    apply Flow.flow_nil
    clear hRc hRt
    intro w1 hb
    obtain ⟨hc, hf⟩ := Flow.bcell hb
    have hz := hb.size
    (try simp only [World.size_alloc, World.size_setCell, World.size_drew] at hz)
    obtain ⟨z0, z1⟩ := Flow.zs2 (show w.heap.size + 2 ≤ w1.heap.size by omega)
    go_wp2
    refine Flow.bodyPost_k rfl (fun K hK => ?_)
    simp only [results, Tryz.results84]
    go_simp
    refine hK _ ⟨?_, ?_⟩
    · exact ret_vv (by simp [Vb.Unary.sext, h])
    · (repeat (first | exact Below.refl _ _ | refine Below.setCell ?_ (by first | omega | (simp <;> omega)) _ | refine Below.alloc ?_ (by first | omega | (simp <;> omega)) _ | refine Below.drew ?_ | refine Below.trans ?_ (Below.mono (by assumption) (by first | omega | (simp <;> omega)))))
  · go_enter Tryz.func84, Tryz.ntmps84
    go_wp2_with fail
    refine Flow.wp_region_below 10 (by kernel_rfl) (by kernel_rfl) (fun R hRc hRt => ?_)
    simp only [List.take_succ_cons, List.take_zero, List.drop_succ_cons, List.drop_zero]
    iterate 10
      first
        | refine Flow.flow_skip rfl ?_
        | (apply Flow.flow_step; rfl; (intro w1 hb; have hc := hRc.out w1 hb; go_simp; (first | with_reducible exact ⟨rfl, hb⟩ | (go_at_call 81; refine (ones_c _ _).mono ?_; rintro e w2 ⟨rfl, hb2⟩; exact ⟨_, rfl, rfl, hRt.out _ _ hb hb2⟩))))
      simp only [Act.put, List.setIfInBounds_toArray, List.set_cons_zero, List.set_cons_succ]
    apply Flow.flow_nil
    clear hRc hRt
    intro w1 hb
    obtain ⟨hc, hf⟩ := Flow.bcell hb
    have hz := hb.size
    (try simp only [World.size_alloc, World.size_setCell, World.size_drew] at hz)
    obtain ⟨z0, z1⟩ := Flow.zs2 (show w.heap.size + 2 ≤ w1.heap.size by omega)
    go_wp2_with fail
    refine Flow.wp_region_below 8 (by kernel_rfl) (by kernel_rfl) (fun R hRc hRt => ?_)
    simp only [List.take_succ_cons, List.take_zero, List.drop_succ_cons, List.drop_zero]
    iterate 8
      first
        | refine Flow.flow_skip rfl ?_
        | (apply Flow.flow_step; rfl; (intro w1 hb; have hc := hRc.out w1 hb; go_simp; (first | with_reducible exact ⟨rfl, hb⟩ | (go_at_call 81; refine (ones_c _ _).mono ?_; rintro e w2 ⟨rfl, hb2⟩; exact ⟨_, rfl, rfl, hRt.out _ _ hb hb2⟩) | (go_at_call 80; refine (without_c _ _ _).mono ?_; rintro e w2 ⟨rfl, hb2⟩; exact ⟨_, rfl, rfl, hRt.out _ _ hb hb2⟩) | (go_at_call 68; refine (or_c _ _ _).mono ?_; rintro e w2 ⟨rfl, hb2⟩; exact ⟨_, rfl, rfl, hRt.out _ _ hb hb2⟩))))
      simp only [Act.put, List.setIfInBounds_toArray, List.set_cons_zero, List.set_cons_succ]
    apply Flow.flow_nil
    clear hRc hRt
    intro w1 hb
    obtain ⟨hc, hf⟩ := Flow.bcell hb
    have hz := hb.size
    (try simp only [World.size_alloc, World.size_setCell, World.size_drew] at hz)
    obtain ⟨z0, z1⟩ := Flow.zs2 (show w.heap.size + 2 ≤ w1.heap.size by omega)
    go_wp2
    refine Flow.bodyPost_k rfl (fun K hK => ?_)
    simp only [results, Tryz.results84]
    go_simp
    refine hK _ ⟨?_, ?_⟩
    · exact ret_vv (by simp [Vb.Unary.sext, h])
    · (repeat (first | exact Below.refl _ _ | refine Below.setCell ?_ (by first | omega | (simp <;> omega)) _ | refine Below.alloc ?_ (by first | omega | (simp <;> omega)) _ | refine Below.drew ?_ | refine Below.trans ?_ (Below.mono (by assumption) (by first | omega | (simp <;> omega)))))
end Go.Proofs.YtboknfppecgjmaaGreat
namespace Go.Proofs.YtboknfppecgjmaaGreat
set_option linter.unusedVariables false
set_option linter.unusedSimpArgs false
open Go.RowKit Go.Shelf
theorem un_word_c (u : Vb.Unary) (h0 : 0 ≤ u.off) (h3 : u.off ≤ 3) (w : World) : Calls Tryz.prog 92 #[unv u] w fun e w' => e = .returned (vv u.word) ∧ Below w.heap.size w w' := by
  have hcs : u.off = 0 ∨ u.off = 1 ∨ u.off = 2 ∨ u.off = 3 := by omega
  clear h0 h3
  obtain ⟨x, a, from_, to, off⟩ := u
  simp only at hcs
  rcases hcs with rfl | rfl | rfl | rfl
  all_goals
    go_enter Tryz.func92, Tryz.ntmps92
    go_wp2_with (go_at_call 132; refine (word_c _ _).mono ?_; rintro e w1 ⟨rfl, hb⟩; obtain ⟨hc, hf⟩ := Flow.bcell hb; have hz := hb.size; (try simp only [World.size_alloc, World.size_setCell, World.size_drew] at hz); obtain ⟨z0, z1⟩ := Flow.zs2 (show w.heap.size + 2 ≤ w1.heap.size by omega))
    refine Flow.bodyPost_k rfl (fun K hK => ?_)
    simp only [results, Tryz.results92]
    go_simp
    refine hK _ ⟨?_, ?_⟩
    · rfl
    · (repeat (first | exact Below.refl _ _ | refine Below.setCell ?_ (by first | omega | (simp <;> omega)) _ | refine Below.alloc ?_ (by first | omega | (simp <;> omega)) _ | refine Below.drew ?_ | refine Below.trans ?_ (Below.mono (by assumption) (by first | omega | (simp <;> omega)))))
theorem un_mask_c (u : Vb.Unary) (w : World) : Calls Tryz.prog 93 #[unv u] w fun e w' => e = .returned (vv u.mask) ∧ Below w.heap.size w w' := by
  go_enter Tryz.func93, Tryz.ntmps93
  go_wp2
  refine wp_loop_rounds 17 ?_
  iterate 16
    rw [rounds_succ]
    go_wp2
  rw [rounds_succ]
  go_wp2_with (go_at_call 132; refine (word_c _ _).mono ?_; rintro e w1 ⟨rfl, hb⟩; obtain ⟨hc, hf⟩ := Flow.bcell hb; have hz := hb.size; (try simp only [World.size_alloc, World.size_setCell, World.size_drew] at hz); obtain ⟨z0, z1⟩ := Flow.zs2 (show w.heap.size + 2 ≤ w1.heap.size by omega))
  refine Flow.bodyPost_k rfl (fun K hK => ?_)
  simp only [results, Tryz.results93]
  go_simp
  refine hK _ ⟨?_, ?_⟩
  · exact ret_vv (x := V.word _) (congrArg V.word (by simp [Vb.maskTo, V.get]))
  · (repeat (first | exact Below.refl _ _ | refine Below.setCell ?_ (by first | omega | (simp <;> omega)) _ | refine Below.alloc ?_ (by first | omega | (simp <;> omega)) _ | refine Below.drew ?_ | refine Below.trans ?_ (Below.mono (by assumption) (by first | omega | (simp <;> omega)))))
end Go.Proofs.YtboknfppecgjmaaGreat
namespace Go.Proofs.YtboknfppecgjmaaGreat
set_option linter.unusedVariables false
set_option linter.unusedSimpArgs false
open Go.RowKit Go.Shelf
attribute [local go_sem] Oper.semAt_some
def fr (width k : Nat) : List (Fin 32) := (List.range k).map fun j => Fin.ofNat 32 (j * width)
theorem fr_succ (width k : Nat) : fr width (k + 1) = fr width k ++ [Fin.ofNat 32 (k * width)] := by simp [fr, List.range_succ]
theorem fr_len (width k : Nat) : (fr width k).length = k := by simp [fr]
def SameAt (b : Nat) (W W' : World) : Prop := W'.heap[b]? = W.heap[b]? ∧ W.heap.size ≤ W'.heap.size
theorem SameAt.trans {b : Nat} {A B C : World} (h : SameAt b A B) (k : SameAt b B C) : SameAt b A C := ⟨k.1.trans h.1, Nat.le_trans h.2 k.2⟩
def laneMask (width : Nat) : BitVec 32 := (1#32 <<< width) - 1#32
abbrev laneEnc (width : Nat) (x : Fin 32) : Array Value := #[iv (x.val : Nat), uv (laneMask width <<< x.val)]
theorem fin_val (a : Nat) (h : a < 32) : (Fin.ofNat 32 a).val = a := by simp [Fin.ofNat]; omega
theorem lanes1_in (width : Nat) (hw : width = 8 ∨ width = 16 ∨ width = 32) (n : Nat) (hn : 1 ≤ n) (l Bw : Nat) (J Jx : List (Fin 32) → World → Prop)
    (hY : ∀ pre x W, J pre W → pre.length < 32 → YieldAt Fence.wide (n - 1) Tryz.prog l (laneEnc width x) W fun e W' =>
      (e = .returned (.bool true) ∧ J (pre ++ [x]) W' ∧ SameAt Bw W W') ∨ (e = .returned (.bool false) ∧ Jx (pre ++ [x]) W'))
    (W : World) (hBw : W.cell? ⟨Bw, 0, none⟩ = some (iv (width : Nat))) (h0 : J [] W) :
    CallsIn Fence.wide n Tryz.prog 146 #[.func (.yield l) #[] #[], .pointer (some ⟨Bw, 0, none⟩)] W fun e W' => (∃ v, e = .returned v) ∧
      ((∃ xs, xs = fr width (32 / width) ∧ J xs W') ∨ (∃ pre, True ∧ Jx pre W')) := by
  have h1 : (1 : Int) ≤ width := by omega
  have h2 : (width : Int) ≤ 32 := by omega
  refine callsIn_of_wp Tryz.func146 rfl trivial ?_ rfl
  simp only [Tryz.ntmps146, List.size_toArray, List.length_cons, List.length_nil, Nat.reduceAdd, Nat.reduceSub, Array.replicate_succ, Array.replicate_zero, List.push_toArray, List.append_toArray, List.nil_append, List.cons_append]
  gi_wp2
  simp only [shl_u32, sub_u32]
  gi_loopw [4] (fun p wr => ∃ k : Nat, p = iv ((k * width : Nat)) ∧ k * width ≤ 32 ∧ wr.cell? ⟨Bw, 0, none⟩ = some (iv (width : Nat)) ∧ J (fr width k) wr)
    (fun p _ => 32 - (intOf p).toNat)
  case atStart =>
    exact ⟨0, by simp, by omega, hBw, h0⟩
  case round =>
    obtain ⟨k, rfl, hk, hc, hJs⟩ := hrel
    by_cases hlt : k * width < 32
    · obtain ⟨fn, tmps, assign, body, hy, hR⟩ := hY (fr width k) (Fin.ofNat 32 (k * width)) wr hJs (by rw [fr_len]; have : k * 1 ≤ k * width := Nat.mul_le_mul_left _ (by omega); omega)
      simp only [laneEnc, laneMask, fin_val _ hlt, Int.natCast_mul] at hy
      gi_wp2
      refine hR.mono ?_
      rintro e W3 (⟨rfl, hJ3, hk3⟩ | ⟨rfl, hJx3⟩)
      · have hc3 : W3.cell? ⟨Bw, 0, none⟩ = some (iv (width : Nat)) := (World.cell?_of_block (a := ⟨Bw, 0, none⟩) hk3.1).trans hc
        have hkm : (k + 1) * width = k * width + width := by rw [Nat.add_mul, Nat.one_mul]
        have hle : (k + 1) * width ≤ 32 := by rcases hw with rfl | rfl | rfl <;> omega
        have hadd : ((k : Int) * (width : Int)) + (width : Int) = (((k + 1) * width : Nat) : Int) := by rw [hkm]; simp
        have HA := Lib.hid hadd
        have HK := Lib.hid hkm
        have h64 : (0 : Int) ≤ (k : Int) * (width : Int) := by rw [← Int.natCast_mul]; omega
        have h65 : (k : Int) * (width : Int) ≤ 32 := by rw [← Int.natCast_mul]; omega
        clear hadd hkm hc hy hR
        gi_wp2
        go_roundw
        case rel => exact ⟨k + 1, by rw [← HA.out], hle, hc3, by rw [fr_succ]; exact hJ3⟩
        case measure => simp only [intOf]; have := HK.out; omega
      · gi_wp2
        refine bodyPost_ret (results_none rfl _ _ _) rfl ?_
        exact ⟨⟨_, rfl⟩, .inr ⟨_, trivial, hJx3⟩⟩
    · gi_wp2
      go_end0
      have hk2 : k = 32 / width := by
        rcases hw with rfl | rfl | rfl <;> omega
      subst hk2
      exact ⟨⟨_, rfl⟩, .inl ⟨_, rfl, hJs⟩⟩
theorem lanes1_stops (width : Nat) (hw : width = 8 ∨ width = 16 ∨ width = 32) (n : Nat) (hn : 1 ≤ n) (Bw : Nat) (w : World) (hb : Bw < w.heap.size) (hBw : w.cell? ⟨Bw, 0, none⟩ = some (iv (width : Nat))) :
    SeqStopsK Fence.wide n Tryz.prog 146 #[.pointer (some ⟨Bw, 0, none⟩)] (laneEnc width) (SameAt Bw) (fun xs => xs = fr width (32 / width)) (fun _ => True) 32 w := by
  intro l J Jx W hW hJ hJx hY h0
  exact lanes1_in width hw n hn l Bw J Jx hY W ((hW.cell (p := ⟨Bw, 0, none⟩) hb).trans hBw) h0
theorem lanes_c (width : Int) (w : World) : Calls Tryz.prog 144 #[iv width] w fun e w' => e = .returned (.func (.func 146) #[] #[.pointer (some ⟨w.heap.size, 0, none⟩)]) ∧ w' = w.alloc (.cells #[iv width] 3) := by
  go_enter Tryz.func144, Tryz.ntmps144
  go_wp2
  go_ret
  exact ⟨rfl, rfl⟩
end Go.Proofs.YtboknfppecgjmaaGreat
namespace Go.Proofs.YtboknfppecgjmaaGreat
set_option linter.unusedVariables false
set_option linter.unusedSimpArgs false
open Go.RowKit Go.Shelf
structure EachSt (w : World) (x a y b : V) (g : Nat) (o : V) (ds : List Nat) (W : World) : Prop where
  bel : Below w.heap.size w W
  size : w.heap.size + 7 ≤ W.heap.size
  c0 : W.heap[w.heap.size]? = some (.cells #[uv x.a, uv x.b, uv x.c, uv x.d] 69 (0, 0))
  c1 : W.heap[w.heap.size + 1]? = some (.cells #[uv a.a, uv a.b, uv a.c, uv a.d] 69 (0, 0))
  c2 : W.heap[w.heap.size + 1 + 1]? = some (.cells #[uv y.a, uv y.b, uv y.c, uv y.d] 69 (0, 0))
  c3 : W.heap[w.heap.size + 1 + 1 + 1]? = some (.cells #[uv b.a, uv b.b, uv b.c, uv b.d] 69 (0, 0))
  c4 : W.heap[w.heap.size + 1 + 1 + 1 + 1]? = some (.cells #[.func (.func g) #[] #[]] 115 (0, 0))
  c5 : W.heap[w.heap.size + 1 + 1 + 1 + 1 + 1]? = some (.cells #[uv 0#32, uv 0#32, uv 0#32, uv 0#32] 69 (0, 0))
  c6 : W.heap[w.heap.size + 1 + 1 + 1 + 1 + 1 + 1]? = some (.cells #[uv o.a, uv o.b, uv o.c, uv o.d] 69 (0, 0))
  marks : ∀ D ∈ ds, w.heap.size + 7 ≤ D ∧ W.heap[D]? = some (.deferred (some []))
  once : ds.Nodup
namespace EachSt
variable {w : World} {x a y b : V} {g : Nat} {o : V} {ds : List Nat} {W W' : World}
theorem mark_lt (h : EachSt w x a y b g o ds W) {D : Nat} (hD : D ∈ ds) : D < W.heap.size := (Array.getElem?_eq_some_iff.1 (h.marks D hD).2).1
theorem kept (h : EachSt w x a y b g o ds W) {M : Nat} (hb : Below M W W') (hM : w.heap.size + 7 ≤ M) (hd : ∀ D ∈ ds, D < M) : EachSt w x a y b g o ds W' :=
  ⟨h.bel.trans (hb.mono (by omega)), Nat.le_trans h.size hb.size, (hb.block _ (by omega)).trans h.c0, (hb.block _ (by omega)).trans h.c1, (hb.block _ (by omega)).trans h.c2, (hb.block _ (by omega)).trans h.c3,
    (hb.block _ (by omega)).trans h.c4, (hb.block _ (by omega)).trans h.c5, (hb.block _ (by omega)).trans h.c6, fun D hD => ⟨(h.marks D hD).1, (hb.block D (hd D hD)).trans (h.marks D hD).2⟩, h.once⟩
theorem below (h : EachSt w x a y b g o ds W) (hb : Below W.heap.size W W') : EachSt w x a y b g o ds W' := h.kept hb h.size (fun _ hD => h.mark_lt hD)
theorem more (h : EachSt w x a y b g o ds W) {D : Nat} (hD : w.heap.size + 7 ≤ D) (hn : D ∉ ds) (hk : W.heap[D]? = some (.deferred (some []))) : EachSt w x a y b g o (D :: ds) W :=
  ⟨h.bel, h.size, h.c0, h.c1, h.c2, h.c3, h.c4, h.c5, h.c6, fun E hE => by
      rcases List.mem_cons.1 hE with rfl | hE
      · exact ⟨hD, hk⟩
      · exact h.marks E hE, List.nodup_cons.2 ⟨hn, h.once⟩⟩
theorem store (h : EachSt w x a y b g o ds W) (i : Nat) (hi : i < 4) (v : BitVec 32) : EachSt w x a y b g (o.set i v) ds (W.setCell ⟨w.heap.size + 1 + 1 + 1 + 1 + 1 + 1, i, none⟩ (uv v)) := by
  have hne : ∀ k, k ≠ w.heap.size + 6 → (W.setCell ⟨w.heap.size + 1 + 1 + 1 + 1 + 1 + 1, i, none⟩ (uv v)).heap[k]? = W.heap[k]? := fun k hk => Below.heap_setCell _ _ _ _ (by simp only []; omega)
  refine ⟨h.bel.setCell (by simp only []; omega) _, by rw [World.size_setCell]; exact h.size, (hne _ (by omega)).trans h.c0, (hne _ (by omega)).trans h.c1, (hne _ (by omega)).trans h.c2, (hne _ (by omega)).trans h.c3, (hne _ (by omega)).trans h.c4, (hne _ (by omega)).trans h.c5, ?_, fun D hD => ⟨(h.marks D hD).1, (hne _ (by have := (h.marks D hD).1; omega)).trans (h.marks D hD).2⟩, h.once⟩
  rw [heap_setCell_same _ _ _ _ _ _ h.c6]
  have hcs : i = 0 ∨ i = 1 ∨ i = 2 ∨ i = 3 := by omega
  rcases hcs with rfl | rfl | rfl | rfl <;> rfl
end EachSt
def laneAcc (width : Nat) (f : BitVec 32 → BitVec 32 → BitVec 32 → BitVec 32 → BitVec 32) (x a y b : BitVec 32) (pre : List (Fin 32)) : BitVec 32 :=
  pre.foldl (fun acc k => let m := laneMask width <<< k.val; acc ||| ((f ((x &&& m) >>> k.val) ((a &&& m) >>> k.val) ((y &&& m) >>> k.val) ((b &&& m) >>> k.val) <<< k.val) &&& m)) 0
theorem laneAcc_snoc (width : Nat) (f : BitVec 32 → BitVec 32 → BitVec 32 → BitVec 32 → BitVec 32) (x a y b : BitVec 32) (pre : List (Fin 32)) (k : Fin 32) :
    laneAcc width f x a y b (pre ++ [k]) = laneAcc width f x a y b pre ||| ((f ((x &&& laneMask width <<< k.val) >>> k.val) ((a &&& laneMask width <<< k.val) >>> k.val) ((y &&& laneMask width <<< k.val) >>> k.val) ((b &&& laneMask width <<< k.val) >>> k.val) <<< k.val) &&& laneMask width <<< k.val) := by
  simp [laneAcc, List.foldl_append]
theorem laneAcc_all (width : Nat) (hw : width = 8 ∨ width = 16 ∨ width = 32) (f : BitVec 32 → BitVec 32 → BitVec 32 → BitVec 32 → BitVec 32) (x a y b : BitVec 32) :
    laneAcc width f x a y b (fr width (32 / width)) = Vb.eachWord width f x a y b := by
  rcases hw with rfl | rfl | rfl <;> rfl
theorem vset_get (o : V) (i : Nat) (hi : i < 4) (v : BitVec 32) : (o.set i v).get i = v := by
  have hcs : i = 0 ∨ i = 1 ∨ i = 2 ∨ i = 3 := by omega
  rcases hcs with rfl | rfl | rfl | rfl <;> rfl
theorem vset_set (o : V) (i : Nat) (u v : BitVec 32) : (o.set i u).set i v = o.set i v := by
  simp only [V.set, V.mk.injEq]
  refine ⟨?_, ?_, ?_, ?_⟩ <;> split <;> rfl
theorem each_start (w : World) (x a y b : V) (g : Nat) : EachSt w x a y b g V.zero []
    (((((((w.alloc (.cells #[uv x.a, uv x.b, uv x.c, uv x.d] 69)).alloc (.cells #[uv a.a, uv a.b, uv a.c, uv a.d] 69)).alloc (.cells #[uv y.a, uv y.b, uv y.c, uv y.d] 69)).alloc (.cells #[uv b.a, uv b.b, uv b.c, uv b.d] 69)).alloc (.cells #[.func (.func g) #[] #[]] 115)).alloc (.cells #[uv 0#32, uv 0#32, uv 0#32, uv 0#32] 69)).alloc (.cells #[uv 0#32, uv 0#32, uv 0#32, uv 0#32] 69)) := by
  have hb : Below w.heap.size w (((((((w.alloc (.cells #[uv x.a, uv x.b, uv x.c, uv x.d] 69)).alloc (.cells #[uv a.a, uv a.b, uv a.c, uv a.d] 69)).alloc (.cells #[uv y.a, uv y.b, uv y.c, uv y.d] 69)).alloc (.cells #[uv b.a, uv b.b, uv b.c, uv b.d] 69)).alloc (.cells #[.func (.func g) #[] #[]] 115)).alloc (.cells #[uv 0#32, uv 0#32, uv 0#32, uv 0#32] 69)).alloc (.cells #[uv 0#32, uv 0#32, uv 0#32, uv 0#32] 69)) := by
    (repeat (first | exact Below.refl _ _ | refine Below.setCell ?_ (by first | omega | (simp <;> omega)) _ | refine Below.alloc ?_ (by first | omega | (simp <;> omega)) _ | refine Below.drew ?_ | refine Below.trans ?_ (Below.mono (by assumption) (by first | omega | (simp <;> omega)))))
  refine ⟨hb, by simp, ?_, ?_, ?_, ?_, ?_, ?_, ?_, by simp, by simp⟩ <;> (simp only [World.alloc, Array.getElem?_push, Array.size_push, V.zero]; repeat (first | rfl | (rw [if_pos (by omega)]; done) | rw [if_neg (by omega)] | rw [if_pos (by omega)]))
theorem each_range {assign body : Code} {Q : Exit → Act → World → Prop} (T : Array Value) (dd : List Deferred) (width : Nat) (hw : width = 8 ∨ width = 16 ∨ width = 32) (n : Nat) (hn : 6 ≤ n) (i : Nat) (hi : i < 4)
    {w : World} {x a y b : V} {g : Nat} {o : V} {ds : List Nat} {W : World} (f : BitVec 32 → BitVec 32 → BitVec 32 → BitVec 32 → BitVec 32) (hS : EachSt w x a y b g o ds W) (ho : o.get i = 0#32)
    (hT : T.getD 22 undef = .func (.func 146) #[] #[.pointer (some ⟨W.heap.size + 1, 0, none⟩)])
    (hassign : ∀ (l : Nat) (k : Fin 32) (V : World) (K : Act → World → Prop),
      K ⟨(((T.setIfInBounds 23 (iv (k.val : Nat))).setIfInBounds 24 (uv (laneMask width <<< k.val))).setIfInBounds 15 (.pointer (some ⟨V.heap.size, 0, none⟩))).setIfInBounds 16 (.pointer (some ⟨V.heap.size + 1, 0, none⟩)), []⟩
        ((V.alloc (.cells #[iv (k.val : Nat)] 3)).alloc (.cells #[uv (laneMask width <<< k.val)] 22)) →
      assign.wpIn (Fence.wide.inRound l) (n - 1 - 1) Tryz.prog (Exit.then K (fun _ _ _ => False)) ⟨(T.setIfInBounds 23 (iv (k.val : Nat))).setIfInBounds 24 (uv (laneMask width <<< k.val)), []⟩ V)
    (hbody : ∀ (l : Nat) (k : Fin 32) (o' : V) (V : World) (Bf Bm : Nat), EachSt w x a y b g o' ds V → V.cell? ⟨W.heap.size, 0, none⟩ = some (iv (i : Nat)) → V.cell? ⟨Bf, 0, none⟩ = some (iv (k.val : Nat)) → V.cell? ⟨Bm, 0, none⟩ = some (uv (laneMask width <<< k.val)) →
      W.heap.size < V.heap.size → Bf < V.heap.size → Bm < V.heap.size →
      body.wpIn (Fence.wide.inRound l) (n - 1 - 1) Tryz.prog (fun e _ V' => e = .normal ∧ ∃ V1, Below V.heap.size V V1 ∧ V' = V1.setCell ⟨w.heap.size + 1 + 1 + 1 + 1 + 1 + 1, i, none⟩ (uv (o'.get i ||| ((f ((x.get i &&& laneMask width <<< k.val) >>> k.val) ((a.get i &&& laneMask width <<< k.val) >>> k.val) ((y.get i &&& laneMask width <<< k.val) >>> k.val) ((b.get i &&& laneMask width <<< k.val) >>> k.val) <<< k.val) &&& laneMask width <<< k.val))))
        ⟨(((T.setIfInBounds 23 (iv (k.val : Nat))).setIfInBounds 24 (uv (laneMask width <<< k.val))).setIfInBounds 15 (.pointer (some ⟨Bf, 0, none⟩))).setIfInBounds 16 (.pointer (some ⟨Bm, 0, none⟩)), []⟩ V)
    (hdone : ∀ (D : Nat) (V : World), EachSt w x a y b g (o.set i (Vb.eachWord width f (x.get i) (a.get i) (y.get i) (b.get i))) (D :: ds) V → Q .normal ⟨T, { target := .collected D, args := #[] } :: dd⟩ V) :
    (Code.rangeFunc (.tmp 22) #[23, 24] assign body).wpIn Fence.wide n Tryz.prog Q ⟨T, dd⟩ ((W.alloc (.cells #[iv (i : Nat)] 3)).alloc (.cells #[iv (width : Nat)] 3)) := by
  obtain ⟨W2, hW2⟩ : ∃ W2, (W.alloc (.cells #[iv (i : Nat)] 3)).alloc (.cells #[iv (width : Nat)] 3) = W2 := ⟨_, rfl⟩
  have hz2 : W2.heap.size = W.heap.size + 2 := by rw [← hW2]; simp
  have hbel : Below W.heap.size W W2 := by rw [← hW2]; exact ((Below.refl _ W).alloc (Nat.le_refl _) _).alloc (by simp) _
  have hS2 : EachSt w x a y b g o ds W2 := hS.below hbel
  have hbi : Boxed W2 W.heap.size 3 (iv (i : Nat)) := by rw [← hW2]; exact (Boxed.new W _ _).alloc _
  have hbw : Boxed W2 (W.heap.size + 1) 3 (iv (width : Nat)) := by rw [← hW2]; have := Boxed.new (W.alloc (.cells #[iv (i : Nat)] 3)) 3 (iv (width : Nat)); rwa [World.size_alloc] at this
  have hN := hS.size
  have hdlt : ∀ D ∈ ds, D < W2.heap.size := fun D hD => by have := hS.mark_lt hD; omega
  rw [hW2]
  refine wpIn_rangeFunc_ownH (F := Fence.wide) (n := n) rfl (by omega) (gf := 146) (lb := #[.pointer (some ⟨W.heap.size + 1, 0, none⟩)]) hT trivial (enters_of Tryz.func146 (by kernel_rfl) rfl)
    (lanes1_stops width hw (n - 1) (by omega) (W.heap.size + 1) W2 (by omega) hbw.cell) SameAt.trans
    (fun V l o1 o2 hl hv _ _ => ⟨by simp only [World.putObj]; rw [Array.getElem?_setIfInBounds_ne (by omega)], by simp [World.putObj]⟩) (Below.refl _ _) (fun _ => rfl)
    (fun pre V => EachSt w x a y b g (o.set i (laneAcc width f (x.get i) (a.get i) (y.get i) (b.get i) pre)) ds V ∧ Boxed V W.heap.size 3 (iv (i : Nat)) ∧ W2.heap.size ≤ V.heap.size)
    (fun _ _ _ => False) ?_ (fun _ _ _ _ _ h _ _ => h) ?_
    (fun k a' V => ∃ Bf Bm, W2.heap.size ≤ Bf ∧ W2.heap.size ≤ Bm ∧ Boxed V Bf 3 (iv (k.val : Nat)) ∧ Boxed V Bm 22 (uv (laneMask width <<< k.val)) ∧ a' = ⟨(((T.setIfInBounds 23 (iv (k.val : Nat))).setIfInBounds 24 (uv (laneMask width <<< k.val))).setIfInBounds 15 (.pointer (some ⟨Bf, 0, none⟩))).setIfInBounds 16 (.pointer (some ⟨Bm, 0, none⟩)), []⟩)
    ?_ ?_ ?_ ?_ (fun _ _ _ _ _ _ h _ => h.elim)
  · rintro pre V V' row ⟨h1, h2, h3⟩ hg hr
    have hbB : Below W2.heap.size V V' := (Below.refl _ V).grown hg h3 (fun k e => (hr k e).1)
    exact ⟨h1.kept hbB (by omega) hdlt, (hbB.block _ (by omega)).trans h2, Nat.le_trans h3 hg.size⟩
  · refine ⟨?_, hbi, Nat.le_refl _⟩
    have : o.set i (laneAcc width f (x.get i) (a.get i) (y.get i) (b.get i) []) = o := by
      have hcs : i = 0 ∨ i = 1 ∨ i = 2 ∨ i = 3 := by omega
      cases o
      rcases hcs with rfl | rfl | rfl | rfl <;> simp_all [V.set, V.get, laneAcc]
    rw [this]; exact hS2
  · rintro k a' _ V V' row ⟨Bf, Bm, h1, h2, h3, h4, h5⟩ hg hr
    have hne : ∀ (B : Nat) (t : TypeId) (v : Value), Boxed V B t v → some B ≠ row := fun B t v hB e => by
      obtain ⟨_, o1, ho1, hc1⟩ := hr B e.symm
      rw [show V.heap[B]? = _ from hB] at ho1; cases ho1; cases hc1
    exact ⟨Bf, Bm, h1, h2, h3.kept hg (hne _ _ _ h3), h4.kept hg (hne _ _ _ h4), h5⟩
  · rintro l pre k V K ⟨h1, h2, h3⟩ hK
    have hfold : ((#[23, 24] : Array Tmp).zip (laneEnc width k)).foldl (fun t x => match x with | (p, v) => t.setIfInBounds p v) T = (T.setIfInBounds 23 (iv (k.val : Nat))).setIfInBounds 24 (uv (laneMask width <<< k.val)) := by
      simp [laneEnc]
    simp only [hfold]
    refine hassign l k V K (hK _ _ ?_ ?_ ⟨h1.below (((Below.refl _ V).alloc (Nat.le_refl _) _).alloc (by simp) _), (h2.alloc _).alloc _, by simp; omega⟩ ⟨V.heap.size, V.heap.size + 1, h3, by omega, (Boxed.new V _ _).alloc _, ?_, rfl⟩)
    · exact ((KeepsOthers.alloc V _).trans (KeepsOthers.alloc _ _)).from _
    · have hb := (((Below.refl V.heap.size V).alloc (Nat.le_refl _) (.cells #[iv (k.val : Nat)] 3)).alloc (by simp) (.cells #[uv (laneMask width <<< k.val)] 22))
      exact ⟨hb.block _ (by omega), hb.size⟩
    · have := Boxed.new (V.alloc (.cells #[iv (k.val : Nat)] 3)) 22 (uv (laneMask width <<< k.val)); rwa [World.size_alloc] at this
  · rintro l pre k a' V hl _ ⟨h1, h2, h3⟩ ⟨Bf, Bm, h4, h5, h6, h7, rfl⟩ hlen
    refine Code.wpIn_mono ?_ (hbody l k _ V Bf Bm h1 h2.cell h6.cell h7.cell (by omega) h6.lt h7.lt)
    rintro e a'' V' ⟨rfl, V1, hb1, rfl⟩
    have hs1 := h1.below hb1
    have hst := hs1.store i hi (((o.set i (laneAcc width f (x.get i) (a.get i) (y.get i) (b.get i) pre)).get i) ||| ((f ((x.get i &&& laneMask width <<< k.val) >>> k.val) ((a.get i &&& laneMask width <<< k.val) >>> k.val) ((y.get i &&& laneMask width <<< k.val) >>> k.val) ((b.get i &&& laneMask width <<< k.val) >>> k.val) <<< k.val) &&& laneMask width <<< k.val))
    have hz1 := hb1.size
    have hset : ∀ (u : Value) (j : Nat), j ≠ w.heap.size + 6 → (V1.setCell ⟨w.heap.size + 1 + 1 + 1 + 1 + 1 + 1, i, none⟩ u).heap[j]? = V1.heap[j]? := fun u j hj => Below.heap_setCell _ _ _ _ (by simp only []; omega)
    refine ⟨⟨by simp [World.size_setCell]; exact hz1, fun j oo hj hjo hc => ?_⟩, ⟨?_, by simp [World.size_setCell]; exact hz1⟩, ?_, ?_, by simp [World.size_setCell]; omega⟩
    · rw [hset _ _ (by omega), hb1.block j (Array.getElem?_eq_some_iff.1 hjo).1]; exact hjo
    · rw [hset _ _ (by omega), hb1.block _ (by omega)]
    · rw [laneAcc_snoc]
      rw [vset_set, vset_get _ _ hi] at hst
      rw [vset_get _ _ hi]
      exact hst
    · show _ = _
      rw [hset _ _ (by omega), hb1.block _ (by omega)]; exact h2
  · rintro D xs V hD rfl ⟨h1, h2, h3⟩ hmk
    refine hdone D V ?_
    rw [← laneAcc_all width hw]
    exact h1.more (by omega) (fun hm => by have := hS.mark_lt hm; omega) hmk
theorem leaves_marks {fn : Func} {tmps : Array Value} {R : Ending → World → Prop} {n N : Nat} : ∀ (ds : List Nat) (W : World), ds.Nodup → (∀ D ∈ ds, N ≤ D ∧ W.heap[D]? = some (.deferred (some []))) →
    (∀ W', Below N W W' → LeavesIn Fence.wide n Tryz.prog fn tmps R [] .returning W') → LeavesInM Fence.wide n Tryz.prog fn tmps R (ds.map fun D => { target := .collected D, args := #[] }) .returning W
  | [], W, _, _, h => h W (Below.refl _ _)
  | D :: ds, W, hnd, hm, h => by
    have hD := hm D (List.mem_cons_self ..)
    have hb : Below N W (W.putObj D (.deferred none)) := ⟨rfl, rfl, rfl, by simp [World.putObj], fun k hk => World.putObj_heap_other (by omega)⟩
    refine ⟨by simp, .inl ⟨_, _, rfl, run_takeDeferred hD.2, ?_⟩⟩
    refine leaves_marks ds _ (List.nodup_cons.1 hnd).2 (fun E hE => ⟨(hm E (List.mem_cons_of_mem _ hE)).1, ?_⟩) (fun W' hW' => h W' (hb.trans hW'))
    rw [World.putObj_heap_other (fun (e : E = D) => (List.nodup_cons.1 hnd).1 (e ▸ hE))]
    exact (hm E (List.mem_cons_of_mem _ hE)).2
end Go.Proofs.YtboknfppecgjmaaGreat
