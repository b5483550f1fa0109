/- Arguments that are words or vectors, opened and shut. -/
import Derived.Test.YtboknfppecgjmaaGreatBase
import Derived.ChangeSame
import Derived.ChangeArms
import Derived.Below
namespace Go.Proofs.YtboknfppecgjmaaGreat
set_option linter.unusedVariables false
set_option linter.unusedSimpArgs false
open Go.RowKit Go.ChangeShapes Go.WideShapes

section
variable {H : Type} {enc : TypeId × Value → H} {P : Program} {w : World} {base : Nat} {spare : Nat → Bool} {held : Bool} {fuel : Nat} {cs : List Value} {y : DataW H × List MemPlace} {t e : TypeId}

abbrev ud (x : BitVec 32) : DataW H := .lit (.int .u32 (U x))
abbrev vd (x : V) : DataW H := .agg [ud x.a, ud x.b, ud x.c, ud x.d]

theorem wf_U (x : BitVec 32) : (Lit.int .u32 (U x)).wf = true := by
  have h1 := U_nonneg x
  have h2 := U_lt x
  have e1 : IntKind.u32.min = 0 := rfl
  have e2 : IntKind.u32.max = 4294967295 := rfl
  simp only [Lit.wf, e1, e2, Bool.and_eq_true, decide_eq_true_eq]
  omega
theorem U_of_wf {n : Int} (h : (Lit.int .u32 n).wf = true) : n = U (BitVec.ofInt 32 n) := by
  have e1 : IntKind.u32.min = 0 := rfl
  have e2 : IntKind.u32.max = 4294967295 := rfl
  rw [← mod_u32]
  simp only [Lit.wf, e1, e2, Bool.and_eq_true, decide_eq_true_eq] at h
  omega
theorem trod_u32 (he : P.underlying e = some (.int .u32)) (h : DataW.trod enc P w base spare held fuel e cs = some y) : ∃ x, cs = [uv x] ∧ y = (ud x, []) := by
  obtain ⟨n, rfl, rfl, hw⟩ := DataW.trod_int he h
  obtain ⟨x, rfl⟩ : ∃ x, n = U x := ⟨_, U_of_wf hw⟩
  exact ⟨x, rfl, rfl⟩
theorem trod_u32_mk {n : Nat} (he : P.underlying e = some (.int .u32)) (x : BitVec 32) : DataW.trod enc P w base spare held (n + 1) e [uv x] = some (ud x, []) := by
  simp [DataW.trod, he, wf_U]
theorem take_one {l : List Value} {x : Value} {k : Nat} (h : (l.drop k).take 1 = [x]) : l[k]? = some x := by
  have : ((l.drop k).take 1)[0]? = some x := by rw [h]; rfl
  simpa [List.getElem?_take, List.getElem?_drop] using this
theorem trod_vec (ht : P.underlying t = some (.array 4 e)) (he : P.underlying e = some (.int .u32)) (hc : P.cellsOf e = 1) (hct : P.cellsOf t = 4) (h : DataW.trod enc P w base spare held fuel t cs = some y) :
    ∃ x : V, cs = [uv x.a, uv x.b, uv x.c, uv x.d] ∧ y = (vd x, []) := by
  cases fuel with
  | zero => simp [DataW.trod] at h
  | succ n =>
    rw [DataW.trod_step] at h
    unfold DataW.trodStep at h
    simp only [ht] at h
    split at h
    · rename_i hl
      rw [hct] at hl
      match cs, hl with
      | [c0, c1, c2, c3], _ =>
        simp only [hc, Option.map_eq_some_iff] at h
        obtain ⟨ys, hm, rfl⟩ := h
        have hr : List.range 4 = [0, 1, 2, 3] := rfl
        rw [hr] at hm
        simp only [List.mapM_cons, List.mapM_nil, bind, Option.bind_eq_some_iff, pure, Option.some.injEq] at hm
        obtain ⟨y0, h0, zs, ⟨y1, h1, z2, ⟨y2, h2, z3, ⟨y3, h3, z4, rfl, rfl⟩, rfl⟩, rfl⟩, rfl⟩ := hm
        obtain ⟨x0, e0, rfl⟩ := trod_u32 he h0
        obtain ⟨x1, e1, rfl⟩ := trod_u32 he h1
        obtain ⟨x2, e2, rfl⟩ := trod_u32 he h2
        obtain ⟨x3, e3, rfl⟩ := trod_u32 he h3
        simp at e0 e1 e2 e3
        exact ⟨⟨x0, x1, x2, x3⟩, by rw [e0, e1, e2, e3], rfl⟩
    · cases h
theorem trod_vec_mk {n : Nat} (ht : P.underlying t = some (.array 4 e)) (he : P.underlying e = some (.int .u32)) (hc : P.cellsOf e = 1) (hct : P.cellsOf t = 4) (x : V) :
    DataW.trod enc P w base spare held (n + 2) t [uv x.a, uv x.b, uv x.c, uv x.d] = some (vd x, []) := by
  rw [DataW.trod_step]
  unfold DataW.trodStep
  have hr : List.range 4 = [0, 1, 2, 3] := rfl
  simp only [ht, hct, hc, List.length_cons, List.length_nil, Nat.zero_add, Nat.reduceAdd, if_true, hr, List.mapM_cons, List.mapM_nil]
  simp [trod_u32_mk he]
theorem open_vec {r : Reach} {b0 : Nat} {v : Value} {d : DataW H} {ps : List MemPlace} (ht : P.underlying t = some (.array 4 e)) (he : P.underlying e = some (.int .u32)) (hc : P.cellsOf e = 1) (hct : P.cellsOf t = 4)
    (hval : Value.okWide P w r b0 t v) (hd : DataW.Trod enc P w base spare held t v d ps) : ∃ x : V, v = vv x ∧ d = vd x ∧ ps = [] := by
  simp only [Value.okWide, ht] at hval
  obtain ⟨cs, rfl, _, _⟩ := hval
  obtain ⟨fuel, hf⟩ := hd
  obtain ⟨x, hx, h2⟩ := trod_vec ht he hc hct hf
  simp only [Prod.mk.injEq] at h2
  refine ⟨x, ?_, h2.1, h2.2⟩
  obtain ⟨l⟩ := cs
  simp only [Value.cells] at hx
  subst hx
  rfl
theorem shut_vec (ht : P.underlying t = some (.array 4 e)) (he : P.underlying e = some (.int .u32)) (hc : P.cellsOf e = 1) (hct : P.cellsOf t = 4) (x : V) : DataW.Trod enc P w base spare held t (vv x) (vd x) [] :=
  ⟨2, trod_vec_mk (n := 0) ht he hc hct x⟩
theorem open_u32 {r : Reach} {b0 : Nat} {v : Value} {d : DataW H} {ps : List MemPlace} (he : P.underlying e = some (.int .u32))
    (hval : Value.okWide P w r b0 e v) (hd : DataW.Trod enc P w base spare held e v d ps) : ∃ x : BitVec 32, v = uv x ∧ d = ud x ∧ ps = [] := by
  obtain ⟨n, rfl, rfl, rfl, hw⟩ := open_int he hval hd
  obtain ⟨x, rfl⟩ : ∃ x, n = U x := ⟨_, U_of_wf hw⟩
  exact ⟨x, rfl, rfl, rfl⟩
theorem shut_u32 (he : P.underlying e = some (.int .u32)) (x : BitVec 32) : DataW.Trod enc P w base spare held e (uv x) (ud x) [] := shut_int he (wf_U x)
end
end Go.Proofs.YtboknfppecgjmaaGreat
