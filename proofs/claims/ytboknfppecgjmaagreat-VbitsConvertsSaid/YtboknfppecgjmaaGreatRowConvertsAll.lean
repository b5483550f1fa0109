/- VbitsConverts: for every input the law returns true; its arguments read as they did. -/
import Derived.Test.YtboknfppecgjmaaGreatBase
import Derived.ChangeSame
import Derived.ChangeArms
import Derived.Below
import Derived.Test.YtboknfppecgjmaaGreatCall
import Derived.RowKitTokens
import Derived.OpenShut
import Derived.Carry
import Derived.ChangeSlices
import Derived.Test.YtboknfppecgjmaaGreatSane
import Derived.Test.YtboknfppecgjmaaGreatCommutes
import Derived.Test.YtboknfppecgjmaaGreatConv
import Derived.Test.YtboknfppecgjmaaGreatPlainE
import Derived.Test.YtboknfppecgjmaaGreatRows
import Derived.WalkKit
import Derived.ProofKit
namespace Go.Proofs.YtboknfppecgjmaaGreat
set_option linter.unusedVariables false
set_option linter.unusedSimpArgs false
open Go.RowKit Go.ChangeShapes Go.WideShapes

section
variable {H : Type} {enc : TypeId × Value → H} {P : Program} {w : World} {base : Nat} {spare : Nat → Bool} {held : Bool} {fuel : Nat} {cs : List Value} {y : DataW H × List MemPlace} {t e : TypeId}

abbrev ud (x : BitVec 32) : DataW H := .lit (.int .u32 (U x))
abbrev vd (x : V) : DataW H := .agg [ud x.a, ud x.b, ud x.c, ud x.d]

theorem wf_U (x : BitVec 32) : (Lit.int .u32 (U x)).wf = true := by
  have h1 := U_nonneg x
  have h2 := U_lt x
  have e1 : IntKind.u32.min = 0 := rfl
  have e2 : IntKind.u32.max = 4294967295 := rfl
  simp only [Lit.wf, e1, e2, Bool.and_eq_true, decide_eq_true_eq]
  omega
theorem U_of_wf {n : Int} (h : (Lit.int .u32 n).wf = true) : n = U (BitVec.ofInt 32 n) := by
  have e1 : IntKind.u32.min = 0 := rfl
  have e2 : IntKind.u32.max = 4294967295 := rfl
  rw [← mod_u32]
  simp only [Lit.wf, e1, e2, Bool.and_eq_true, decide_eq_true_eq] at h
  omega
theorem trod_u32 (he : P.underlying e = some (.int .u32)) (h : DataW.trod enc P w base spare held fuel e cs = some y) : ∃ x, cs = [uv x] ∧ y = (ud x, []) := by
  obtain ⟨n, rfl, rfl, hw⟩ := DataW.trod_int he h
  obtain ⟨x, rfl⟩ : ∃ x, n = U x := ⟨_, U_of_wf hw⟩
  exact ⟨x, rfl, rfl⟩
theorem trod_u32_mk {n : Nat} (he : P.underlying e = some (.int .u32)) (x : BitVec 32) : DataW.trod enc P w base spare held (n + 1) e [uv x] = some (ud x, []) := by
  simp [DataW.trod, he, wf_U]
theorem take_one {l : List Value} {x : Value} {k : Nat} (h : (l.drop k).take 1 = [x]) : l[k]? = some x := by
  have : ((l.drop k).take 1)[0]? = some x := by rw [h]; rfl
  simpa [List.getElem?_take, List.getElem?_drop] using this
theorem trod_vec (ht : P.underlying t = some (.array 4 e)) (he : P.underlying e = some (.int .u32)) (hc : P.cellsOf e = 1) (hct : P.cellsOf t = 4) (h : DataW.trod enc P w base spare held fuel t cs = some y) :
    ∃ x : V, cs = [uv x.a, uv x.b, uv x.c, uv x.d] ∧ y = (vd x, []) := by
  cases fuel with
  | zero => simp [DataW.trod] at h
  | succ n =>
    rw [DataW.trod_step] at h
    unfold DataW.trodStep at h
    simp only [ht] at h
    split at h
    · rename_i hl
      rw [hct] at hl
      match cs, hl with
      | [c0, c1, c2, c3], _ =>
        simp only [hc, Option.map_eq_some_iff] at h
        obtain ⟨ys, hm, rfl⟩ := h
        have hr : List.range 4 = [0, 1, 2, 3] := rfl
        rw [hr] at hm
        simp only [List.mapM_cons, List.mapM_nil, bind, Option.bind_eq_some_iff, pure, Option.some.injEq] at hm
        obtain ⟨y0, h0, zs, ⟨y1, h1, z2, ⟨y2, h2, z3, ⟨y3, h3, z4, rfl, rfl⟩, rfl⟩, rfl⟩, rfl⟩ := hm
        obtain ⟨x0, e0, rfl⟩ := trod_u32 he h0
        obtain ⟨x1, e1, rfl⟩ := trod_u32 he h1
        obtain ⟨x2, e2, rfl⟩ := trod_u32 he h2
        obtain ⟨x3, e3, rfl⟩ := trod_u32 he h3
        simp at e0 e1 e2 e3
        exact ⟨⟨x0, x1, x2, x3⟩, by rw [e0, e1, e2, e3], rfl⟩
    · cases h
theorem trod_vec_mk {n : Nat} (ht : P.underlying t = some (.array 4 e)) (he : P.underlying e = some (.int .u32)) (hc : P.cellsOf e = 1) (hct : P.cellsOf t = 4) (x : V) :
    DataW.trod enc P w base spare held (n + 2) t [uv x.a, uv x.b, uv x.c, uv x.d] = some (vd x, []) := by
  rw [DataW.trod_step]
  unfold DataW.trodStep
  have hr : List.range 4 = [0, 1, 2, 3] := rfl
  simp only [ht, hct, hc, List.length_cons, List.length_nil, Nat.zero_add, Nat.reduceAdd, if_true, hr, List.mapM_cons, List.mapM_nil]
  simp [trod_u32_mk he]
theorem open_vec {r : Reach} {b0 : Nat} {v : Value} {d : DataW H} {ps : List MemPlace} (ht : P.underlying t = some (.array 4 e)) (he : P.underlying e = some (.int .u32)) (hc : P.cellsOf e = 1) (hct : P.cellsOf t = 4)
    (hval : Value.okWide P w r b0 t v) (hd : DataW.Trod enc P w base spare held t v d ps) : ∃ x : V, v = vv x ∧ d = vd x ∧ ps = [] := by
  simp only [Value.okWide, ht] at hval
  obtain ⟨cs, rfl, _, _⟩ := hval
  obtain ⟨fuel, hf⟩ := hd
  obtain ⟨x, hx, h2⟩ := trod_vec ht he hc hct hf
  simp only [Prod.mk.injEq] at h2
  refine ⟨x, ?_, h2.1, h2.2⟩
  obtain ⟨l⟩ := cs
  simp only [Value.cells] at hx
  subst hx
  rfl
theorem shut_vec (ht : P.underlying t = some (.array 4 e)) (he : P.underlying e = some (.int .u32)) (hc : P.cellsOf e = 1) (hct : P.cellsOf t = 4) (x : V) : DataW.Trod enc P w base spare held t (vv x) (vd x) [] :=
  ⟨2, trod_vec_mk (n := 0) ht he hc hct x⟩
theorem open_u32 {r : Reach} {b0 : Nat} {v : Value} {d : DataW H} {ps : List MemPlace} (he : P.underlying e = some (.int .u32))
    (hval : Value.okWide P w r b0 e v) (hd : DataW.Trod enc P w base spare held e v d ps) : ∃ x : BitVec 32, v = uv x ∧ d = ud x ∧ ps = [] := by
  obtain ⟨n, rfl, rfl, rfl, hw⟩ := open_int he hval hd
  obtain ⟨x, rfl⟩ : ∃ x, n = U x := ⟨_, U_of_wf hw⟩
  exact ⟨x, rfl, rfl, rfl⟩
theorem shut_u32 (he : P.underlying e = some (.int .u32)) (x : BitVec 32) : DataW.Trod enc P w base spare held e (uv x) (ud x) [] := shut_int he (wf_U x)
end
end Go.Proofs.YtboknfppecgjmaaGreat
namespace Go.Proofs.YtboknfppecgjmaaGreat
set_option linter.unusedVariables false
set_option linter.unusedSimpArgs false
open Go.RowKit Go.ChangeShapes Go.WideShapes
theorem own : ownKnob Tryz.prog.godebug = none := by kernel_rfl
theorem laidOut : laidOutB Tryz.prog = true := by kernel_rfl
theorem cells_u32 : Tryz.prog.cellsOf 22 = 1 := by kernel_rfl
theorem cells_Vec : Tryz.prog.cellsOf 24 = 4 := by kernel_rfl
section
variable {H : Type} {enc : TypeId × Value → H} {P : Program}
theorem below_trodAll {W W' : World} (hl : laidOutB P = true) (hb : Below W.heap.size W W') : ∀ (ts : List TypeId) (vs : List Value) (ds : List (DataW H)) (ps : List MemPlace),
    ts.all (fun t => P.readableRec t && decide (t < P.types.size)) = true → (∀ x ∈ ps, x.block < W.heap.size) → DataW.TrodAll enc P W 0 (fun _ => true) true ts vs ds ps →
    DataW.TrodAll enc P W' 0 (fun b => decide (b < W.heap.size)) true ts vs ds ps
  | [], _, _, _, _, _, h => by
    obtain ⟨rfl, rfl, rfl⟩ := trodAll_nil h
    exact trodAll_mk0
  | t :: ts, vs, ds, ps, hk, hlt, h => by
    obtain ⟨v, vs', d, ds', p, q, rfl, rfl, rfl, h0, hr⟩ := trodAll_cons h
    simp only [List.all_cons, Bool.and_eq_true, decide_eq_true_eq] at hk
    exact trodAll_cons_mk (Below.trod hl hk.1.1 hk.1.2 h0 hb (fun x hx => hlt x (List.mem_append_left _ hx)))
      (below_trodAll hl hb ts vs' ds' q (by simpa using hk.2) (fun x hx => hlt x (List.mem_append_right _ hx)) hr)
/-- The law's end: true is returned, nothing that was there has turned. -/
theorem post_law {f : Func} {s : ChangeSpec} {W W' : World} {args : Array Value} {ds gs : List (DataW H)} {before : List MemPlace} {tb : TypeId}
    (hl : laidOutB P = true) (hk : f.params.toList.all (fun t => P.readableRec t && decide (t < P.types.size)) = true) (hs : s.vars = []) (hrt : f.resultTypes = #[tb]) (htb : P.underlying tb = some .bool)
    (hW : DataW.Whole enc P f.params.toList s.vars false W args.toList ds gs before) (hb : Below W.heap.size W W')
    (hr : (s.fn H (ds ++ gs)).results = [.lit (.bool true)]) (ha : (s.fn H (ds ++ gs)).args = ds) (hv : (s.fn H (ds ++ gs)).vars = []) :
    s.post enc P f false true false false W args (.bool true) W' := by
  have hlt := fun x hx => hW.lt x hx
  obtain ⟨p, q, hA0, hV, he, _, _⟩ := id hW
  rw [hs] at hV
  obtain ⟨_, hq⟩ := trodVars_none hV
  subst hq
  rw [List.append_nil] at he
  subst he
  have hA : DataW.TrodAll enc P W 0 (fun _ => true) true f.params.toList args.toList ds before := hA0
  have hA' := below_trodAll hl hb _ _ _ _ hk hlt hA
  refine ⟨ds, gs, before, [], before, [], hW, ?_, ?_, ?_, World.keptBut_mono (fun x hx => ⟨hx, by simpa using hx⟩) (hb.frame (· ∈ before)), fun h => by cases h⟩
  · rw [hr, hrt]
    exact trodAll_cons_mk (shut_bool htb true) trodAll_mk0
  · rw [ha]; exact hA'
  · rw [hv, hs]; rfl
theorem open_words {t e : TypeId} {W : World} {r : Reach} {b0 : Nat} {v : Value} {d : DataW H} {ps : List MemPlace} (ht : P.underlying t = some (.slice e)) (he : P.underlying e = some (.int .u32)) (hc : P.cellsOf e = 1)
    (hval : Value.okWide P W r b0 t v) (hd : DataW.Trod enc P W 0 (fun _ => true) true t v d ps) : ∃ l, Lists W v l ∧ l.length ≤ maxLen := by
  obtain ⟨a, len, cap, rfl⟩ := okWide_slice ht hval
  obtain ⟨fuel, hf⟩ := hd
  rcases open_ints ht he hc hf with ⟨hcs, _⟩ | ⟨a', len', cap', zs, hcs, _, hl, hm, hz, _, hcell, hw⟩
  · simp [Value.cells] at hcs
    obtain ⟨rfl, rfl, rfl⟩ := hcs
    exact ⟨[], .inl ⟨_, _, rfl, rfl⟩, by simp⟩
  · simp [Value.cells] at hcs
    obtain ⟨rfl, rfl, rfl⟩ := hcs
    simp only [if_true] at hz
    have hlen : ((zs.take len).map (BitVec.ofInt 32)).length = len := by simp; omega
    refine ⟨(zs.take len).map (BitVec.ofInt 32), ?_, by rw [hlen]; omega⟩
    rcases Nat.eq_zero_or_pos len with h0 | h0
    · subst h0; exact .inl ⟨_, _, rfl, by simp⟩
    · obtain ⟨b, off, sp⟩ := a'
      have h1 := hcell 0 (by omega)
      have h2 := World.cell?_spot h1
      have h3 : sp = none := by simpa [Addr.add] using h2
      subst h3
      refine .inr ⟨b, off, cap, by rw [hlen], fun i x hi => ?_⟩
      have hil : i < len := by
        have := (List.getElem?_eq_some_iff.1 hi).1
        rw [hlen] at this; exact this
      have h4 := hcell i (by omega)
      have h5 : (Addr.mk b off none).add i = ⟨b, off + i, none⟩ := by
        unfold Addr.add
        split
        · rename_i h; subst h; rfl
        · rfl
      rw [h5] at h4
      rw [h4]
      have h6 : zs.getD i 0 = U x := by
        have h7 : zs[i]? = some (zs.getD i 0) := by rw [List.getD_eq_getElem?_getD, List.getElem?_eq_getElem (by omega)]; rfl
        have h8 : ((zs.take len).map (BitVec.ofInt 32))[i]? = some (BitVec.ofInt 32 (zs.getD i 0)) := by
          rw [List.getElem?_map, List.getElem?_take, if_pos hil, h7]; rfl
        rw [h8] at hi
        cases hi
        exact U_of_wf (hw _ (List.mem_of_getElem? h7))
      rw [h6]
end
end Go.Proofs.YtboknfppecgjmaaGreat
namespace Go.Proofs.YtboknfppecgjmaaGreat
set_option linter.unusedVariables false
set_option linter.unusedSimpArgs false
open Go.RowKit
theorem saneHid : Hid SaneC := sane_c
end Go.Proofs.YtboknfppecgjmaaGreat
namespace Go.Proofs.YtboknfppecgjmaaGreat
set_option linter.unusedVariables false
set_option linter.unusedSimpArgs false
open Go.RowKit Go.Shelf
namespace Cv
set_option linter.unusedVariables false
set_option linter.unusedSimpArgs false
theorem word_of_small {ty : Int} {a : V} (h : Vb.is ty a = true) (ht : ty ≠ 128) : a = V.word a.a := by
  obtain ⟨h0, _, h2, h3, h4⟩ := is_parts h
  have e : ∀ z : BitVec 32, z &&& ~~~0#32 = 0#32 → z = 0#32 := fun z hz => (bv_all z).symm.trans hz
  have ho : (Vb.ones ty).b = 0#32 ∧ (Vb.ones ty).c = 0#32 ∧ (Vb.ones ty).d = 0#32 := by
    rcases isType_cases h0 with rfl | rfl | rfl | rfl | rfl
    · exact ⟨rfl, rfl, rfl⟩
    · exact ⟨rfl, rfl, rfl⟩
    · exact ⟨rfl, rfl, rfl⟩
    · exact ⟨rfl, rfl, rfl⟩
    · exact absurd rfl ht
  rw [ho.1] at h2; rw [ho.2.1] at h3; rw [ho.2.2] at h4
  exact ext4 rfl (e _ h2) (e _ h3) (e _ h4)
theorem bit_test (x : BitVec 32) (k : Nat) : (x >>> k) &&& 1#32 = 1#32 ↔ x.getLsbD k = true := by
  constructor
  · intro h
    have := congrArg (fun z => z.getLsbD 0) h
    simpa using this
  · intro h
    apply BitVec.eq_of_getLsbD_eq; intro i hi
    simp only [BitVec.getLsbD_and, BitVec.getLsbD_ushiftRight, BitVec.getLsbD_one]
    by_cases h0 : i = 0
    · subst h0; simp [h]
    · simp [h0]
theorem bit_mask (x : BitVec 32) (k : Nat) (hk : k < 32) (m : BitVec 32) (hm : m = 1#32 <<< k) : x &&& m ≠ 0 ↔ x.getLsbD k = true := by
  subst hm
  have hb : ∀ i, i < 32 → (1#32 <<< k).getLsbD i = decide (i = k) := by
    intro i hi
    simp only [BitVec.getLsbD_shiftLeft, BitVec.getLsbD_one, hi, decide_true, Bool.true_and]
    by_cases h : i = k
    · subst h; simp
    · have : ¬ i - k = 0 ∨ i < k := by omega
      rcases this with h1 | h1 <;> simp [h, h1]
  constructor
  · intro h
    cases hx : x.getLsbD k
    · exfalso
      apply h
      apply BitVec.eq_of_getLsbD_eq; intro i hi
      rw [BitVec.getLsbD_and, hb i hi]
      by_cases hik : i = k
      · subst hik; simp [hx]
      · simp [hik]
    · rfl
  · intro hx h
    have := congrArg (fun z => z.getLsbD k) h
    simp only [BitVec.getLsbD_and, hb k hk, hx] at this
    simp at this
theorem sext_eq {p : Int} {a : V} (h : Vb.is p a = true) (n : Nat) (hp : (p = 8 ∧ n = 8) ∨ (p = 16 ∧ n = 16)) (x : V) (to off : Int) : Vb.unOp 3 ⟨x, a, p, to, off⟩ = V.word (Rf.signed a.a n) := by
  have hw := word_of_small h (by omega)
  show Vb.Unary.sext ⟨x, a, p, to, off⟩ = _
  unfold Vb.Unary.sext Rf.signed
  simp only
  rcases hp with ⟨rfl, rfl⟩ | ⟨rfl, rfl⟩
  · have t1 := bit_test a.a 7
    have t2 := bit_mask a.a 7 (by omega) ((Vb.ones 8).a &&& ~~~((Vb.ones 8).a >>> 1)) (by decide)
    by_cases hb : a.a.getLsbD 7 = true
    · rw [if_pos (t2.2 hb), if_pos (t1.2 hb)]
      rw [hw, ones_32, ones_8]
      simp [V.or, V.without, V.map2, V.word]
    · rw [if_neg (fun h => hb (t2.1 h)), if_neg (fun h => hb (t1.1 h))]
      exact hw
  · have t1 := bit_test a.a 15
    have t2 := bit_mask a.a 15 (by omega) ((Vb.ones 16).a &&& ~~~((Vb.ones 16).a >>> 1)) (by decide)
    by_cases hb : a.a.getLsbD 15 = true
    · rw [if_pos (t2.2 hb), if_pos (t1.2 hb)]
      rw [hw, ones_32, ones_16]
      simp [V.or, V.without, V.map2, V.word]
    · rw [if_neg (fun h => hb (t2.1 h)), if_neg (fun h => hb (t1.1 h))]
      exact hw
theorem not_in (x o : BitVec 32) : (x &&& o) &&& ~~~o = 0#32 := by
  apply BitVec.eq_of_getLsbD_eq; intro i hi
  simp only [BitVec.getLsbD_and, BitVec.getLsbD_not, BitVec.getLsbD_zero]
  cases x.getLsbD i <;> cases o.getLsbD i <;> simp
theorem is_and {ty : Int} (h : Vb.isType ty = true) (x : V) : Vb.is ty (x.and (Vb.ones ty)) = true := is_mk h (not_in _ _) (not_in _ _) (not_in _ _) (not_in _ _)
theorem is_word (u : BitVec 32) : Vb.is 32 (V.word u) = true :=
  is_mk rfl (by rw [ones_32]; simp [V.word]) (by simp [V.word]) (by simp [V.word]) (by simp [V.word])
theorem and_word32 (u : BitVec 32) : (V.word u).and (Vb.ones 32) = V.word u := by
  rw [ones_32]; simp [V.and, V.map2, V.word, bv_all]
theorem and_twice (x o : BitVec 32) : x &&& o &&& o = x &&& o := by rw [BitVec.and_assoc, BitVec.and_self]
theorem back_or (x m o : BitVec 32) (h : m &&& o = 0#32) : (x ||| m) &&& o = x &&& o := by
  apply BitVec.eq_of_getLsbD_eq; intro i hi
  have := congrArg (fun z => z.getLsbD i) h
  simp only [BitVec.getLsbD_and, BitVec.getLsbD_or, BitVec.getLsbD_zero] at this ⊢
  revert this
  cases x.getLsbD i <;> cases o.getLsbD i <;> cases m.getLsbD i <;> simp
theorem signed_back8 (x : BitVec 32) : Rf.signed x 8 &&& 255#32 = x &&& 255#32 := by
  unfold Rf.signed
  split
  · exact back_or _ _ _ (by decide)
  · rfl
theorem signed_back16 (x : BitVec 32) : Rf.signed x 16 &&& 65535#32 = x &&& 65535#32 := by
  unfold Rf.signed
  split
  · exact back_or _ _ _ (by decide)
  · rfl
theorem and8 (x : V) : x.and (Vb.ones 8) = V.word (x.a &&& 255#32) := by rw [ones_8]; simp [V.and, V.map2, V.word]
theorem and16 (x : V) : x.and (Vb.ones 16) = V.word (x.a &&& 65535#32) := by rw [ones_16]; simp [V.and, V.map2, V.word]
theorem un_eq {op p to off : Int} {x a r : V} (h : Vb.isUn op p to off = true) (hx : Vb.is p x = true) (ha : Vb.is p a = true) (hr : Vb.unOp op ⟨x, a, p, to, off⟩ = r) (w : World) :
    Calls Tryz.prog 18 #[iv op, iv p, iv to, iv off, vv x, vv a] w fun e w' => e = .returned (.tuple #[vv r, iv 0]) ∧ Below w.heap.size w w' := by
  have := un_c op p to off x a w
  rw [un_fine h hx ha, hr] at this
  exact this
theorem bin_eq {op ty off : Int} {x a y b r : V} (h0 : Vb.second op ty off ≠ 0) (h1 : Vb.is ty x = true) (h2 : Vb.is ty a = true) (h3 : Vb.is (Vb.second op ty off) y = true) (h4 : Vb.is (Vb.second op ty off) b = true)
    (hr : Vb.binOp ⟨op, ty, off, x, a, y, b⟩ = r) (w : World) :
    Calls Tryz.prog 21 #[iv op, iv ty, iv off, vv x, vv a, vv y, vv b] w fun e w' => e = .returned (.tuple #[vv r, iv 0]) ∧ Below w.heap.size w w' := by
  have := bin_c op ty off x a y b w
  rw [bin_fine h0 h1 h2 h3 h4, hr] at this
  exact this
theorem isU {op p to off : Int} (h : Vb.isUn op p to off = true) : Hid (IsUnC op p to off true) := fun w => by have := isUn12_c op p to off w; rw [h] at this; exact this
theorem clipU (p : Int) (x : V) : Hid (ClipC p x (x.and (Vb.ones p))) := fun w => clip_c p x w
theorem h82 (x a : V) : Hid (ConvH x a 8 2 (V.word (a.a &&& 255#32)) (V.word (x.a &&& 255#32))) := by
  refine ⟨fun w => ?_, fun w => ?_, fun w => ?_⟩
  · exact un_eq (by decide) (is_and rfl x) (is_and rfl a) (by show (a.and (Vb.ones 8)).and (Vb.ones 32) = _; rw [and8, and_word32]) w
  · have := un12_2 8 32 0 (x.and (Vb.ones 8)) _ (isU (by decide)) (clipU 8 _) w
    rw [and8 (x.and (Vb.ones 8)), and_word32, and8 x] at this
    have e : (V.word (x.a &&& 255#32)).a &&& 255#32 = x.a &&& 255#32 := and_twice _ _
    rw [e] at this
    rw [and8 x]
    exact this
  · exact un_eq (by decide) (is_word _) (is_word _) (by show (V.word (a.a &&& 255#32)).and (Vb.ones 8) = _; rw [and8, and8]; exact congrArg V.word (and_twice _ _)) w
theorem h162 (x a : V) : Hid (ConvH x a 16 2 (V.word (a.a &&& 65535#32)) (V.word (x.a &&& 65535#32))) := by
  refine ⟨fun w => ?_, fun w => ?_, fun w => ?_⟩
  · exact un_eq (by decide) (is_and rfl x) (is_and rfl a) (by show (a.and (Vb.ones 16)).and (Vb.ones 32) = _; rw [and16, and_word32]) w
  · have := un12_2 16 32 0 (x.and (Vb.ones 16)) _ (isU (by decide)) (clipU 16 _) w
    rw [and16 (x.and (Vb.ones 16)), and_word32, and16 x] at this
    have e : (V.word (x.a &&& 65535#32)).a &&& 65535#32 = x.a &&& 65535#32 := and_twice _ _
    rw [e] at this
    rw [and16 x]
    exact this
  · exact un_eq (by decide) (is_word _) (is_word _) (by show (V.word (a.a &&& 65535#32)).and (Vb.ones 16) = _; rw [and16, and16]; exact congrArg V.word (and_twice _ _)) w
theorem lt8 (u : BitVec 32) : (u &&& 255#32).toNat < 256 := by
  rw [BitVec.toNat_and]
  exact Nat.lt_of_le_of_lt Nat.and_le_right (by decide)
theorem lt16 (u : BitVec 32) : (u &&& 65535#32).toNat < 65536 := by
  rw [BitVec.toNat_and]
  exact Nat.lt_of_le_of_lt Nat.and_le_right (by decide)
theorem h83 (x a : V) : Hid (ConvH x a 8 3 (V.word (Rf.signed (a.a &&& 255#32) 8)) (V.word (Rf.signed (x.a &&& 255#32) 8))) := by
  refine ⟨fun w => ?_, fun w => ?_, fun w => ?_⟩
  · exact un_eq (by decide) (is_and rfl x) (is_and rfl a) (by rw [sext_eq (is_and rfl a) 8 (.inl ⟨rfl, rfl⟩), and8]; rfl) w
  · have e : (x.and (Vb.ones 8)).and (Vb.ones 8) = V.word (x.a &&& 255#32) := by rw [and8 (x.and (Vb.ones 8)), and8 x]; exact congrArg V.word (and_twice _ _)
    have hc := clipU 8 (x.and (Vb.ones 8))
    rw [e] at hc
    have := un12_3_8 32 0 (x.and (Vb.ones 8)) _ (isU (by decide)) hc (lt8 _) w
    exact this
  · exact un_eq (by decide) (is_word _) (is_word _) (by show (V.word (Rf.signed (a.a &&& 255#32) 8)).and (Vb.ones 8) = _; rw [and8, and8]; exact congrArg V.word ((signed_back8 _).trans (and_twice _ _))) w
theorem h163 (x a : V) : Hid (ConvH x a 16 3 (V.word (Rf.signed (a.a &&& 65535#32) 16)) (V.word (Rf.signed (x.a &&& 65535#32) 16))) := by
  refine ⟨fun w => ?_, fun w => ?_, fun w => ?_⟩
  · exact un_eq (by decide) (is_and rfl x) (is_and rfl a) (by rw [sext_eq (is_and rfl a) 16 (.inr ⟨rfl, rfl⟩), and16]; rfl) w
  · have e : (x.and (Vb.ones 16)).and (Vb.ones 16) = V.word (x.a &&& 65535#32) := by rw [and16 (x.and (Vb.ones 16)), and16 x]; exact congrArg V.word (and_twice _ _)
    have hc := clipU 16 (x.and (Vb.ones 16))
    rw [e] at hc
    have := un12_3_16 32 0 (x.and (Vb.ones 16)) _ (isU (by decide)) hc (lt16 _) w
    exact this
  · exact un_eq (by decide) (is_word _) (is_word _) (by show (V.word (Rf.signed (a.a &&& 65535#32) 16)).and (Vb.ones 16) = _; rw [and16, and16]; exact congrArg V.word ((signed_back16 _).trans (and_twice _ _))) w
theorem splat (x a : BitVec 32) (w : World) : Calls Tryz.prog 18 #[iv 11, iv 32, iv 128, iv 0, vv (V.word x), vv (V.word a)] w fun e w' => e = .returned (.tuple #[vv ⟨a, a, a, a⟩, iv 0]) ∧ Below w.heap.size w w' :=
  un_eq (by decide) (is_word _) (is_word _) rfl w
theorem isB {op ty off : Int} (h : Vb.second op ty off ≠ 0) : Hid (IsBinC op ty off true) := fun w => by have := isBin12_c op ty off w; rw [decide_eq_true h] at this; exact this
theorem clipB (p : Int) (x z : V) (h : x.and (Vb.ones p) = z) : Hid (ClipB p x z) := fun w => by have := clip_c p x w; rw [h] at this; exact this
theorem and128 (x : V) : x.and (Vb.ones 128) = x := by rw [ones_128]; simp [V.and, V.map2, bv_all]
theorem four (k : Int) : wrap64 ((IntKind.u64.wrap k).tmod 4) = 0 ∨ wrap64 ((IntKind.u64.wrap k).tmod 4) = 1 ∨ wrap64 ((IntKind.u64.wrap k).tmod 4) = 2 ∨ wrap64 ((IntKind.u64.wrap k).tmod 4) = 3 := by
  have h0 : 0 ≤ IntKind.u64.wrap k := by
    show 0 ≤ k % _
    omega
  generalize IntKind.u64.wrap k = m at *
  rw [Int.tmod_eq_emod_of_nonneg h0]
  have : m % 4 = 0 ∨ m % 4 = 1 ∨ m % 4 = 2 ∨ m % 4 = 3 := by omega
  rcases this with h | h | h | h <;> rw [h] <;> decide +kernel
theorem put {j : Int} {x a r : V} {u v : BitVec 32} (h : Vb.second 30 128 j = 32) (hr : a.set j.toNat v = r) (w : World) :
    Calls Tryz.prog 21 #[iv 30, iv 128, iv j, vv x, vv a, vv (V.word u), vv (V.word v)] w fun e w' => e = .returned (.tuple #[vv r, iv 0]) ∧ Below w.heap.size w w' :=
  bin_eq (op := 30) (ty := 128) (off := j) (x := x) (a := a) (y := V.word u) (b := V.word v) (r := r) (by rw [h]; decide) (is_128 _) (is_128 _) (by rw [h]; exact is_word _) (by rw [h]; exact is_word _) (by exact hr) w
theorem word {j : Int} {x a r : V} (h : Vb.isUn 12 128 32 j = true) (hr : V.word (a.get j.toNat) = r) (w : World) :
    Calls Tryz.prog 18 #[iv 12, iv 128, iv 32, iv j, vv x, vv a] w fun e w' => e = .returned (.tuple #[vv r, iv 0]) ∧ Below w.heap.size w w' :=
  un_eq (op := 12) (r := r) h (is_128 _) (is_128 _) (by exact hr) w
end Cv
theorem vconverts_c (HS : Hid SaneC) (x a y b : V) (k : Int) (w : World) : Calls Tryz.prog 4 #[vv x, vv a, vv y, vv b, iv k] w fun e w' => e = .returned (.bool true) ∧ Below w.heap.size w w' := by
  rcases Cv.four k with hj | hj | hj | hj
  · exact conv_w0 HS x a y b k _ _ _ _ _ _ _ _ (Cv.h82 x a) (Cv.h83 x a) (Cv.h162 x a) (Cv.h163 x a) hj ⟨a.a, a.a, a.a, a.a⟩ { a with a := b.a } { x with a := y.a }
      (fun w => Cv.splat _ _ w) (fun w => Cv.word (by decide) rfl w)
      (fun w => Cv.put (by decide) rfl w)
      (fun w => bin12_30_0 128 x (V.word y.a) x (V.word y.a) (Cv.isB (by decide)) (Cv.clipB 128 x x (Cv.and128 x)) (Cv.clipB 32 _ _ (Cv.and_word32 _)) w)
      (fun w => Cv.word (by decide) rfl w)
      (fun w => Cv.put (by decide) rfl w) w
  · exact conv_w1 HS x a y b k _ _ _ _ _ _ _ _ (Cv.h82 x a) (Cv.h83 x a) (Cv.h162 x a) (Cv.h163 x a) hj ⟨a.a, a.a, a.a, a.a⟩ { a with b := b.a } { x with b := y.a }
      (fun w => Cv.splat _ _ w) (fun w => Cv.word (by decide) rfl w)
      (fun w => Cv.put (by decide) rfl w)
      (fun w => bin12_30_1 128 x (V.word y.a) x (V.word y.a) (Cv.isB (by decide)) (Cv.clipB 128 x x (Cv.and128 x)) (Cv.clipB 32 _ _ (Cv.and_word32 _)) w)
      (fun w => Cv.word (by decide) rfl w)
      (fun w => Cv.put (by decide) rfl w) w
  · exact conv_w2 HS x a y b k _ _ _ _ _ _ _ _ (Cv.h82 x a) (Cv.h83 x a) (Cv.h162 x a) (Cv.h163 x a) hj ⟨a.a, a.a, a.a, a.a⟩ { a with c := b.a } { x with c := y.a }
      (fun w => Cv.splat _ _ w) (fun w => Cv.word (by decide) rfl w)
      (fun w => Cv.put (by decide) rfl w)
      (fun w => bin12_30_2 128 x (V.word y.a) x (V.word y.a) (Cv.isB (by decide)) (Cv.clipB 128 x x (Cv.and128 x)) (Cv.clipB 32 _ _ (Cv.and_word32 _)) w)
      (fun w => Cv.word (by decide) rfl w)
      (fun w => Cv.put (by decide) rfl w) w
  · exact conv_w3 HS x a y b k _ _ _ _ _ _ _ _ (Cv.h82 x a) (Cv.h83 x a) (Cv.h162 x a) (Cv.h163 x a) hj ⟨a.a, a.a, a.a, a.a⟩ { a with d := b.a } { x with d := y.a }
      (fun w => Cv.splat _ _ w) (fun w => Cv.word (by decide) rfl w)
      (fun w => Cv.put (by decide) rfl w)
      (fun w => bin12_30_3 128 x (V.word y.a) x (V.word y.a) (Cv.isB (by decide)) (Cv.clipB 128 x x (Cv.and128 x)) (Cv.clipB 32 _ _ (Cv.and_word32 _)) w)
      (fun w => Cv.word (by decide) rfl w)
      (fun w => Cv.put (by decide) rfl w) w
end Go.Proofs.YtboknfppecgjmaaGreat
namespace Go.Proofs.YtboknfppecgjmaaGreat.vbitsConverts
set_option linter.unusedVariables false
set_option linter.unusedSimpArgs false
open Go.ChangeShapes Go.WideShapes Go.ChangeAt Go.RowKit
set_option maxRecDepth 100000 in
theorem lifted (os : Os) (started : os.Started) (H : Type) (enc : TypeId × Value → H) :
    ReturnsInHanded {} Tryz.checked os 4 .any (Rows.vbitsConvertsSpec.pre6 enc Tryz.prog Tryz.f4 Rows.vbitsConvertsRow.domain false) (Rows.vbitsConvertsSpec.post enc Tryz.prog Tryz.f4 false true false false) := by
  refine returnsInHanded_of_change (C := Tryz.checked) own started (by kernel_rfl) Tryz.func4
    (ChangeSpec.witness6 (enc := enc) (C := Tryz.checked) false ⟨#[], #[.agg #[.int .u32 0, .int .u32 0, .int .u32 0, .int .u32 0], .agg #[.int .u32 0, .int .u32 0, .int .u32 0, .int .u32 0], .agg #[.int .u32 0, .int .u32 0, .int .u32 0, .int .u32 0], .agg #[.int .u32 0, .int .u32 0, .int .u32 0, .int .u32 0], .int .i64 0], []⟩ 8 (by kernel_rfl) (by kernel_rfl) (by kernel_rfl) (by kernel_rfl)) ?_
  intro W base args ds gs before hval0 hW hcnd _
  have hval : ∀ (j : Nat) t v, Tryz.f4.params[j]? = some t → args[j]? = some v → Value.okWide Tryz.prog W .any base t v := hval0
  have hW' := hW
  obtain ⟨p, q, hA0, hV, rfl, hfz, hnd⟩ := hW
  have hA : DataW.TrodAll enc Tryz.prog W 0 (fun _ => true) true Tryz.f4.params.toList args.toList ds p := hA0
  rw [Tryz.params4] at hA hval
  obtain ⟨v0, vs0, d0, ds0, p0, q0, hargs, rfl, rfl, h0, r0⟩ := trodAll_cons hA
  obtain ⟨v1, vs1, d1, ds1, p1, q1, rfl, rfl, rfl, h1, r1⟩ := trodAll_cons r0
  obtain ⟨v2, vs2, d2, ds2, p2, q2, rfl, rfl, rfl, h2, r2⟩ := trodAll_cons r1
  obtain ⟨v3, vs3, d3, ds3, p3, q3, rfl, rfl, rfl, h3, r3⟩ := trodAll_cons r2
  obtain ⟨v4, vs4, d4, ds4, p4, q4, rfl, rfl, rfl, h4, r4⟩ := trodAll_cons r3
  obtain ⟨rfl, rfl, rfl⟩ := trodAll_nil r4
  obtain rfl : args = #[v0, v1, v2, v3, v4] := by cases args; simp_all
  obtain ⟨rfl, rfl⟩ := trodVars_none hV
  obtain ⟨a0, rfl, rfl, rfl⟩ := open_vec Tryz.underlying24 Tryz.underlying22 cells_u32 cells_Vec (hval 0 24 v0 rfl rfl) h0
  obtain ⟨a1, rfl, rfl, rfl⟩ := open_vec Tryz.underlying24 Tryz.underlying22 cells_u32 cells_Vec (hval 1 24 v1 rfl rfl) h1
  obtain ⟨a2, rfl, rfl, rfl⟩ := open_vec Tryz.underlying24 Tryz.underlying22 cells_u32 cells_Vec (hval 2 24 v2 rfl rfl) h2
  obtain ⟨a3, rfl, rfl, rfl⟩ := open_vec Tryz.underlying24 Tryz.underlying22 cells_u32 cells_Vec (hval 3 24 v3 rfl rfl) h3
  obtain ⟨a4, rfl, rfl, rfl, w4⟩ := open_int Tryz.underlying3 (hval 4 3 v4 rfl rfl) h4
  clear hA0 hval0
  refine (vconverts_c saneHid a0 a1 a2 a3 a4 W ).mono fun e W' ⟨he, hg⟩ => ?_
  subst he
  exact ⟨_, rfl, post_law laidOut (by kernel_rfl) rfl rfl Tryz.underlying4 hW' hg rfl rfl rfl⟩
theorem over : Rows.vbitsConvertsRow.holds Tryz.pinned (OpenSpec.ofChange Rows.vbitsConvertsSpec) :=
  OpenClaim.holds_of_wide 4 Tryz.f4 rfl rfl rfl rfl rfl rfl rfl ⟨rfl, rfl, rfl, rfl, rfl⟩ rfl rfl rfl rfl rfl (by kernel_rfl) Tryz.func4 (by kernel_rfl)
    (of_decide_eq_true (by kernel_rfl)) (by unfold Func.isWrapper; first | (rw [if_pos (by decide +kernel)]; kernel_rfl) | (rw [if_neg (by decide +kernel)]; exact ⟨rfl, rfl⟩))
    (fun os started H enc _ => lifted os started H enc)
end Go.Proofs.YtboknfppecgjmaaGreat.vbitsConverts
namespace Go.Proofs.YtboknfppecgjmaaGreat
set_option linter.unusedVariables false
set_option linter.unusedSimpArgs false
theorem vbitsConverts_holds : Rows.VbitsConvertsSaid := vbitsConverts.over
#print axioms vbitsConverts_holds
end Go.Proofs.YtboknfppecgjmaaGreat
