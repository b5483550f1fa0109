/- The struct argument of the laws, opened: an operation with its operands; its two slices read as lists of words. -/
import Derived.Test.YtboknfppecgjmaaShut
import Derived.Test.YtboknfppecgjmaaAsk
import Derived.SizedLaws
namespace Go.Proofs.Ytboknfppecgjmaa
set_option linter.unusedVariables false
set_option linter.unusedSimpArgs false
open Go.RowKit Go.ChangeShapes Go.WideShapes
theorem cells_int : Try.prog.cellsOf 3 = 1 := by kernel_rfl
theorem cells_words : Try.prog.cellsOf 25 = 1 := by kernel_rfl
theorem cells_by : Try.prog.cellsOf 33 = 16 := by kernel_rfl
theorem bytes_u32 : Try.prog.bytesOf 22 = 4 := by kernel_rfl
theorem drop_take {l : List Value} {o k : Nat} {p : List Value} (h : (l.drop o).take k = p) : l.drop o = p ++ l.drop (o + k) := by
  rw [← h, ← List.drop_drop, List.take_append_drop]
section
variable {H : Type} {enc : TypeId × Value → H} {P : Program} {W : World}
theorem trod_words {t e : TypeId} {fuel : Nat} {cs : List Value} {y : DataW H × List MemPlace} (ht : P.underlying t = some (.slice e)) (he : P.underlying e = some (.int .u32)) (hc : P.cellsOf e = 1)
    (hf : DataW.trod enc P W 0 (fun _ => true) true fuel t cs = some y) :
    ∃ a len cap l, cs = [.slice a len cap] ∧ Lists W (.slice a len cap) l ∧ l.length = len ∧ len ≤ maxLen ∧ ∀ N, (y.1.weights P t).all (· ≤ N) = true → len * P.bytesOf e ≤ N := by
  rcases open_ints ht he hc hf with ⟨hcs, _⟩ | ⟨a', len', cap', zs, hcs, _, hl, hm, hz, hy, hcell, hw⟩
  · exact ⟨none, 0, 0, [], hcs, .inl ⟨_, _, rfl, rfl⟩, rfl, by simp, fun N _ => by simp⟩
  · simp only [if_true] at hz
    have hlen : ((zs.take len').map (BitVec.ofInt 32)).length = len' := by simp; omega
    refine ⟨a', len', cap', (zs.take len').map (BitVec.ofInt 32), hcs, ?_, hlen, by omega, ?_⟩
    · rcases Nat.eq_zero_or_pos len' with h0 | h0
      · subst h0; exact .inl ⟨_, _, rfl, by simp⟩
      · obtain ⟨b, off, sp⟩ := a'
        have h1 := hcell 0 (by omega)
        have h2 := World.cell?_spot h1
        have h3 : sp = none := by simpa [Addr.add] using h2
        subst h3
        refine .inr ⟨b, off, cap', by rw [hlen], fun i x hi => ?_⟩
        have hil : i < len' := by
          have := (List.getElem?_eq_some_iff.1 hi).1
          rw [hlen] at this; exact this
        have h4 := hcell i (by omega)
        have h5 : (Addr.mk b off none).add i = ⟨b, off + i, none⟩ := by
          unfold Addr.add
          split
          · rename_i h; subst h; rfl
          · rfl
        rw [h5] at h4
        rw [h4]
        have h6 : zs.getD i 0 = U x := by
          have h7 : zs[i]? = some (zs.getD i 0) := by rw [List.getD_eq_getElem?_getD, List.getElem?_eq_getElem (by omega)]; rfl
          have h8 : ((zs.take len').map (BitVec.ofInt 32))[i]? = some (BitVec.ofInt 32 (zs.getD i 0)) := by
            rw [List.getElem?_map, List.getElem?_take, if_pos hil, h7]; rfl
          rw [h8] at hi
          cases hi
          exact U_of_wf (hw _ (List.mem_of_getElem? h7))
        rw [h6]
    · intro N hN
      rw [hy] at hN
      simp only [DataW.weights, ht, List.all_cons, Bool.and_eq_true, decide_eq_true_eq] at hN
      refine Nat.le_trans (Nat.mul_le_mul_right _ ?_) hN.1
      simp [lits]
      omega
theorem trod_vec4 {n : Nat} {t t4 e : TypeId} {cs : List Value} {y : DataW H × List MemPlace} (ht4 : P.underlying t4 = some (.array 4 t)) (ht : P.underlying t = some (.array 4 e)) (he : P.underlying e = some (.int .u32)) (hc : P.cellsOf e = 1) (hct : P.cellsOf t = 4) (hc4 : P.cellsOf t4 = 16)
    (h : DataW.trod enc P W 0 (fun _ => true) true n t4 cs = some y) :
    ∃ p q r s : V, cs = [uv p.a, uv p.b, uv p.c, uv p.d, uv q.a, uv q.b, uv q.c, uv q.d, uv r.a, uv r.b, uv r.c, uv r.d, uv s.a, uv s.b, uv s.c, uv s.d] := by
  cases n with
  | zero => simp [DataW.trod] at h
  | succ n =>
    rw [DataW.trod_step] at h
    unfold DataW.trodStep at h
    simp only [ht4] at h
    split at h
    · rename_i hl
      rw [hc4] at hl
      simp only [hct, Option.map_eq_some_iff] at h
      obtain ⟨ys, hm, rfl⟩ := h
      have hr : List.range 4 = [0, 1, 2, 3] := rfl
      rw [hr] at hm
      simp only [List.mapM_cons, List.mapM_nil, bind, Option.bind_eq_some_iff, pure, Option.some.injEq] at hm
      obtain ⟨y0, h0, zs, ⟨y1, h1, z2, ⟨y2, h2, z3, ⟨y3, h3, z4, rfl, rfl⟩, rfl⟩, rfl⟩, rfl⟩ := hm
      obtain ⟨x0, e0, rfl⟩ := trod_vec ht he hc hct h0
      obtain ⟨x1, e1, rfl⟩ := trod_vec ht he hc hct h1
      obtain ⟨x2, e2, rfl⟩ := trod_vec ht he hc hct h2
      obtain ⟨x3, e3, rfl⟩ := trod_vec ht he hc hct h3
      have d0 := drop_take e0
      have d1 := drop_take e1
      have d2 := drop_take e2
      have d3 := drop_take e3
      simp only [Nat.zero_mul, Nat.one_mul, Nat.reduceMul, Nat.reduceAdd, List.drop_zero] at d0 d1 d2 d3
      have d4 : cs.drop 16 = [] := List.drop_eq_nil_of_le (by omega)
      refine ⟨x0, x1, x2, x3, ?_⟩
      rw [d0, d1, d2, d3, d4]
      rfl
    · cases h
end
section
variable {H : Type} {enc : TypeId × Value → H} {W : World}
set_option maxRecDepth 100000 in
set_option maxHeartbeats 4000000 in
theorem trod_ask {fuel : Nat} {cs : List Value} {y : DataW H × List MemPlace} (h : DataW.trod enc Try.prog W 0 (fun _ => true) true fuel 35 cs = some y) :
    ∃ (q : Ask) (al as_ : Option Addr) (nl cl ns ca : Nat) (l s : List (BitVec 32)), cs = (akc q).toList ∧ q.l = .slice al nl cl ∧ q.s = .slice as_ ns ca ∧ nl ≤ maxLen ∧ Lists W q.l l ∧ l.length = nl ∧ Lists W q.s s ∧ s.length = ns ∧
      ∀ N, (y.1.weights Try.prog 35).all (· ≤ N) = true → nl * 4 ≤ N ∧ ns * 4 ≤ N := by
  obtain ⟨xs, n, _, rfl, hl, hlen, hF⟩ := DataW.trod_struct Try.underlying35 h
  have hsz : Try.prog.cellsOf 35 = 47 := by kernel_rfl
  rw [hsz] at hl
  match xs, hlen with
  | [y0, y1, y2, y3, y4, y5, y6, y7, y8, y9, y10, y11, y12, y13], _ =>
    have h0 : DataW.trod enc Try.prog W 0 (fun _ => true) true n 3 ((cs.drop 0).take (Try.prog.cellsOf 3)) = some y0 := hF 0 _ rfl
    have h1 : DataW.trod enc Try.prog W 0 (fun _ => true) true n 3 ((cs.drop 1).take (Try.prog.cellsOf 3)) = some y1 := hF 1 _ rfl
    have h2 : DataW.trod enc Try.prog W 0 (fun _ => true) true n 3 ((cs.drop 2).take (Try.prog.cellsOf 3)) = some y2 := hF 2 _ rfl
    have h3 : DataW.trod enc Try.prog W 0 (fun _ => true) true n 3 ((cs.drop 3).take (Try.prog.cellsOf 3)) = some y3 := hF 3 _ rfl
    have h4 : DataW.trod enc Try.prog W 0 (fun _ => true) true n 3 ((cs.drop 4).take (Try.prog.cellsOf 3)) = some y4 := hF 4 _ rfl
    have h5 : DataW.trod enc Try.prog W 0 (fun _ => true) true n 24 ((cs.drop 5).take (Try.prog.cellsOf 24)) = some y5 := hF 5 _ rfl
    have h6 : DataW.trod enc Try.prog W 0 (fun _ => true) true n 24 ((cs.drop 9).take (Try.prog.cellsOf 24)) = some y6 := hF 6 _ rfl
    have h7 : DataW.trod enc Try.prog W 0 (fun _ => true) true n 24 ((cs.drop 13).take (Try.prog.cellsOf 24)) = some y7 := hF 7 _ rfl
    have h8 : DataW.trod enc Try.prog W 0 (fun _ => true) true n 24 ((cs.drop 17).take (Try.prog.cellsOf 24)) = some y8 := hF 8 _ rfl
    have h9 : DataW.trod enc Try.prog W 0 (fun _ => true) true n 24 ((cs.drop 21).take (Try.prog.cellsOf 24)) = some y9 := hF 9 _ rfl
    have h10 : DataW.trod enc Try.prog W 0 (fun _ => true) true n 24 ((cs.drop 25).take (Try.prog.cellsOf 24)) = some y10 := hF 10 _ rfl
    have h11 : DataW.trod enc Try.prog W 0 (fun _ => true) true n 25 ((cs.drop 29).take (Try.prog.cellsOf 25)) = some y11 := hF 11 _ rfl
    have h12 : DataW.trod enc Try.prog W 0 (fun _ => true) true n 25 ((cs.drop 30).take (Try.prog.cellsOf 25)) = some y12 := hF 12 _ rfl
    have h13 : DataW.trod enc Try.prog W 0 (fun _ => true) true n 33 ((cs.drop 31).take (Try.prog.cellsOf 33)) = some y13 := hF 13 _ rfl
    clear hF h
    rw [cells_int] at h0 h1 h2 h3 h4
    rw [cells_Vec] at h5 h6 h7 h8 h9 h10
    rw [cells_words] at h11 h12
    rw [cells_by] at h13
    obtain ⟨k0, e0, _, _⟩ := DataW.trod_int Try.underlying3 h0
    obtain ⟨k1, e1, _, _⟩ := DataW.trod_int Try.underlying3 h1
    obtain ⟨k2, e2, _, _⟩ := DataW.trod_int Try.underlying3 h2
    obtain ⟨k3, e3, _, _⟩ := DataW.trod_int Try.underlying3 h3
    obtain ⟨k4, e4, _, _⟩ := DataW.trod_int Try.underlying3 h4
    obtain ⟨v5, e5, _⟩ := trod_vec Try.underlying24 Try.underlying22 cells_u32 cells_Vec h5
    obtain ⟨v6, e6, _⟩ := trod_vec Try.underlying24 Try.underlying22 cells_u32 cells_Vec h6
    obtain ⟨v7, e7, _⟩ := trod_vec Try.underlying24 Try.underlying22 cells_u32 cells_Vec h7
    obtain ⟨v8, e8, _⟩ := trod_vec Try.underlying24 Try.underlying22 cells_u32 cells_Vec h8
    obtain ⟨v9, e9, _⟩ := trod_vec Try.underlying24 Try.underlying22 cells_u32 cells_Vec h9
    obtain ⟨v10, e10, _⟩ := trod_vec Try.underlying24 Try.underlying22 cells_u32 cells_Vec h10
    obtain ⟨al, nl, cl, l, e11, L11, n11, m11, w11⟩ := trod_words Try.underlying25 Try.underlying22 cells_u32 h11
    obtain ⟨as_, ns, ca, s, e12, L12, n12, m12, w12⟩ := trod_words Try.underlying25 Try.underlying22 cells_u32 h12
    obtain ⟨p, q, r, t, e13⟩ := trod_vec4 Try.underlying33 Try.underlying24 Try.underlying22 cells_u32 cells_Vec cells_by h13
    refine ⟨⟨k0, k1, k2, k3, k4, v5, v6, v7, v8, v9, v10, .slice al nl cl, .slice as_ ns ca, p, q, r, t⟩, al, as_, nl, cl, ns, ca, l, s, ?_, rfl, rfl, m11, L11, n11, L12, n12, ?_⟩
    · have d0 := drop_take e0
      have d1 := drop_take e1
      have d2 := drop_take e2
      have d3 := drop_take e3
      have d4 := drop_take e4
      have d5 := drop_take e5
      have d6 := drop_take e6
      have d7 := drop_take e7
      have d8 := drop_take e8
      have d9 := drop_take e9
      have d10 := drop_take e10
      have d11 := drop_take e11
      have d12 := drop_take e12
      have d13 := drop_take e13
      simp only [Nat.reduceAdd, List.drop_zero] at d0 d1 d2 d3 d4 d5 d6 d7 d8 d9 d10 d11 d12 d13
      have d14 : cs.drop 47 = [] := List.drop_eq_nil_of_le (by omega)
      rw [d0, d1, d2, d3, d4, d5, d6, d7, d8, d9, d10, d11, d12, d13, d14]
      rfl
    · intro N hN
      have sub : ∀ (ds : List (DataW H)) (fs : List TypeId) (d : DataW H) (t : TypeId) (j : Nat), fs[j]? = some t → ds[j]? = some d → (DataW.weightsEach Try.prog fs ds).all (· ≤ N) = true → (d.weights Try.prog t).all (· ≤ N) = true := by
        intro ds fs d t j ht hd hall
        rw [List.all_eq_true] at hall ⊢
        exact fun x hx => hall x (DataW.weights_mem_each ht hd x hx)
      simp only [DataW.weights, Try.underlying35] at hN
      have g11 := w11 N (sub _ _ _ _ 11 rfl rfl hN)
      have g12 := w12 N (sub _ _ _ _ 12 rfl rfl hN)
      rw [bytes_u32] at g11 g12
      exact ⟨g11, g12⟩
set_option maxRecDepth 100000 in
theorem open_ask {r : Reach} {b0 : Nat} {v : Value} {d : DataW H} {ps : List MemPlace} (hval : Value.okWide Try.prog W r b0 35 v) (hd : DataW.Trod enc Try.prog W 0 (fun _ => true) true 35 v d ps) :
    ∃ (q : Ask) (al as_ : Option Addr) (nl cl ns ca : Nat) (l s : List (BitVec 32)), v = akv q ∧ q.l = .slice al nl cl ∧ q.s = .slice as_ ns ca ∧ nl ≤ maxLen ∧ Lists W q.l l ∧ l.length = nl ∧ Lists W q.s s ∧ s.length = ns ∧
      ∀ N, (d.weights Try.prog 35).all (· ≤ N) = true → nl * 4 ≤ N ∧ ns * 4 ≤ N := by
  simp only [Value.okWide, Try.underlying35] at hval
  obtain ⟨cs, rfl, _, _⟩ := hval
  obtain ⟨fuel, hf⟩ := hd
  obtain ⟨q, al, as_, nl, cl, ns, ca, l, s, hx, h⟩ := trod_ask hf
  refine ⟨q, al, as_, nl, cl, ns, ca, l, s, ?_, h⟩
  obtain ⟨l⟩ := cs
  simp only [Value.cells] at hx
  rw [show l = (akc q).toList from hx]
end
end Go.Proofs.Ytboknfppecgjmaa
