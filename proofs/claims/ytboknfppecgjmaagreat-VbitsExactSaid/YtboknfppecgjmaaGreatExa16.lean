/- Part 16 of the proof's texts: OpenAsk, ExTypesK, ExprK, PlainF, PlainG. -/
import Derived.SizedLaws
import Derived.Test.YtboknfppecgjmaaGreatExa2
import Derived.Test.YtboknfppecgjmaaGreatExa9
import Derived.Test.YtboknfppecgjmaaGreatExa12
import Derived.Test.YtboknfppecgjmaaGreatExa15
set_option maxHeartbeats 16000000
namespace Go.Proofs.YtboknfppecgjmaaGreat
set_option linter.unusedVariables false
set_option linter.unusedSimpArgs false
open Go.RowKit Go.ChangeShapes Go.WideShapes
theorem cells_int : Tryz.prog.cellsOf 3 = 1 := by kernel_rfl
theorem cells_words : Tryz.prog.cellsOf 25 = 1 := by kernel_rfl
theorem cells_by : Tryz.prog.cellsOf 26 = 16 := by kernel_rfl
theorem bytes_u32 : Tryz.prog.bytesOf 22 = 4 := by kernel_rfl
theorem drop_take {l : List Value} {o k : Nat} {p : List Value} (h : (l.drop o).take k = p) : l.drop o = p ++ l.drop (o + k) := by
  rw [← h, ← List.drop_drop, List.take_append_drop]
section
variable {H : Type} {enc : TypeId × Value → H} {P : Program} {W : World}
theorem trod_words {t e : TypeId} {fuel : Nat} {cs : List Value} {y : DataW H × List MemPlace} (ht : P.underlying t = some (.slice e)) (he : P.underlying e = some (.int .u32)) (hc : P.cellsOf e = 1)
    (hf : DataW.trod enc P W 0 (fun _ => true) true fuel t cs = some y) :
    ∃ a len cap l, cs = [.slice a len cap] ∧ Lists W (.slice a len cap) l ∧ l.length = len ∧ len ≤ maxLen ∧ ∀ N, (y.1.weights P t).all (· ≤ N) = true → len * P.bytesOf e ≤ N := by
  rcases open_ints ht he hc hf with ⟨hcs, _⟩ | ⟨a', len', cap', zs, hcs, _, hl, hm, hz, hy, hcell, hw⟩
  · exact ⟨none, 0, 0, [], hcs, .inl ⟨_, _, rfl, rfl⟩, rfl, by simp, fun N _ => by simp⟩
  · simp only [if_true] at hz
    have hlen : ((zs.take len').map (BitVec.ofInt 32)).length = len' := by simp; omega
    refine ⟨a', len', cap', (zs.take len').map (BitVec.ofInt 32), hcs, ?_, hlen, by omega, ?_⟩
    · rcases Nat.eq_zero_or_pos len' with h0 | h0
      · subst h0; exact .inl ⟨_, _, rfl, by simp⟩
      · obtain ⟨b, off, sp⟩ := a'
        have h1 := hcell 0 (by omega)
        have h2 := World.cell?_spot h1
        have h3 : sp = none := by simpa [Addr.add] using h2
        subst h3
        refine .inr ⟨b, off, cap', by rw [hlen], fun i x hi => ?_⟩
        have hil : i < len' := by
          have := (List.getElem?_eq_some_iff.1 hi).1
          rw [hlen] at this; exact this
        have h4 := hcell i (by omega)
        have h5 : (Addr.mk b off none).add i = ⟨b, off + i, none⟩ := by
          unfold Addr.add
          split
          · rename_i h; subst h; rfl
          · rfl
        rw [h5] at h4
        rw [h4]
        have h6 : zs.getD i 0 = U x := by
          have h7 : zs[i]? = some (zs.getD i 0) := by rw [List.getD_eq_getElem?_getD, List.getElem?_eq_getElem (by omega)]; rfl
          have h8 : ((zs.take len').map (BitVec.ofInt 32))[i]? = some (BitVec.ofInt 32 (zs.getD i 0)) := by
            rw [List.getElem?_map, List.getElem?_take, if_pos hil, h7]; rfl
          rw [h8] at hi
          cases hi
          exact U_of_wf (hw _ (List.mem_of_getElem? h7))
        rw [h6]
    · intro N hN
      rw [hy] at hN
      simp only [DataW.weights, ht, List.all_cons, Bool.and_eq_true, decide_eq_true_eq] at hN
      refine Nat.le_trans (Nat.mul_le_mul_right _ ?_) hN.1
      simp [lits]
      omega
theorem trod_vec4 {n : Nat} {t t4 e : TypeId} {cs : List Value} {y : DataW H × List MemPlace} (ht4 : P.underlying t4 = some (.array 4 t)) (ht : P.underlying t = some (.array 4 e)) (he : P.underlying e = some (.int .u32)) (hc : P.cellsOf e = 1) (hct : P.cellsOf t = 4) (hc4 : P.cellsOf t4 = 16)
    (h : DataW.trod enc P W 0 (fun _ => true) true n t4 cs = some y) :
    ∃ p q r s : V, cs = [uv p.a, uv p.b, uv p.c, uv p.d, uv q.a, uv q.b, uv q.c, uv q.d, uv r.a, uv r.b, uv r.c, uv r.d, uv s.a, uv s.b, uv s.c, uv s.d] := by
  cases n with
  | zero => simp [DataW.trod] at h
  | succ n =>
    rw [DataW.trod_step] at h
    unfold DataW.trodStep at h
    simp only [ht4] at h
    split at h
    · rename_i hl
      rw [hc4] at hl
      simp only [hct, Option.map_eq_some_iff] at h
      obtain ⟨ys, hm, rfl⟩ := h
      have hr : List.range 4 = [0, 1, 2, 3] := rfl
      rw [hr] at hm
      simp only [List.mapM_cons, List.mapM_nil, bind, Option.bind_eq_some_iff, pure, Option.some.injEq] at hm
      obtain ⟨y0, h0, zs, ⟨y1, h1, z2, ⟨y2, h2, z3, ⟨y3, h3, z4, rfl, rfl⟩, rfl⟩, rfl⟩, rfl⟩ := hm
      obtain ⟨x0, e0, rfl⟩ := trod_vec ht he hc hct h0
      obtain ⟨x1, e1, rfl⟩ := trod_vec ht he hc hct h1
      obtain ⟨x2, e2, rfl⟩ := trod_vec ht he hc hct h2
      obtain ⟨x3, e3, rfl⟩ := trod_vec ht he hc hct h3
      have d0 := drop_take e0
      have d1 := drop_take e1
      have d2 := drop_take e2
      have d3 := drop_take e3
      simp only [Nat.zero_mul, Nat.one_mul, Nat.reduceMul, Nat.reduceAdd, List.drop_zero] at d0 d1 d2 d3
      have d4 : cs.drop 16 = [] := List.drop_eq_nil_of_le (by omega)
      refine ⟨x0, x1, x2, x3, ?_⟩
      rw [d0, d1, d2, d3, d4]
      rfl
    · cases h
end
section
variable {H : Type} {enc : TypeId × Value → H} {W : World}
set_option maxRecDepth 100000 in
theorem trod_ask {fuel : Nat} {cs : List Value} {y : DataW H × List MemPlace} (h : DataW.trod enc Tryz.prog W 0 (fun _ => true) true fuel 28 cs = some y) :
    ∃ (q : Ask) (al as_ : Option Addr) (nl cl ns ca : Nat) (l s : List (BitVec 32)), cs = (akc q).toList ∧ q.l = .slice al nl cl ∧ q.s = .slice as_ ns ca ∧ nl ≤ maxLen ∧ Lists W q.l l ∧ l.length = nl ∧ Lists W q.s s ∧ s.length = ns ∧
      ∀ N, (y.1.weights Tryz.prog 28).all (· ≤ N) = true → nl * 4 ≤ N ∧ ns * 4 ≤ N := by
  obtain ⟨xs, n, _, rfl, hl, hlen, hF⟩ := DataW.trod_struct Tryz.underlying28 h
  have hsz : Tryz.prog.cellsOf 28 = 47 := by kernel_rfl
  rw [hsz] at hl
  match xs, hlen with
  | [y0, y1, y2, y3, y4, y5, y6, y7, y8, y9, y10, y11, y12, y13], _ =>
    have h0 : DataW.trod enc Tryz.prog W 0 (fun _ => true) true n 3 ((cs.drop 0).take (Tryz.prog.cellsOf 3)) = some y0 := hF 0 _ rfl
    have h1 : DataW.trod enc Tryz.prog W 0 (fun _ => true) true n 3 ((cs.drop 1).take (Tryz.prog.cellsOf 3)) = some y1 := hF 1 _ rfl
    have h2 : DataW.trod enc Tryz.prog W 0 (fun _ => true) true n 3 ((cs.drop 2).take (Tryz.prog.cellsOf 3)) = some y2 := hF 2 _ rfl
    have h3 : DataW.trod enc Tryz.prog W 0 (fun _ => true) true n 3 ((cs.drop 3).take (Tryz.prog.cellsOf 3)) = some y3 := hF 3 _ rfl
    have h4 : DataW.trod enc Tryz.prog W 0 (fun _ => true) true n 3 ((cs.drop 4).take (Tryz.prog.cellsOf 3)) = some y4 := hF 4 _ rfl
    have h5 : DataW.trod enc Tryz.prog W 0 (fun _ => true) true n 24 ((cs.drop 5).take (Tryz.prog.cellsOf 24)) = some y5 := hF 5 _ rfl
    have h6 : DataW.trod enc Tryz.prog W 0 (fun _ => true) true n 24 ((cs.drop 9).take (Tryz.prog.cellsOf 24)) = some y6 := hF 6 _ rfl
    have h7 : DataW.trod enc Tryz.prog W 0 (fun _ => true) true n 24 ((cs.drop 13).take (Tryz.prog.cellsOf 24)) = some y7 := hF 7 _ rfl
    have h8 : DataW.trod enc Tryz.prog W 0 (fun _ => true) true n 24 ((cs.drop 17).take (Tryz.prog.cellsOf 24)) = some y8 := hF 8 _ rfl
    have h9 : DataW.trod enc Tryz.prog W 0 (fun _ => true) true n 24 ((cs.drop 21).take (Tryz.prog.cellsOf 24)) = some y9 := hF 9 _ rfl
    have h10 : DataW.trod enc Tryz.prog W 0 (fun _ => true) true n 24 ((cs.drop 25).take (Tryz.prog.cellsOf 24)) = some y10 := hF 10 _ rfl
    have h11 : DataW.trod enc Tryz.prog W 0 (fun _ => true) true n 25 ((cs.drop 29).take (Tryz.prog.cellsOf 25)) = some y11 := hF 11 _ rfl
    have h12 : DataW.trod enc Tryz.prog W 0 (fun _ => true) true n 25 ((cs.drop 30).take (Tryz.prog.cellsOf 25)) = some y12 := hF 12 _ rfl
    have h13 : DataW.trod enc Tryz.prog W 0 (fun _ => true) true n 26 ((cs.drop 31).take (Tryz.prog.cellsOf 26)) = some y13 := hF 13 _ rfl
    clear hF h
    rw [cells_int] at h0 h1 h2 h3 h4
    rw [cells_Vec] at h5 h6 h7 h8 h9 h10
    rw [cells_words] at h11 h12
    rw [cells_by] at h13
    obtain ⟨k0, e0, _, _⟩ := DataW.trod_int Tryz.underlying3 h0
    obtain ⟨k1, e1, _, _⟩ := DataW.trod_int Tryz.underlying3 h1
    obtain ⟨k2, e2, _, _⟩ := DataW.trod_int Tryz.underlying3 h2
    obtain ⟨k3, e3, _, _⟩ := DataW.trod_int Tryz.underlying3 h3
    obtain ⟨k4, e4, _, _⟩ := DataW.trod_int Tryz.underlying3 h4
    obtain ⟨v5, e5, _⟩ := trod_vec Tryz.underlying24 Tryz.underlying22 cells_u32 cells_Vec h5
    obtain ⟨v6, e6, _⟩ := trod_vec Tryz.underlying24 Tryz.underlying22 cells_u32 cells_Vec h6
    obtain ⟨v7, e7, _⟩ := trod_vec Tryz.underlying24 Tryz.underlying22 cells_u32 cells_Vec h7
    obtain ⟨v8, e8, _⟩ := trod_vec Tryz.underlying24 Tryz.underlying22 cells_u32 cells_Vec h8
    obtain ⟨v9, e9, _⟩ := trod_vec Tryz.underlying24 Tryz.underlying22 cells_u32 cells_Vec h9
    obtain ⟨v10, e10, _⟩ := trod_vec Tryz.underlying24 Tryz.underlying22 cells_u32 cells_Vec h10
    obtain ⟨al, nl, cl, l, e11, L11, n11, m11, w11⟩ := trod_words Tryz.underlying25 Tryz.underlying22 cells_u32 h11
    obtain ⟨as_, ns, ca, s, e12, L12, n12, m12, w12⟩ := trod_words Tryz.underlying25 Tryz.underlying22 cells_u32 h12
    obtain ⟨p, q, r, t, e13⟩ := trod_vec4 Tryz.underlying26 Tryz.underlying24 Tryz.underlying22 cells_u32 cells_Vec cells_by h13
    refine ⟨⟨k0, k1, k2, k3, k4, v5, v6, v7, v8, v9, v10, .slice al nl cl, .slice as_ ns ca, p, q, r, t⟩, al, as_, nl, cl, ns, ca, l, s, ?_, rfl, rfl, m11, L11, n11, L12, n12, ?_⟩
    · have d0 := drop_take e0
      have d1 := drop_take e1
      have d2 := drop_take e2
      have d3 := drop_take e3
      have d4 := drop_take e4
      have d5 := drop_take e5
      have d6 := drop_take e6
      have d7 := drop_take e7
      have d8 := drop_take e8
      have d9 := drop_take e9
      have d10 := drop_take e10
      have d11 := drop_take e11
      have d12 := drop_take e12
      have d13 := drop_take e13
      simp only [Nat.reduceAdd, List.drop_zero] at d0 d1 d2 d3 d4 d5 d6 d7 d8 d9 d10 d11 d12 d13
      have d14 : cs.drop 47 = [] := List.drop_eq_nil_of_le (by omega)
      rw [d0, d1, d2, d3, d4, d5, d6, d7, d8, d9, d10, d11, d12, d13, d14]
      rfl
    · intro N hN
      have sub : ∀ (ds : List (DataW H)) (fs : List TypeId) (d : DataW H) (t : TypeId) (j : Nat), fs[j]? = some t → ds[j]? = some d → (DataW.weightsEach Tryz.prog fs ds).all (· ≤ N) = true → (d.weights Tryz.prog t).all (· ≤ N) = true := by
        intro ds fs d t j ht hd hall
        rw [List.all_eq_true] at hall ⊢
        exact fun x hx => hall x (DataW.weights_mem_each ht hd x hx)
      simp only [DataW.weights, Tryz.underlying28] at hN
      have g11 := w11 N (sub _ _ _ _ 11 rfl rfl hN)
      have g12 := w12 N (sub _ _ _ _ 12 rfl rfl hN)
      rw [bytes_u32] at g11 g12
      exact ⟨g11, g12⟩
set_option maxRecDepth 100000 in
theorem open_ask {r : Reach} {b0 : Nat} {v : Value} {d : DataW H} {ps : List MemPlace} (hval : Value.okWide Tryz.prog W r b0 28 v) (hd : DataW.Trod enc Tryz.prog W 0 (fun _ => true) true 28 v d ps) :
    ∃ (q : Ask) (al as_ : Option Addr) (nl cl ns ca : Nat) (l s : List (BitVec 32)), v = akv q ∧ q.l = .slice al nl cl ∧ q.s = .slice as_ ns ca ∧ nl ≤ maxLen ∧ Lists W q.l l ∧ l.length = nl ∧ Lists W q.s s ∧ s.length = ns ∧
      ∀ N, (d.weights Tryz.prog 28).all (· ≤ N) = true → nl * 4 ≤ N ∧ ns * 4 ≤ N := by
  simp only [Value.okWide, Tryz.underlying28] at hval
  obtain ⟨cs, rfl, _, _⟩ := hval
  obtain ⟨fuel, hf⟩ := hd
  obtain ⟨q, al, as_, nl, cl, ns, ca, l, s, hx, h⟩ := trod_ask hf
  refine ⟨q, al, as_, nl, cl, ns, ca, l, s, ?_, h⟩
  obtain ⟨l⟩ := cs
  simp only [Value.cells] at hx
  rw [show l = (akc q).toList from hx]
end
end Go.Proofs.YtboknfppecgjmaaGreat
namespace Go.Proofs.YtboknfppecgjmaaGreat
set_option linter.unusedVariables false
set_option linter.unusedSimpArgs false
open Go.RowKit Go.Shelf
abbrev atk (p : Int) : Value := .agg #[.int .i64 (-1), iv p, uv 0#32, uv 0#32, uv 0#32, uv 0#32]
set_option maxRecDepth 100000 in
theorem typek_c (p : Int) (w : World) : Calls Tryz.prog 130 #[.slice none 0 0, atk p] w fun e w' => e = .returned (iv (Rf.tmpTy p)) ∧ Below w.heap.size w w' := by
  have hzv : Vb.is p ⟨0#32, 0#32, 0#32, 0#32⟩ = Vb.isType p := by
    cases h : Vb.isType p
    · unfold Vb.is; rw [h]; rfl
    · exact is_mk h (by simp) (by simp) (by simp) (by simp)
  cases h : Vb.isType p
  · have HV := Lib.hid (show Rf.tmpTy p = 0 by rw [tmpTy_eq, h]; rfl)
    rw [h] at hzv
    go_enter Tryz.func130, Tryz.ntmps130
    go_wp2_with fail
    (refine (fits_c p V.zero _ ).mono ?_; rintro e u1 ⟨rfl, hb⟩; obtain ⟨hc, hf⟩ := Flow.bcell hb; have hz := hb.size; (try simp only [World.size_alloc, World.size_setCell, World.size_drew] at hz); obtain z0 := Flow.zs1 (show w.heap.size + 1 ≤ u1.heap.size by omega))
    go_wp2_with fail
    go_ret
    exact ⟨by rw [HV.out]; rfl, by (repeat (first | exact Below.refl _ _ | refine Below.setCell ?_ (by first | omega | (simp <;> omega)) _ | refine Below.alloc ?_ (by first | omega | (simp <;> omega)) _ | refine Below.drew ?_ | refine Below.trans ?_ (Below.mono (by assumption) (by first | omega | (simp <;> omega)))))⟩
  · have HV := Lib.hid (show Rf.tmpTy p = p by rw [tmpTy_eq, h]; rfl)
    rw [h] at hzv
    go_enter Tryz.func130, Tryz.ntmps130
    go_wp2_with fail
    (refine (fits_c p V.zero _ ).mono ?_; rintro e u1 ⟨rfl, hb⟩; obtain ⟨hc, hf⟩ := Flow.bcell hb; have hz := hb.size; (try simp only [World.size_alloc, World.size_setCell, World.size_drew] at hz); obtain z0 := Flow.zs1 (show w.heap.size + 1 ≤ u1.heap.size by omega))
    go_wp2_with fail
    go_ret
    exact ⟨by rw [HV.out]; rfl, by (repeat (first | exact Below.refl _ _ | refine Below.setCell ?_ (by first | omega | (simp <;> omega)) _ | refine Below.alloc ?_ (by first | omega | (simp <;> omega)) _ | refine Below.drew ?_ | refine Below.trans ?_ (Below.mono (by assumption) (by first | omega | (simp <;> omega)))))⟩
set_option maxRecDepth 100000 in
theorem types1k_c (p : Int) (B O C : Nat) (w : World)
    (a0 : w.cell? ⟨B, O, none⟩ = some (.int .i64 (-1))) (a1 : w.cell? ⟨B, O + 1, none⟩ = some (iv p)) (a2 : w.cell? ⟨B, O + 2, none⟩ = some (uv 0#32)) (a3 : w.cell? ⟨B, O + 3, none⟩ = some (uv 0#32)) (a4 : w.cell? ⟨B, O + 4, none⟩ = some (uv 0#32)) (a5 : w.cell? ⟨B, O + 5, none⟩ = some (uv 0#32)) :
    Calls Tryz.prog 69 #[.slice none 0 0, .slice (some ⟨B, O, none⟩) 1 C] w (TypesOut w [Rf.tmpTy p]) := by
  have l1 := block_lt_of_cell a0
  simp only [] at l1
  obtain ⟨i0, hi, hz0, hz1, hz2⟩ := info_parts info_int
  go_enter Tryz.func69, Tryz.ntmps69
  go_wp2_with fail
  refine wp_loop_rounds 2 ?_
  rw [rounds_succ]
  go_wp2_with fail
  (refine (typek_c p _ ).mono ?_; rintro e u1 ⟨rfl, hb⟩; obtain ⟨hc, hf⟩ := Flow.bcell hb; have hz := hb.size; (try simp only [World.size_alloc, World.size_setCell, World.size_drew] at hz))
  go_wp2_with (at_builtin; refine wpList_append_own _ rfl _ _ 39 rfl w.heap.size 3 i0 (.int .i64 0) 1 8 Tryz.underlying39 hi hz0 hz1 hz2 rfl (by decide) _ _ _ rfl (World.ownsRow_nil _ _ _ _) ⟨u1.heap.size, 0, none⟩ 1 1 [iv (Rf.tmpTy p)] rfl rfl ?c1 ?c2 ?c3 ?c4 ?c5 ?_)
  case c1 =>
    intro j u hj
    match j, hj with
    | 0, hj => simp at hj; subst hj; simp [Addr.add]
  case c2 => intro u hu; simp at hu; subst hu; rfl
  case c3 => unfold maxLen; omega
  case c4 => omega
  case c5 => simp; omega
  intro v' w2 hown hgrow _
  have hb2 : Below w.heap.size w w2 := ((hb.alloc (by omega) _).grown hgrow (by simp; omega) (by intro k hk; cases hk))
  obtain ⟨g, cp, rfl, hg, hcells⟩ := own_cells (ts := [Rf.tmpTy p]) (by omega) hown
  clear hown hgrow
  go_wp2_with fail
  rw [rounds_succ]
  go_wp2_with fail
  go_ret
  exact ⟨g, cp, rfl, hcells, hg, hb2⟩
structure Atoms2K (p q : Int) (B O : Nat) (w : World) : Prop where
  a0 : w.cell? ⟨B, O, none⟩ = some (.int .i64 (-1))
  a1 : w.cell? ⟨B, O + 1, none⟩ = some (iv p)
  a2 : w.cell? ⟨B, O + 2, none⟩ = some (uv 0#32)
  a3 : w.cell? ⟨B, O + 3, none⟩ = some (uv 0#32)
  a4 : w.cell? ⟨B, O + 4, none⟩ = some (uv 0#32)
  a5 : w.cell? ⟨B, O + 5, none⟩ = some (uv 0#32)
  b0 : w.cell? ⟨B, O + 6, none⟩ = some (.int .i64 (-1))
  b1 : w.cell? ⟨B, O + 7, none⟩ = some (iv q)
  b2 : w.cell? ⟨B, O + 8, none⟩ = some (uv 0#32)
  b3 : w.cell? ⟨B, O + 9, none⟩ = some (uv 0#32)
  b4 : w.cell? ⟨B, O + 10, none⟩ = some (uv 0#32)
  b5 : w.cell? ⟨B, O + 11, none⟩ = some (uv 0#32)
set_option maxRecDepth 100000 in
theorem types2k_c (p q : Int) (B O C : Nat) (w : World) (H : Atoms2K p q B O w) :
    Calls Tryz.prog 69 #[.slice none 0 0, .slice (some ⟨B, O, none⟩) 2 C] w (TypesOut w [Rf.tmpTy p, Rf.tmpTy q]) := by
  obtain ⟨a0, a1, a2, a3, a4, a5, b0, b1, b2, b3, b4, b5⟩ := H
  have l1 := block_lt_of_cell a0
  simp only [] at l1
  obtain ⟨i0, hi, hz0, hz1, hz2⟩ := info_parts info_int
  go_enter Tryz.func69, Tryz.ntmps69
  go_wp2_with fail
  refine wp_loop_rounds 3 ?_
  rw [rounds_succ]
  go_wp2_with fail
  (refine (typek_c p _ ).mono ?_; rintro e u1 ⟨rfl, hb⟩; obtain ⟨hc, hf⟩ := Flow.bcell hb; have hz := hb.size; (try simp only [World.size_alloc, World.size_setCell, World.size_drew] at hz))
  go_wp2_with (at_builtin; refine wpList_append_own _ rfl _ _ 39 rfl w.heap.size 3 i0 (.int .i64 0) 1 8 Tryz.underlying39 hi hz0 hz1 hz2 rfl (by decide) _ _ _ rfl (World.ownsRow_nil _ _ _ _) ⟨u1.heap.size, 0, none⟩ 1 1 [iv (Rf.tmpTy p)] rfl rfl ?c1 ?c2 ?c3 ?c4 ?c5 ?_)
  case c1 =>
    intro j u hj
    match j, hj with
    | 0, hj => simp at hj; subst hj; simp [Addr.add]
  case c2 => intro u hu; simp at hu; subst hu; rfl
  case c3 => unfold maxLen; omega
  case c4 => omega
  case c5 => simp; omega
  intro v' w2 hown hgrow _
  have hb2 : Below w.heap.size w w2 := ((hb.alloc (by omega) _).grown hgrow (by simp; omega) (by intro k hk; cases hk))
  obtain ⟨hc2, hf2⟩ := Flow.bcell hb2
  have hz' := hb2.size
  have HO := Lib.hid hown
  clear hown hgrow hc hf hz
  have l3 := Nat.lt_of_lt_of_le l1 hz'
  go_wp2_with fail
  rw [rounds_succ]
  go_wp2_with fail
  (refine (typek_c q _ ).mono ?_; rintro e u3 ⟨rfl, hb⟩; obtain ⟨hc, hf⟩ := Flow.bcell hb; have hz := hb.size; (try simp only [World.size_alloc, World.size_setCell, World.size_drew] at hz))
  have hown3 := own_below HO.out hb
  have hown4 := hown3.alloc (.cells #[iv (Rf.tmpTy q)] 3)
  have HO4 := Lib.hid hown4
  clear hown3 hown4 HO
  go_wp2_with (at_builtin; refine wpList_append_own _ rfl _ _ 39 rfl w.heap.size 3 i0 (.int .i64 0) 1 8 Tryz.underlying39 hi hz0 hz1 hz2 rfl (by decide) _ _ _ rfl HO4.out ⟨u3.heap.size, 0, none⟩ 1 1 [iv (Rf.tmpTy q)] rfl rfl ?d1 ?d2 ?d3 ?d4 ?d5 ?_)
  case d1 =>
    intro j u hj
    match j, hj with
    | 0, hj => simp at hj; subst hj; simp [Addr.add]
  case d2 => intro u hu; simp at hu; subst hu; rfl
  case d3 => unfold maxLen; omega
  case d4 => omega
  case d5 => simp; omega
  intro v2 w4 hown hgrow _
  have hvb : ∀ k, v'.ownBlock = some k → w.heap.size ≤ k := by
    intro k hk
    obtain ⟨_, h0 | ⟨g, cp, cur, rfl, hg, _⟩⟩ := HO4.out
    · omega
    · simp [Value.ownBlock] at hk; omega
  have hb4 : Below w.heap.size w w4 := (((hb2.trans (hb.mono (by omega))).alloc (by omega) _).grown hgrow (by simp; omega) hvb)
  obtain ⟨g, cp, rfl, hg, hcells⟩ := own_cells (ts := [Rf.tmpTy p, Rf.tmpTy q]) (by omega) hown
  clear hown hgrow
  go_wp2_with fail
  rw [rounds_succ]
  go_wp2_with fail
  go_ret
  exact ⟨g, cp, rfl, hcells, hg, hb4⟩
end Go.Proofs.YtboknfppecgjmaaGreat
namespace Go.Proofs.YtboknfppecgjmaaGreat
set_option linter.unusedVariables false
set_option linter.unusedSimpArgs false
open Go.RowKit Go.Shelf
set_option maxRecDepth 100000 in
theorem exkun_c (op p to off : Int) (B O C : Nat) (w : World)
    (a0 : w.cell? ⟨B, O, none⟩ = some (.int .i64 (-1))) (a1 : w.cell? ⟨B, O + 1, none⟩ = some (iv p)) (a2 : w.cell? ⟨B, O + 2, none⟩ = some (uv 0#32)) (a3 : w.cell? ⟨B, O + 3, none⟩ = some (uv 0#32)) (a4 : w.cell? ⟨B, O + 4, none⟩ = some (uv 0#32)) (a5 : w.cell? ⟨B, O + 5, none⟩ = some (uv 0#32)) :
    Calls Tryz.prog 36 #[.slice none 0 0, .agg #[iv 3, iv to, iv op, iv off, .slice (some ⟨B, O, none⟩) 1 C]] w fun e w' => e = .returned (iv (Rf.exUn op p to off)) ∧ Below w.heap.size w w' := by
  have l1 := block_lt_of_cell a0
  simp only [] at l1
  have m1 : B < w.heap.size + 1 := by omega
  cases hu : Rf.unary op (Rf.tmpTy p) to
  · have HV := Lib.hid (show Rf.exUn op p to off = 0 by simp [Rf.exUn, hu])
    go_enter Tryz.func36, Tryz.ntmps36
    go_wp2_with fail
    refine (types1k_c p B O C _ (by go_simp) (by go_simp) (by go_simp) (by go_simp) (by go_simp) (by go_simp)).mono ?_
    rintro e w1 ⟨g, cp, rfl, hcells, hg, hb⟩
    obtain ⟨hc, hf⟩ := Flow.bcell hb
    have hz := hb.size
    simp only [World.size_alloc] at hz hg
    have z0 : w.heap.size < w1.heap.size := by omega
    have k0 := hcells 0 _ rfl
    clear hcells
    have lg := block_lt_of_cell k0
    simp only [] at lg
    go_wp2_with fail
    refine Flow.wp_region_below 20 (by kernel_rfl) (by kernel_rfl) (fun R hRc hRt => ?_)
    simp only [List.take_succ_cons, List.take_zero, List.drop_succ_cons, List.drop_zero]
    iterate 20
      first
        | refine Flow.flow_skip rfl ?_
        | (apply Flow.flow_step; rfl; (intro w1 hb; have hc := hRc.out w1 hb; go_simp; (first | with_reducible exact ⟨rfl, hb⟩ | (go_at_call 71; refine (runary_c _ _ _ _).mono ?_; rintro e w2 ⟨rfl, rfl⟩; exact ⟨_, rfl, rfl, hb⟩) | (go_at_call 72; refine (rword_c _ _ _).mono ?_; rintro e w2 ⟨rfl, rfl⟩; exact ⟨_, rfl, rfl, hb⟩))))
        | (apply Flow.flow_guardT rfl rfl rfl; (intro hg w1 hb; have hc := hRc.out w1 hb; go_simp; (first | with_reducible exact ⟨rfl, hb⟩ | (go_at_call 71; refine (runary_c _ _ _ _).mono ?_; rintro e w2 ⟨rfl, rfl⟩; exact ⟨_, rfl, rfl, hb⟩) | (go_at_call 72; refine (rword_c _ _ _).mono ?_; rintro e w2 ⟨rfl, rfl⟩; exact ⟨_, rfl, rfl, hb⟩))))
        | (apply Flow.flow_guardF rfl rfl rfl; (intro hg w1 hb; have hc := hRc.out w1 hb; go_simp; (first | with_reducible exact ⟨rfl, hb⟩ | (go_at_call 71; refine (runary_c _ _ _ _).mono ?_; rintro e w2 ⟨rfl, rfl⟩; exact ⟨_, rfl, rfl, hb⟩) | (go_at_call 72; refine (rword_c _ _ _).mono ?_; rintro e w2 ⟨rfl, rfl⟩; exact ⟨_, rfl, rfl, hb⟩))))
        | (apply Flow.flow_guardT2 rfl rfl rfl; (intro hp hg w1 hb; have hc := hRc.out w1 hb; go_simp; (first | with_reducible exact ⟨rfl, hb⟩ | (go_at_call 71; refine (runary_c _ _ _ _).mono ?_; rintro e w2 ⟨rfl, rfl⟩; exact ⟨_, rfl, rfl, hb⟩) | (go_at_call 72; refine (rword_c _ _ _).mono ?_; rintro e w2 ⟨rfl, rfl⟩; exact ⟨_, rfl, rfl, hb⟩))))
        | (apply Flow.flow_guardF2 rfl rfl rfl; (intro hp hg w1 hb; have hc := hRc.out w1 hb; go_simp; (first | with_reducible exact ⟨rfl, hb⟩ | (go_at_call 71; refine (runary_c _ _ _ _).mono ?_; rintro e w2 ⟨rfl, rfl⟩; exact ⟨_, rfl, rfl, hb⟩) | (go_at_call 72; refine (rword_c _ _ _).mono ?_; rintro e w2 ⟨rfl, rfl⟩; exact ⟨_, rfl, rfl, hb⟩))))
      simp only [Act.put, List.setIfInBounds_toArray, List.set_cons_zero, List.set_cons_succ]
    apply Flow.flow_nil
    clear hRc hRt
    intro w1 hb
    obtain ⟨hc, hf⟩ := Flow.bcell hb
    have hz := hb.size
    (try simp only [World.size_alloc, World.size_setCell, World.size_drew] at hz)
    obtain z0 := Flow.zs1 (show w.heap.size + 1 ≤ w1.heap.size by omega)
    go_wp2_with fail
    go_ret
    exact ⟨by rw [HV.out]; rfl, by (repeat (first | exact Below.refl _ _ | refine Below.setCell ?_ (by first | omega | (simp <;> omega)) _ | refine Below.alloc ?_ (by first | omega | (simp <;> omega)) _ | refine Below.drew ?_ | refine Below.trans ?_ (Below.mono (by assumption) (by first | omega | (simp <;> omega)))))⟩
  cases hw : Rf.word (op == 12) off
  · have HV := Lib.hid (show Rf.exUn op p to off = 0 by simp [Rf.exUn, hw])
    go_enter Tryz.func36, Tryz.ntmps36
    go_wp2_with fail
    refine (types1k_c p B O C _ (by go_simp) (by go_simp) (by go_simp) (by go_simp) (by go_simp) (by go_simp)).mono ?_
    rintro e w1 ⟨g, cp, rfl, hcells, hg, hb⟩
    obtain ⟨hc, hf⟩ := Flow.bcell hb
    have hz := hb.size
    simp only [World.size_alloc] at hz hg
    have z0 : w.heap.size < w1.heap.size := by omega
    have k0 := hcells 0 _ rfl
    clear hcells
    have lg := block_lt_of_cell k0
    simp only [] at lg
    go_wp2_with fail
    refine Flow.wp_region_below 20 (by kernel_rfl) (by kernel_rfl) (fun R hRc hRt => ?_)
    simp only [List.take_succ_cons, List.take_zero, List.drop_succ_cons, List.drop_zero]
    iterate 20
      first
        | refine Flow.flow_skip rfl ?_
        | (apply Flow.flow_step; rfl; (intro w1 hb; have hc := hRc.out w1 hb; go_simp; (first | with_reducible exact ⟨rfl, hb⟩ | (go_at_call 71; refine (runary_c _ _ _ _).mono ?_; rintro e w2 ⟨rfl, rfl⟩; exact ⟨_, rfl, rfl, hb⟩) | (go_at_call 72; refine (rword_c _ _ _).mono ?_; rintro e w2 ⟨rfl, rfl⟩; exact ⟨_, rfl, rfl, hb⟩))))
        | (apply Flow.flow_guardT rfl rfl rfl; (intro hg w1 hb; have hc := hRc.out w1 hb; go_simp; (first | with_reducible exact ⟨rfl, hb⟩ | (go_at_call 71; refine (runary_c _ _ _ _).mono ?_; rintro e w2 ⟨rfl, rfl⟩; exact ⟨_, rfl, rfl, hb⟩) | (go_at_call 72; refine (rword_c _ _ _).mono ?_; rintro e w2 ⟨rfl, rfl⟩; exact ⟨_, rfl, rfl, hb⟩))))
        | (apply Flow.flow_guardF rfl rfl rfl; (intro hg w1 hb; have hc := hRc.out w1 hb; go_simp; (first | with_reducible exact ⟨rfl, hb⟩ | (go_at_call 71; refine (runary_c _ _ _ _).mono ?_; rintro e w2 ⟨rfl, rfl⟩; exact ⟨_, rfl, rfl, hb⟩) | (go_at_call 72; refine (rword_c _ _ _).mono ?_; rintro e w2 ⟨rfl, rfl⟩; exact ⟨_, rfl, rfl, hb⟩))))
        | (apply Flow.flow_guardT2 rfl rfl rfl; (intro hp hg w1 hb; have hc := hRc.out w1 hb; go_simp; (first | with_reducible exact ⟨rfl, hb⟩ | (go_at_call 71; refine (runary_c _ _ _ _).mono ?_; rintro e w2 ⟨rfl, rfl⟩; exact ⟨_, rfl, rfl, hb⟩) | (go_at_call 72; refine (rword_c _ _ _).mono ?_; rintro e w2 ⟨rfl, rfl⟩; exact ⟨_, rfl, rfl, hb⟩))))
        | (apply Flow.flow_guardF2 rfl rfl rfl; (intro hp hg w1 hb; have hc := hRc.out w1 hb; go_simp; (first | with_reducible exact ⟨rfl, hb⟩ | (go_at_call 71; refine (runary_c _ _ _ _).mono ?_; rintro e w2 ⟨rfl, rfl⟩; exact ⟨_, rfl, rfl, hb⟩) | (go_at_call 72; refine (rword_c _ _ _).mono ?_; rintro e w2 ⟨rfl, rfl⟩; exact ⟨_, rfl, rfl, hb⟩))))
      simp only [Act.put, List.setIfInBounds_toArray, List.set_cons_zero, List.set_cons_succ]
    apply Flow.flow_nil
    clear hRc hRt
    intro w1 hb
    obtain ⟨hc, hf⟩ := Flow.bcell hb
    have hz := hb.size
    (try simp only [World.size_alloc, World.size_setCell, World.size_drew] at hz)
    obtain z0 := Flow.zs1 (show w.heap.size + 1 ≤ w1.heap.size by omega)
    go_wp2_with fail
    go_ret
    exact ⟨by rw [HV.out]; rfl, by (repeat (first | exact Below.refl _ _ | refine Below.setCell ?_ (by first | omega | (simp <;> omega)) _ | refine Below.alloc ?_ (by first | omega | (simp <;> omega)) _ | refine Below.drew ?_ | refine Below.trans ?_ (Below.mono (by assumption) (by first | omega | (simp <;> omega)))))⟩
  · have HV := Lib.hid (show Rf.exUn op p to off = to by simp [Rf.exUn, hu, hw])
    go_enter Tryz.func36, Tryz.ntmps36
    go_wp2_with fail
    refine (types1k_c p B O C _ (by go_simp) (by go_simp) (by go_simp) (by go_simp) (by go_simp) (by go_simp)).mono ?_
    rintro e w1 ⟨g, cp, rfl, hcells, hg, hb⟩
    obtain ⟨hc, hf⟩ := Flow.bcell hb
    have hz := hb.size
    simp only [World.size_alloc] at hz hg
    have z0 : w.heap.size < w1.heap.size := by omega
    have k0 := hcells 0 _ rfl
    clear hcells
    have lg := block_lt_of_cell k0
    simp only [] at lg
    go_wp2_with fail
    refine Flow.wp_region_below 20 (by kernel_rfl) (by kernel_rfl) (fun R hRc hRt => ?_)
    simp only [List.take_succ_cons, List.take_zero, List.drop_succ_cons, List.drop_zero]
    iterate 20
      first
        | refine Flow.flow_skip rfl ?_
        | (apply Flow.flow_step; rfl; (intro w1 hb; have hc := hRc.out w1 hb; go_simp; (first | with_reducible exact ⟨rfl, hb⟩ | (go_at_call 71; refine (runary_c _ _ _ _).mono ?_; rintro e w2 ⟨rfl, rfl⟩; exact ⟨_, rfl, rfl, hb⟩) | (go_at_call 72; refine (rword_c _ _ _).mono ?_; rintro e w2 ⟨rfl, rfl⟩; exact ⟨_, rfl, rfl, hb⟩))))
        | (apply Flow.flow_guardT rfl rfl rfl; (intro hg w1 hb; have hc := hRc.out w1 hb; go_simp; (first | with_reducible exact ⟨rfl, hb⟩ | (go_at_call 71; refine (runary_c _ _ _ _).mono ?_; rintro e w2 ⟨rfl, rfl⟩; exact ⟨_, rfl, rfl, hb⟩) | (go_at_call 72; refine (rword_c _ _ _).mono ?_; rintro e w2 ⟨rfl, rfl⟩; exact ⟨_, rfl, rfl, hb⟩))))
        | (apply Flow.flow_guardF rfl rfl rfl; (intro hg w1 hb; have hc := hRc.out w1 hb; go_simp; (first | with_reducible exact ⟨rfl, hb⟩ | (go_at_call 71; refine (runary_c _ _ _ _).mono ?_; rintro e w2 ⟨rfl, rfl⟩; exact ⟨_, rfl, rfl, hb⟩) | (go_at_call 72; refine (rword_c _ _ _).mono ?_; rintro e w2 ⟨rfl, rfl⟩; exact ⟨_, rfl, rfl, hb⟩))))
        | (apply Flow.flow_guardT2 rfl rfl rfl; (intro hp hg w1 hb; have hc := hRc.out w1 hb; go_simp; (first | with_reducible exact ⟨rfl, hb⟩ | (go_at_call 71; refine (runary_c _ _ _ _).mono ?_; rintro e w2 ⟨rfl, rfl⟩; exact ⟨_, rfl, rfl, hb⟩) | (go_at_call 72; refine (rword_c _ _ _).mono ?_; rintro e w2 ⟨rfl, rfl⟩; exact ⟨_, rfl, rfl, hb⟩))))
        | (apply Flow.flow_guardF2 rfl rfl rfl; (intro hp hg w1 hb; have hc := hRc.out w1 hb; go_simp; (first | with_reducible exact ⟨rfl, hb⟩ | (go_at_call 71; refine (runary_c _ _ _ _).mono ?_; rintro e w2 ⟨rfl, rfl⟩; exact ⟨_, rfl, rfl, hb⟩) | (go_at_call 72; refine (rword_c _ _ _).mono ?_; rintro e w2 ⟨rfl, rfl⟩; exact ⟨_, rfl, rfl, hb⟩))))
      simp only [Act.put, List.setIfInBounds_toArray, List.set_cons_zero, List.set_cons_succ]
    apply Flow.flow_nil
    clear hRc hRt
    intro w1 hb
    obtain ⟨hc, hf⟩ := Flow.bcell hb
    have hz := hb.size
    (try simp only [World.size_alloc, World.size_setCell, World.size_drew] at hz)
    obtain z0 := Flow.zs1 (show w.heap.size + 1 ≤ w1.heap.size by omega)
    go_wp2_with fail
    go_ret
    exact ⟨by rw [HV.out]; rfl, by (repeat (first | exact Below.refl _ _ | refine Below.setCell ?_ (by first | omega | (simp <;> omega)) _ | refine Below.alloc ?_ (by first | omega | (simp <;> omega)) _ | refine Below.drew ?_ | refine Below.trans ?_ (Below.mono (by assumption) (by first | omega | (simp <;> omega)))))⟩
set_option maxRecDepth 100000 in
theorem exkbin_u (op p q to off : Int) (B O C : Nat) (w : World) (H : Atoms2K p q B O w) (hu : Rf.binary op (Rf.tmpTy p) (Rf.tmpTy q) to = false) :
    Calls Tryz.prog 36 #[.slice none 0 0, .agg #[iv 4, iv to, iv op, iv off, .slice (some ⟨B, O, none⟩) 2 C]] w fun e w' => e = .returned (iv (Rf.exBin op p q to off)) ∧ Below w.heap.size w w' := by
  obtain ⟨a0, a1, a2, a3, a4, a5, b0, b1, b2, b3, b4, b5⟩ := H
  have l1 := block_lt_of_cell a0
  simp only [] at l1
  have m1 : B < w.heap.size + 1 := by omega
  have HV := Lib.hid (show Rf.exBin op p q to off = 0 by simp [Rf.exBin, hu])
  go_enter Tryz.func36, Tryz.ntmps36
  go_wp2_with fail
  refine (types2k_c p q B O C _ ⟨by go_simp, by go_simp, by go_simp, by go_simp, by go_simp, by go_simp, by go_simp, by go_simp, by go_simp, by go_simp, by go_simp, by go_simp⟩).mono ?_
  rintro e w1 ⟨g, cp, rfl, hcells, hg, hb⟩
  obtain ⟨hc, hf⟩ := Flow.bcell hb
  have hz := hb.size
  simp only [World.size_alloc] at hz hg
  have z0 : w.heap.size < w1.heap.size := by omega
  have k0 := hcells 0 _ rfl
  have k1 := hcells 1 _ rfl
  clear hcells
  have lg := block_lt_of_cell k0
  simp only [] at lg
  go_wp2_with fail
  (refine (rbinary_c _ _ (Rf.tmpTy p) (Rf.tmpTy q) g 0 cp _ (by go_simp) (by go_simp) ).mono ?_; rintro e u1 ⟨rfl, hb⟩; obtain ⟨hc, hf⟩ := Flow.bcell hb; have hz := hb.size; (try simp only [World.size_alloc, World.size_setCell, World.size_drew] at hz); obtain z0 := Flow.zs1 (show w.heap.size + 1 ≤ u1.heap.size by omega))
  have z1 : w.heap.size < u1.heap.size := by omega
  go_wp2_with (go_at_call 72; refine (rword_c _ _ _).mono ?_; rintro e w1 ⟨rfl, rfl⟩)
  go_ret
  exact ⟨by rw [HV.out]; rfl, by (repeat (first | exact Below.refl _ _ | refine Below.setCell ?_ (by first | omega | (simp <;> omega)) _ | refine Below.alloc ?_ (by first | omega | (simp <;> omega)) _ | refine Below.drew ?_ | refine Below.trans ?_ (Below.mono (by assumption) (by first | omega | (simp <;> omega)))))⟩
set_option maxRecDepth 100000 in
theorem exkbin_w (op p q to off : Int) (B O C : Nat) (w : World) (H : Atoms2K p q B O w) (hu : Rf.binary op (Rf.tmpTy p) (Rf.tmpTy q) to = true) (hw : Rf.word (op == 30) off = false) :
    Calls Tryz.prog 36 #[.slice none 0 0, .agg #[iv 4, iv to, iv op, iv off, .slice (some ⟨B, O, none⟩) 2 C]] w fun e w' => e = .returned (iv (Rf.exBin op p q to off)) ∧ Below w.heap.size w w' := by
  obtain ⟨a0, a1, a2, a3, a4, a5, b0, b1, b2, b3, b4, b5⟩ := H
  have l1 := block_lt_of_cell a0
  simp only [] at l1
  have m1 : B < w.heap.size + 1 := by omega
  have HV := Lib.hid (show Rf.exBin op p q to off = 0 by simp [Rf.exBin, hw])
  go_enter Tryz.func36, Tryz.ntmps36
  go_wp2_with fail
  refine (types2k_c p q B O C _ ⟨by go_simp, by go_simp, by go_simp, by go_simp, by go_simp, by go_simp, by go_simp, by go_simp, by go_simp, by go_simp, by go_simp, by go_simp⟩).mono ?_
  rintro e w1 ⟨g, cp, rfl, hcells, hg, hb⟩
  obtain ⟨hc, hf⟩ := Flow.bcell hb
  have hz := hb.size
  simp only [World.size_alloc] at hz hg
  have z0 : w.heap.size < w1.heap.size := by omega
  have k0 := hcells 0 _ rfl
  have k1 := hcells 1 _ rfl
  clear hcells
  have lg := block_lt_of_cell k0
  simp only [] at lg
  go_wp2_with fail
  (refine (rbinary_c _ _ (Rf.tmpTy p) (Rf.tmpTy q) g 0 cp _ (by go_simp) (by go_simp) ).mono ?_; rintro e u1 ⟨rfl, hb⟩; obtain ⟨hc, hf⟩ := Flow.bcell hb; have hz := hb.size; (try simp only [World.size_alloc, World.size_setCell, World.size_drew] at hz); obtain z0 := Flow.zs1 (show w.heap.size + 1 ≤ u1.heap.size by omega))
  have z1 : w.heap.size < u1.heap.size := by omega
  go_wp2_with (go_at_call 72; refine (rword_c _ _ _).mono ?_; rintro e w1 ⟨rfl, rfl⟩)
  go_ret
  exact ⟨by rw [HV.out]; rfl, by (repeat (first | exact Below.refl _ _ | refine Below.setCell ?_ (by first | omega | (simp <;> omega)) _ | refine Below.alloc ?_ (by first | omega | (simp <;> omega)) _ | refine Below.drew ?_ | refine Below.trans ?_ (Below.mono (by assumption) (by first | omega | (simp <;> omega)))))⟩
set_option maxRecDepth 100000 in
theorem exkbin_y (op p q to off : Int) (B O C : Nat) (w : World) (H : Atoms2K p q B O w) (hu : Rf.binary op (Rf.tmpTy p) (Rf.tmpTy q) to = true) (hw : Rf.word (op == 30) off = true) :
    Calls Tryz.prog 36 #[.slice none 0 0, .agg #[iv 4, iv to, iv op, iv off, .slice (some ⟨B, O, none⟩) 2 C]] w fun e w' => e = .returned (iv (Rf.exBin op p q to off)) ∧ Below w.heap.size w w' := by
  obtain ⟨a0, a1, a2, a3, a4, a5, b0, b1, b2, b3, b4, b5⟩ := H
  have l1 := block_lt_of_cell a0
  simp only [] at l1
  have m1 : B < w.heap.size + 1 := by omega
  have HV := Lib.hid (show Rf.exBin op p q to off = to by simp [Rf.exBin, hu, hw])
  go_enter Tryz.func36, Tryz.ntmps36
  go_wp2_with fail
  refine (types2k_c p q B O C _ ⟨by go_simp, by go_simp, by go_simp, by go_simp, by go_simp, by go_simp, by go_simp, by go_simp, by go_simp, by go_simp, by go_simp, by go_simp⟩).mono ?_
  rintro e w1 ⟨g, cp, rfl, hcells, hg, hb⟩
  obtain ⟨hc, hf⟩ := Flow.bcell hb
  have hz := hb.size
  simp only [World.size_alloc] at hz hg
  have z0 : w.heap.size < w1.heap.size := by omega
  have k0 := hcells 0 _ rfl
  have k1 := hcells 1 _ rfl
  clear hcells
  have lg := block_lt_of_cell k0
  simp only [] at lg
  go_wp2_with fail
  (refine (rbinary_c _ _ (Rf.tmpTy p) (Rf.tmpTy q) g 0 cp _ (by go_simp) (by go_simp) ).mono ?_; rintro e u1 ⟨rfl, hb⟩; obtain ⟨hc, hf⟩ := Flow.bcell hb; have hz := hb.size; (try simp only [World.size_alloc, World.size_setCell, World.size_drew] at hz); obtain z0 := Flow.zs1 (show w.heap.size + 1 ≤ u1.heap.size by omega))
  have z1 : w.heap.size < u1.heap.size := by omega
  go_wp2_with (go_at_call 72; refine (rword_c _ _ _).mono ?_; rintro e w1 ⟨rfl, rfl⟩)
  go_ret
  exact ⟨by rw [HV.out]; rfl, by (repeat (first | exact Below.refl _ _ | refine Below.setCell ?_ (by first | omega | (simp <;> omega)) _ | refine Below.alloc ?_ (by first | omega | (simp <;> omega)) _ | refine Below.drew ?_ | refine Below.trans ?_ (Below.mono (by assumption) (by first | omega | (simp <;> omega)))))⟩
theorem exkbin_c (op p q to off : Int) (B O C : Nat) (w : World) (H : Atoms2K p q B O w) :
    Calls Tryz.prog 36 #[.slice none 0 0, .agg #[iv 4, iv to, iv op, iv off, .slice (some ⟨B, O, none⟩) 2 C]] w fun e w' => e = .returned (iv (Rf.exBin op p q to off)) ∧ Below w.heap.size w w' := by
  cases hu : Rf.binary op (Rf.tmpTy p) (Rf.tmpTy q) to
  · exact exkbin_u op p q to off B O C w H hu
  cases hw : Rf.word (op == 30) off
  · exact exkbin_w op p q to off B O C w H hu hw
  · exact exkbin_y op p q to off B O C w H hu hw
end Go.Proofs.YtboknfppecgjmaaGreat
namespace Go.Proofs.YtboknfppecgjmaaGreat
set_option linter.unusedVariables false
set_option linter.unusedSimpArgs false
def Ask.sh (q : Ask) (s : List (BitVec 32)) : V × Int :=
  if q.kind = 0 then Vb.un q.op q.from_ q.to q.off q.x q.a
  else if q.kind = 1 then Vb.bin q.op q.from_ q.off q.x q.a q.y q.b
  else if q.kind = 2 then Vb.mux q.from_ q.c q.d q.x q.a q.y q.b
  else (V.word (Vb.call q.op s).1, (Vb.call q.op s).2)
def Ask.res (q : Ask) (n : Nat) : Int :=
  if q.kind = 0 then Rf.exUn q.op q.from_ q.to q.off
  else if q.kind = 1 then (if Rf.exBin q.op q.from_ q.sec q.from_ q.off ≠ 0 then Rf.exBin q.op q.from_ q.sec q.from_ q.off else Rf.exBin q.op q.from_ q.sec 1 q.off)
  else if q.kind = 2 then Rf.tmpTy q.from_
  else if q.kind = 3 then (if (q.op == 1 && ((n : Int) == 4)) || (q.op == 2 && ((n : Int) == 5)) then 32 else 0)
  else 0
def Ask.fit (q : Ask) (n m : Nat) : Bool :=
  if q.res n = 0 then false
  else if q.kind = 3 then (m : Int) == (n : Int)
  else Vb.is q.from_ q.x && Vb.is q.from_ q.a && (q.kind == 0 || (Vb.is q.sec q.y && Vb.is q.sec q.b && (q.kind == 1 || (Vb.is 1 q.c && Vb.is 1 q.d))))
theorem sec_eq {q : Ask} (hk : q.kind = 1) : q.sec = Rf.secTy q.op q.from_ := by
  unfold Ask.sec Rf.secTy
  simp [hk]
theorem sec_ne {q : Ask} (hk : q.kind ≠ 1) : q.sec = q.from_ := by
  unfold Ask.sec
  simp [hk]
inductive Ask.Fits (q : Ask) (n m : Nat) : Prop
  | un (hk : q.kind = 0) (h : Vb.isUn q.op q.from_ q.to q.off = true) (hx : Vb.is q.from_ q.x = true) (ha : Vb.is q.from_ q.a = true)
  | bin (hk : q.kind = 1) (h : Vb.second q.op q.from_ q.off ≠ 0) (hsec : Vb.second q.op q.from_ q.off = q.sec) (hx : Vb.is q.from_ q.x = true) (ha : Vb.is q.from_ q.a = true) (hy : Vb.is q.sec q.y = true) (hb : Vb.is q.sec q.b = true)
  | mux (hk : q.kind = 2) (ht : Vb.isType q.from_ = true) (hsec : q.sec = q.from_) (hx : Vb.is q.from_ q.x = true) (ha : Vb.is q.from_ q.a = true) (hy : Vb.is q.from_ q.y = true) (hb : Vb.is q.from_ q.b = true) (hc : Vb.is 1 q.c = true) (hd : Vb.is 1 q.d = true)
  | call (hk : q.kind = 3) (h : (q.op = 1 ∧ n = 4) ∨ (q.op = 2 ∧ n = 5)) (hm : m = n)
theorem fit_cases {q : Ask} {n m : Nat} (h : q.fit n m = true) : q.Fits n m := by
  unfold Ask.fit at h
  split at h
  · cases h
  rename_i hr
  unfold Ask.res at hr
  by_cases h0 : q.kind = 0
  · simp only [h0, if_true, show ¬ ((0 : Int) = 3) by decide, if_false, beq_self_eq_true, Bool.true_or, Bool.and_true, Bool.and_eq_true] at hr h
    exact .un h0 ((exUn_iff _ _ _ _).1 hr) h.1 h.2
  by_cases h1 : q.kind = 1
  · simp only [h1, if_true, show ¬ ((1 : Int) = 3) by decide, show ¬ ((1 : Int) = 0) by decide, show ((1 : Int) == 0) = false by decide, if_false, beq_self_eq_true, Bool.true_or, Bool.and_true, Bool.false_or, Bool.and_eq_true] at hr h
    have hs : Vb.second q.op q.from_ q.off ≠ 0 := by
      rw [sec_eq h1] at hr
      split at hr
      · exact ((exBin_iff _ _ _ _ (.inl rfl)).1 hr).1
      · exact ((exBin_iff _ _ _ _ (.inr rfl)).1 hr).1
    exact .bin h1 hs (by rw [sec_eq h1]; exact second_sec hs) h.1.1 h.1.2 h.2.1 h.2.2
  by_cases h2 : q.kind = 2
  · have hs := sec_ne (q := q) (by rw [h2]; decide)
    rw [hs] at h
    simp only [h2, if_true, show ¬ ((2 : Int) = 3) by decide, show ¬ ((2 : Int) = 0) by decide, show ¬ ((2 : Int) = 1) by decide, show ((2 : Int) == 0) = false by decide, show ((2 : Int) == 1) = false by decide, if_false, beq_self_eq_true, Bool.true_or, Bool.and_true, Bool.false_or, Bool.and_eq_true] at hr h
    have ht : Vb.isType q.from_ = true := by
      rw [tmpTy_eq] at hr
      by_cases ht : Vb.isType q.from_ = true
      · exact ht
      · rw [if_neg ht] at hr; exact absurd rfl hr
    exact .mux h2 ht hs h.1.1 h.1.2 h.2.1.1 h.2.1.2 h.2.2.1 h.2.2.2
  by_cases h3 : q.kind = 3
  · simp only [h3, if_true, show ¬ ((3 : Int) = 0) by decide, show ¬ ((3 : Int) = 1) by decide, show ¬ ((3 : Int) = 2) by decide, if_false, beq_iff_eq] at hr h
    have hm : m = n := by omega
    refine .call h3 ?_ hm
    split at hr
    · rename_i hc
      simp only [Bool.or_eq_true, Bool.and_eq_true, beq_iff_eq] at hc
      omega
    · exact absurd rfl hr
  · simp only [h0, h1, h2, h3, if_false] at hr
    exact absurd trivial hr
theorem fill_zero {ty : Int} {x p : V} (h : Vb.is ty x = true) : Vb.fill ty x V.zero p = x := by
  obtain ⟨_, h1, h2, h3, h4⟩ := is_parts h
  have w : ∀ m x b : BitVec 32, x &&& ~~~m = 0#32 → ((x &&& ~~~0#32) ||| (b &&& 0#32)) &&& m = x := by
    intro m x b hm
    apply BitVec.eq_of_getLsbD_eq; intro i hi
    have hb := congrArg (fun z => z.getLsbD i) hm
    simp only [BitVec.getLsbD_and, BitVec.getLsbD_or, BitVec.getLsbD_not, hi, decide_true, Bool.true_and, BitVec.getLsbD_zero] at hb ⊢
    cases hx : x.getLsbD i <;> cases hmm : m.getLsbD i <;> simp_all
  exact ext4 (w _ _ _ h1) (w _ _ _ h2) (w _ _ _ h3) (w _ _ _ h4)
def Ask.other (q : Ask) : Ask := { q with c := Vb.fill 1 q.c q.d q.t, x := Vb.fill q.from_ q.x q.a q.p, y := Vb.fill q.sec q.y q.b q.q }
def Ask.none_ (q : Ask) (v : Value) : Ask := { q with a := V.zero, b := V.zero, d := V.zero, s := v }
theorem call_fine {op : Int} {s : List (BitVec 32)} {n : Nat} (h : (op = 1 ∧ n = 4) ∨ (op = 2 ∧ n = 5)) (hs : s.length = n) : (Vb.call op s).2 = 0 := by
  unfold Vb.call
  subst hs
  rcases h with ⟨rfl, h⟩ | ⟨rfl, h⟩
  · rw [if_pos ⟨rfl, h⟩]
  · rw [if_neg (by rintro ⟨h, _⟩; revert h; decide), if_pos ⟨rfl, h⟩]
theorem sh_ok {q : Ask} {n m : Nat} {s : List (BitVec 32)} (h : q.Fits n m) (hs : s.length = m) : (q.sh s).2 = 0 := by
  unfold Ask.sh
  cases h with
  | un hk h hx ha => rw [if_pos hk, un_fine h hx ha]
  | bin hk h hsec hx ha hy hb => rw [if_neg (by omega), if_pos hk, bin_fine h hx ha (by rw [hsec]; exact hy) (by rw [hsec]; exact hb)]
  | mux hk ht hsec hx ha hy hb hc hd =>
    rw [if_neg (by omega), if_neg (by omega), if_pos hk, mux_fine hx ha hy hb hc hd]
    repeat' split
    all_goals rfl
  | call hk h hm =>
    rw [if_neg (by omega), if_neg (by omega), if_neg (by omega)]
    exact call_fine h (by omega)
end Go.Proofs.YtboknfppecgjmaaGreat
namespace Go.Proofs.YtboknfppecgjmaaGreat
set_option linter.unusedVariables false
set_option linter.unusedSimpArgs false
def Sub (a b : BitVec 32) : Prop := ∀ i, i < 32 → a.getLsbD i = true → b.getLsbD i = true
theorem left_bit (z : BitVec 32) (i : Nat) (hi : i < 32) : (Vb.left z).getLsbD i = true ↔ ∃ j, j ≤ i ∧ z.getLsbD j = true := by
  unfold Vb.left
  rw [BitVec.getLsbD_or, BitVec.getLsbD_neg]
  simp only [hi, decide_true, Bool.true_and]
  constructor
  · intro h
    cases hz : z.getLsbD i
    · rw [hz] at h
      simp only [Bool.false_or, Bool.false_bne, decide_eq_true_eq] at h
      obtain ⟨j, h1, h2⟩ := h
      exact ⟨j, by omega, h2⟩
    · exact ⟨i, Nat.le_refl _, hz⟩
  · rintro ⟨j, h1, h2⟩
    rcases Nat.lt_or_eq_of_le h1 with h3 | rfl
    · have h4 : decide (∃ j, j < i ∧ z.getLsbD j = true) = true := by simp only [decide_eq_true_eq]; exact ⟨j, h3, h2⟩
      rw [h4]
      cases z.getLsbD i <;> rfl
    · rw [h2]; rfl
def LaneMono (f : BitVec 32 → BitVec 32 → BitVec 32 → BitVec 32 → BitVec 32) : Prop := ∀ x a a' y b b', Sub a a' → Sub b b' → Sub (f x a y b) (f x a' y b')
structure Subv (a b : V) : Prop where
  fa : Sub a.a b.a
  fb : Sub a.b b.b
  fc : Sub a.c b.c
  fd : Sub a.d b.d
def moreL (r : V) : Nat → List (BitVec 32) → List (BitVec 32)
  | _, [] => []
  | i, k :: l => (k ||| r.get (i % 4)) :: moreL r (i + 1) l
def Ask.more (q : Ask) (v : Value) : Ask := { q with d := (Vb.ones 1).and (q.d.or q.t), a := (Vb.ones q.from_).and (q.a.or q.p), b := (Vb.ones q.sec).and (q.b.or q.q), s := v }
end Go.Proofs.YtboknfppecgjmaaGreat
