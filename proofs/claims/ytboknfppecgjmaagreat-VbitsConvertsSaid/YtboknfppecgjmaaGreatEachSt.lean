/- What the world holds between two steps of 'each'; no walk. -/
import Derived.Test.YtboknfppecgjmaaGreatLanes
namespace Go.Proofs.YtboknfppecgjmaaGreat
set_option linter.unusedVariables false
set_option linter.unusedSimpArgs false
open Go.RowKit Go.Shelf

theorem vset_0 (o : V) (v : BitVec 32) : o.set 0 v = ⟨v, o.b, o.c, o.d⟩ := rfl
theorem vset_1 (o : V) (v : BitVec 32) : o.set 1 v = ⟨o.a, v, o.c, o.d⟩ := rfl
theorem vset_2 (o : V) (v : BitVec 32) : o.set 2 v = ⟨o.a, o.b, v, o.d⟩ := rfl
theorem vset_3 (o : V) (v : BitVec 32) : o.set 3 v = ⟨o.a, o.b, o.c, v⟩ := rfl

/-- The blocks of 'each' from N on: its operands, the function, its result, 'out' as it stands, and the marks of the loops that have ended. -/
structure EachSt (w : World) (x a y b : V) (g : Nat) (o : V) (ds : List Nat) (W : World) : Prop where
  bel : Below w.heap.size w W
  size : w.heap.size + 7 ≤ W.heap.size
  c0 : W.heap[w.heap.size]? = some (.cells #[uv x.a, uv x.b, uv x.c, uv x.d] 69 (0, 0))
  c1 : W.heap[w.heap.size + 1]? = some (.cells #[uv a.a, uv a.b, uv a.c, uv a.d] 69 (0, 0))
  c2 : W.heap[w.heap.size + 1 + 1]? = some (.cells #[uv y.a, uv y.b, uv y.c, uv y.d] 69 (0, 0))
  c3 : W.heap[w.heap.size + 1 + 1 + 1]? = some (.cells #[uv b.a, uv b.b, uv b.c, uv b.d] 69 (0, 0))
  c4 : W.heap[w.heap.size + 1 + 1 + 1 + 1]? = some (.cells #[.func (.func g) #[] #[]] 115 (0, 0))
  c5 : W.heap[w.heap.size + 1 + 1 + 1 + 1 + 1]? = some (.cells #[uv 0#32, uv 0#32, uv 0#32, uv 0#32] 69 (0, 0))
  c6 : W.heap[w.heap.size + 1 + 1 + 1 + 1 + 1 + 1]? = some (.cells #[uv o.a, uv o.b, uv o.c, uv o.d] 69 (0, 0))
  marks : ∀ D ∈ ds, w.heap.size + 7 ≤ D ∧ W.heap[D]? = some (.deferred (some []))
  once : ds.Nodup

namespace EachSt
variable {w : World} {x a y b : V} {g : Nat} {o : V} {ds : List Nat} {W W' : World}

theorem mark_lt (h : EachSt w x a y b g o ds W) {D : Nat} (hD : D ∈ ds) : D < W.heap.size := (Array.getElem?_eq_some_iff.1 (h.marks D hD).2).1

theorem kept (h : EachSt w x a y b g o ds W) {M : Nat} (hb : Below M W W') (hM : w.heap.size + 7 ≤ M) (hd : ∀ D ∈ ds, D < M) : EachSt w x a y b g o ds W' :=
  ⟨h.bel.trans (hb.mono (by omega)), Nat.le_trans h.size hb.size, (hb.block _ (by omega)).trans h.c0, (hb.block _ (by omega)).trans h.c1, (hb.block _ (by omega)).trans h.c2, (hb.block _ (by omega)).trans h.c3,
    (hb.block _ (by omega)).trans h.c4, (hb.block _ (by omega)).trans h.c5, (hb.block _ (by omega)).trans h.c6, fun D hD => ⟨(h.marks D hD).1, (hb.block D (hd D hD)).trans (h.marks D hD).2⟩, h.once⟩

theorem below (h : EachSt w x a y b g o ds W) (hb : Below W.heap.size W W') : EachSt w x a y b g o ds W' := h.kept hb h.size (fun _ hD => h.mark_lt hD)

theorem more (h : EachSt w x a y b g o ds W) {D : Nat} (hD : w.heap.size + 7 ≤ D) (hn : D ∉ ds) (hk : W.heap[D]? = some (.deferred (some []))) : EachSt w x a y b g o (D :: ds) W :=
  ⟨h.bel, h.size, h.c0, h.c1, h.c2, h.c3, h.c4, h.c5, h.c6, fun E hE => by
      rcases List.mem_cons.1 hE with rfl | hE
      · exact ⟨hD, hk⟩
      · exact h.marks E hE, List.nodup_cons.2 ⟨hn, h.once⟩⟩

theorem store (h : EachSt w x a y b g o ds W) (i : Nat) (hi : i < 4) (v : BitVec 32) : EachSt w x a y b g (o.set i v) ds (W.setCell ⟨w.heap.size + 1 + 1 + 1 + 1 + 1 + 1, i, none⟩ (uv v)) := by
  have hne : ∀ k, k ≠ w.heap.size + 6 → (W.setCell ⟨w.heap.size + 1 + 1 + 1 + 1 + 1 + 1, i, none⟩ (uv v)).heap[k]? = W.heap[k]? := fun k hk => Below.heap_setCell _ _ _ _ (by simp only []; omega)
  refine ⟨h.bel.setCell (by simp only []; omega) _, by rw [World.size_setCell]; exact h.size, (hne _ (by omega)).trans h.c0, (hne _ (by omega)).trans h.c1, (hne _ (by omega)).trans h.c2, (hne _ (by omega)).trans h.c3, (hne _ (by omega)).trans h.c4, (hne _ (by omega)).trans h.c5, ?_, fun D hD => ⟨(h.marks D hD).1, (hne _ (by have := (h.marks D hD).1; omega)).trans (h.marks D hD).2⟩, h.once⟩
  rw [heap_setCell_same _ _ _ _ _ _ h.c6]
  have hcs : i = 0 ∨ i = 1 ∨ i = 2 ∨ i = 3 := by omega
  rcases hcs with rfl | rfl | rfl | rfl <;> rfl
end EachSt

/-- One word of 'out' behind the lanes that have come. -/
def laneAcc (width : Nat) (f : BitVec 32 → BitVec 32 → BitVec 32 → BitVec 32 → BitVec 32) (x a y b : BitVec 32) (pre : List (Fin 32)) : BitVec 32 :=
  pre.foldl (fun acc k => let m := laneMask width <<< k.val; acc ||| ((f ((x &&& m) >>> k.val) ((a &&& m) >>> k.val) ((y &&& m) >>> k.val) ((b &&& m) >>> k.val) <<< k.val) &&& m)) 0
theorem laneAcc_snoc (width : Nat) (f : BitVec 32 → BitVec 32 → BitVec 32 → BitVec 32 → BitVec 32) (x a y b : BitVec 32) (pre : List (Fin 32)) (k : Fin 32) :
    laneAcc width f x a y b (pre ++ [k]) = laneAcc width f x a y b pre ||| ((f ((x &&& laneMask width <<< k.val) >>> k.val) ((a &&& laneMask width <<< k.val) >>> k.val) ((y &&& laneMask width <<< k.val) >>> k.val) ((b &&& laneMask width <<< k.val) >>> k.val) <<< k.val) &&& laneMask width <<< k.val) := by
  simp [laneAcc, List.foldl_append]
theorem laneAcc_all (width : Nat) (hw : width = 8 ∨ width = 16 ∨ width = 32) (f : BitVec 32 → BitVec 32 → BitVec 32 → BitVec 32 → BitVec 32) (x a y b : BitVec 32) :
    laneAcc width f x a y b (fr width (32 / width)) = Vb.eachWord width f x a y b := by
  rcases hw with rfl | rfl | rfl <;> rfl

theorem vset_get (o : V) (i : Nat) (hi : i < 4) (v : BitVec 32) : (o.set i v).get i = v := by
  have hcs : i = 0 ∨ i = 1 ∨ i = 2 ∨ i = 3 := by omega
  rcases hcs with rfl | rfl | rfl | rfl <;> rfl
theorem vset_set (o : V) (i : Nat) (u v : BitVec 32) : (o.set i u).set i v = o.set i v := by
  simp only [V.set, V.mk.injEq]
  refine ⟨?_, ?_, ?_, ?_⟩ <;> split <;> rfl

theorem each_start (w : World) (x a y b : V) (g : Nat) : EachSt w x a y b g V.zero []
    (((((((w.alloc (.cells #[uv x.a, uv x.b, uv x.c, uv x.d] 69)).alloc (.cells #[uv a.a, uv a.b, uv a.c, uv a.d] 69)).alloc (.cells #[uv y.a, uv y.b, uv y.c, uv y.d] 69)).alloc (.cells #[uv b.a, uv b.b, uv b.c, uv b.d] 69)).alloc (.cells #[.func (.func g) #[] #[]] 115)).alloc (.cells #[uv 0#32, uv 0#32, uv 0#32, uv 0#32] 69)).alloc (.cells #[uv 0#32, uv 0#32, uv 0#32, uv 0#32] 69)) := by
  have hb : Below w.heap.size w (((((((w.alloc (.cells #[uv x.a, uv x.b, uv x.c, uv x.d] 69)).alloc (.cells #[uv a.a, uv a.b, uv a.c, uv a.d] 69)).alloc (.cells #[uv y.a, uv y.b, uv y.c, uv y.d] 69)).alloc (.cells #[uv b.a, uv b.b, uv b.c, uv b.d] 69)).alloc (.cells #[.func (.func g) #[] #[]] 115)).alloc (.cells #[uv 0#32, uv 0#32, uv 0#32, uv 0#32] 69)).alloc (.cells #[uv 0#32, uv 0#32, uv 0#32, uv 0#32] 69)) := by
    (repeat (first | exact Below.refl _ _ | refine Below.setCell ?_ (by first | omega | (simp <;> omega)) _ | refine Below.alloc ?_ (by first | omega | (simp <;> omega)) _ | refine Below.drew ?_ | refine Below.trans ?_ (Below.mono (by assumption) (by first | omega | (simp <;> omega)))))
  refine ⟨hb, by simp, ?_, ?_, ?_, ?_, ?_, ?_, ?_, by simp, by simp⟩ <;> (simp only [World.alloc, Array.getElem?_push, Array.size_push, V.zero]; repeat (first | rfl | (rw [if_pos (by omega)]; done) | rw [if_neg (by omega)] | rw [if_pos (by omega)]))

/-- 'for from, mask := range lanes(width) { .. }' in 'each': what is asked of the code that lays the two variables, and of the body. -/
theorem each_range {assign body : Code} {Q : Exit → Act → World → Prop} (T : Array Value) (dd : List Deferred) (width : Nat) (hw : width = 8 ∨ width = 16 ∨ width = 32) (n : Nat) (hn : 6 ≤ n) (i : Nat) (hi : i < 4)
    {w : World} {x a y b : V} {g : Nat} {o : V} {ds : List Nat} {W : World} (f : BitVec 32 → BitVec 32 → BitVec 32 → BitVec 32 → BitVec 32) (hS : EachSt w x a y b g o ds W) (ho : o.get i = 0#32)
    (hT : T.getD 22 undef = .func (.func 146) #[] #[.pointer (some ⟨W.heap.size + 1, 0, none⟩)])
    (hassign : ∀ (l : Nat) (k : Fin 32) (V : World) (K : Act → World → Prop),
      K ⟨(((T.setIfInBounds 23 (iv (k.val : Nat))).setIfInBounds 24 (uv (laneMask width <<< k.val))).setIfInBounds 15 (.pointer (some ⟨V.heap.size, 0, none⟩))).setIfInBounds 16 (.pointer (some ⟨V.heap.size + 1, 0, none⟩)), []⟩
        ((V.alloc (.cells #[iv (k.val : Nat)] 3)).alloc (.cells #[uv (laneMask width <<< k.val)] 22)) →
      assign.wpIn (Fence.wide.inRound l) (n - 1 - 1) Tryz.prog (Exit.then K (fun _ _ _ => False)) ⟨(T.setIfInBounds 23 (iv (k.val : Nat))).setIfInBounds 24 (uv (laneMask width <<< k.val)), []⟩ V)
    (hbody : ∀ (l : Nat) (k : Fin 32) (o' : V) (V : World) (Bf Bm : Nat), EachSt w x a y b g o' ds V → V.cell? ⟨W.heap.size, 0, none⟩ = some (iv (i : Nat)) → V.cell? ⟨Bf, 0, none⟩ = some (iv (k.val : Nat)) → V.cell? ⟨Bm, 0, none⟩ = some (uv (laneMask width <<< k.val)) →
      W.heap.size < V.heap.size → Bf < V.heap.size → Bm < V.heap.size →
      body.wpIn (Fence.wide.inRound l) (n - 1 - 1) Tryz.prog (fun e _ V' => e = .normal ∧ ∃ V1, Below V.heap.size V V1 ∧ V' = V1.setCell ⟨w.heap.size + 1 + 1 + 1 + 1 + 1 + 1, i, none⟩ (uv (o'.get i ||| ((f ((x.get i &&& laneMask width <<< k.val) >>> k.val) ((a.get i &&& laneMask width <<< k.val) >>> k.val) ((y.get i &&& laneMask width <<< k.val) >>> k.val) ((b.get i &&& laneMask width <<< k.val) >>> k.val) <<< k.val) &&& laneMask width <<< k.val))))
        ⟨(((T.setIfInBounds 23 (iv (k.val : Nat))).setIfInBounds 24 (uv (laneMask width <<< k.val))).setIfInBounds 15 (.pointer (some ⟨Bf, 0, none⟩))).setIfInBounds 16 (.pointer (some ⟨Bm, 0, none⟩)), []⟩ V)
    (hdone : ∀ (D : Nat) (V : World), EachSt w x a y b g (o.set i (Vb.eachWord width f (x.get i) (a.get i) (y.get i) (b.get i))) (D :: ds) V → Q .normal ⟨T, { target := .collected D, args := #[] } :: dd⟩ V) :
    (Code.rangeFunc (.tmp 22) #[23, 24] assign body).wpIn Fence.wide n Tryz.prog Q ⟨T, dd⟩ ((W.alloc (.cells #[iv (i : Nat)] 3)).alloc (.cells #[iv (width : Nat)] 3)) := by
  obtain ⟨W2, hW2⟩ : ∃ W2, (W.alloc (.cells #[iv (i : Nat)] 3)).alloc (.cells #[iv (width : Nat)] 3) = W2 := ⟨_, rfl⟩
  have hz2 : W2.heap.size = W.heap.size + 2 := by rw [← hW2]; simp
  have hbel : Below W.heap.size W W2 := by rw [← hW2]; exact ((Below.refl _ W).alloc (Nat.le_refl _) _).alloc (by simp) _
  have hS2 : EachSt w x a y b g o ds W2 := hS.below hbel
  have hbi : Boxed W2 W.heap.size 3 (iv (i : Nat)) := by rw [← hW2]; exact (Boxed.new W _ _).alloc _
  have hbw : Boxed W2 (W.heap.size + 1) 3 (iv (width : Nat)) := by rw [← hW2]; have := Boxed.new (W.alloc (.cells #[iv (i : Nat)] 3)) 3 (iv (width : Nat)); rwa [World.size_alloc] at this
  have hN := hS.size
  have hdlt : ∀ D ∈ ds, D < W2.heap.size := fun D hD => by have := hS.mark_lt hD; omega
  rw [hW2]
  refine wpIn_rangeFunc_ownH (F := Fence.wide) (n := n) rfl (by omega) (gf := 146) (lb := #[.pointer (some ⟨W.heap.size + 1, 0, none⟩)]) hT trivial (enters_of Tryz.func146 (by kernel_rfl) rfl)
    (lanes1_stops width hw (n - 1) (by omega) (W.heap.size + 1) W2 (by omega) hbw.cell) SameAt.trans
    (fun V l o1 o2 hl hv _ _ => ⟨by simp only [World.putObj]; rw [Array.getElem?_setIfInBounds_ne (by omega)], by simp [World.putObj]⟩) (Below.refl _ _) (fun _ => rfl)
    (fun pre V => EachSt w x a y b g (o.set i (laneAcc width f (x.get i) (a.get i) (y.get i) (b.get i) pre)) ds V ∧ Boxed V W.heap.size 3 (iv (i : Nat)) ∧ W2.heap.size ≤ V.heap.size)
    (fun _ _ _ => False) ?_ (fun _ _ _ _ _ h _ _ => h) ?_
    (fun k a' V => ∃ Bf Bm, W2.heap.size ≤ Bf ∧ W2.heap.size ≤ Bm ∧ Boxed V Bf 3 (iv (k.val : Nat)) ∧ Boxed V Bm 22 (uv (laneMask width <<< k.val)) ∧ a' = ⟨(((T.setIfInBounds 23 (iv (k.val : Nat))).setIfInBounds 24 (uv (laneMask width <<< k.val))).setIfInBounds 15 (.pointer (some ⟨Bf, 0, none⟩))).setIfInBounds 16 (.pointer (some ⟨Bm, 0, none⟩)), []⟩)
    ?_ ?_ ?_ ?_ (fun _ _ _ _ _ _ h _ => h.elim)
  · rintro pre V V' row ⟨h1, h2, h3⟩ hg hr
    have hbB : Below W2.heap.size V V' := (Below.refl _ V).grown hg h3 (fun k e => (hr k e).1)
    exact ⟨h1.kept hbB (by omega) hdlt, (hbB.block _ (by omega)).trans h2, Nat.le_trans h3 hg.size⟩
  · refine ⟨?_, hbi, Nat.le_refl _⟩
    have : o.set i (laneAcc width f (x.get i) (a.get i) (y.get i) (b.get i) []) = o := by
      have hcs : i = 0 ∨ i = 1 ∨ i = 2 ∨ i = 3 := by omega
      cases o
      rcases hcs with rfl | rfl | rfl | rfl <;> simp_all [V.set, V.get, laneAcc]
    rw [this]; exact hS2
  · rintro k a' _ V V' row ⟨Bf, Bm, h1, h2, h3, h4, h5⟩ hg hr
    have hne : ∀ (B : Nat) (t : TypeId) (v : Value), Boxed V B t v → some B ≠ row := fun B t v hB e => by
      obtain ⟨_, o1, ho1, hc1⟩ := hr B e.symm
      rw [show V.heap[B]? = _ from hB] at ho1; cases ho1; cases hc1
    exact ⟨Bf, Bm, h1, h2, h3.kept hg (hne _ _ _ h3), h4.kept hg (hne _ _ _ h4), h5⟩
  · rintro l pre k V K ⟨h1, h2, h3⟩ hK
    have hfold : ((#[23, 24] : Array Tmp).zip (laneEnc width k)).foldl (fun t x => match x with | (p, v) => t.setIfInBounds p v) T = (T.setIfInBounds 23 (iv (k.val : Nat))).setIfInBounds 24 (uv (laneMask width <<< k.val)) := by
      simp [laneEnc]
    simp only [hfold]
    refine hassign l k V K (hK _ _ ?_ ?_ ⟨h1.below (((Below.refl _ V).alloc (Nat.le_refl _) _).alloc (by simp) _), (h2.alloc _).alloc _, by simp; omega⟩ ⟨V.heap.size, V.heap.size + 1, h3, by omega, (Boxed.new V _ _).alloc _, ?_, rfl⟩)
    · exact ((KeepsOthers.alloc V _).trans (KeepsOthers.alloc _ _)).from _
    · have hb := (((Below.refl V.heap.size V).alloc (Nat.le_refl _) (.cells #[iv (k.val : Nat)] 3)).alloc (by simp) (.cells #[uv (laneMask width <<< k.val)] 22))
      exact ⟨hb.block _ (by omega), hb.size⟩
    · have := Boxed.new (V.alloc (.cells #[iv (k.val : Nat)] 3)) 22 (uv (laneMask width <<< k.val)); rwa [World.size_alloc] at this
  · rintro l pre k a' V hl _ ⟨h1, h2, h3⟩ ⟨Bf, Bm, h4, h5, h6, h7, rfl⟩ hlen
    refine Code.wpIn_mono ?_ (hbody l k _ V Bf Bm h1 h2.cell h6.cell h7.cell (by omega) h6.lt h7.lt)
    rintro e a'' V' ⟨rfl, V1, hb1, rfl⟩
    have hs1 := h1.below hb1
    have hst := hs1.store i hi (((o.set i (laneAcc width f (x.get i) (a.get i) (y.get i) (b.get i) pre)).get i) ||| ((f ((x.get i &&& laneMask width <<< k.val) >>> k.val) ((a.get i &&& laneMask width <<< k.val) >>> k.val) ((y.get i &&& laneMask width <<< k.val) >>> k.val) ((b.get i &&& laneMask width <<< k.val) >>> k.val) <<< k.val) &&& laneMask width <<< k.val))
    have hz1 := hb1.size
    have hset : ∀ (u : Value) (j : Nat), j ≠ w.heap.size + 6 → (V1.setCell ⟨w.heap.size + 1 + 1 + 1 + 1 + 1 + 1, i, none⟩ u).heap[j]? = V1.heap[j]? := fun u j hj => Below.heap_setCell _ _ _ _ (by simp only []; omega)
    refine ⟨⟨by simp [World.size_setCell]; exact hz1, fun j oo hj hjo hc => ?_⟩, ⟨?_, by simp [World.size_setCell]; exact hz1⟩, ?_, ?_, by simp [World.size_setCell]; omega⟩
    · rw [hset _ _ (by omega), hb1.block j (Array.getElem?_eq_some_iff.1 hjo).1]; exact hjo
    · rw [hset _ _ (by omega), hb1.block _ (by omega)]
    · rw [laneAcc_snoc]
      rw [vset_set, vset_get _ _ hi] at hst
      rw [vset_get _ _ hi]
      exact hst
    · show _ = _
      rw [hset _ _ (by omega), hb1.block _ (by omega)]; exact h2
  · rintro D xs V hD rfl ⟨h1, h2, h3⟩ hmk
    refine hdone D V ?_
    rw [← laneAcc_all width hw]
    exact h1.more (by omega) (fun hm => by have := hS.mark_lt hm; omega) hmk
/-- On the way out the marks of the loops are taken up, one after the other. -/
theorem leaves_marks {fn : Func} {tmps : Array Value} {R : Ending → World → Prop} {n N : Nat} : ∀ (ds : List Nat) (W : World), ds.Nodup → (∀ D ∈ ds, N ≤ D ∧ W.heap[D]? = some (.deferred (some []))) →
    (∀ W', Below N W W' → LeavesIn Fence.wide n Tryz.prog fn tmps R [] .returning W') → LeavesInM Fence.wide n Tryz.prog fn tmps R (ds.map fun D => { target := .collected D, args := #[] }) .returning W
  | [], W, _, _, h => h W (Below.refl _ _)
  | D :: ds, W, hnd, hm, h => by
    have hD := hm D (List.mem_cons_self ..)
    have hb : Below N W (W.putObj D (.deferred none)) := ⟨rfl, rfl, rfl, by simp [World.putObj], fun k hk => World.putObj_heap_other (by omega)⟩
    refine ⟨by simp, .inl ⟨_, _, rfl, run_takeDeferred hD.2, ?_⟩⟩
    refine leaves_marks ds _ (List.nodup_cons.1 hnd).2 (fun E hE => ⟨(hm E (List.mem_cons_of_mem _ hE)).1, ?_⟩) (fun W' hW' => h W' (hb.trans hW'))
    rw [World.putObj_heap_other (fun (e : E = D) => (List.nodup_cons.1 hnd).1 (e ▸ hE))]
    exact (hm E (List.mem_cons_of_mem _ hE)).2
end Go.Proofs.YtboknfppecgjmaaGreat
