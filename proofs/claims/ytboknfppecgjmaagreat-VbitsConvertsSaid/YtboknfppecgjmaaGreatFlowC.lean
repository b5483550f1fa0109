/- A region that draws its order, whose first operation alone changes the world: R false holds ahead of it, R true behind it. -/
import Derived.Test.YtboknfppecgjmaaGreatFlow
namespace Go.Proofs.YtboknfppecgjmaaGreat
set_option linter.unusedVariables false
set_option linter.unusedSimpArgs false
namespace FlowC
open Flow
section
variable {P : Program} {ops : Array Oper} {md : Region.Mode} {R : Bool → World → Prop}

/-- In every world that R lets in, the operation gives v and a world that R lets in; or it is not wanted. -/
def YieldsR (P : Program) (ops : Array Oper) (R : Bool → World → Prop) (i : Nat) (o : Oper) (v : Value) (a : Act) : Prop :=
  if Region.wanted o (yielded ops a.tmps) then ∀ b w, (i = 0 → b = false) → R b w → runsTo P o a w (fun u w' => u = v ∧ R (b || i == 0) w') else v = undef ∧ i ≠ 0

theorem YieldsR.of_same {i : Nat} {o : Oper} {v : Value} {a a' : Act} (hy : YieldsR P ops R i o v a) (he : execOp a'.eval o = execOp a.eval o)
    (hw : Region.wanted o (yielded ops a'.tmps) = Region.wanted o (yielded ops a.tmps)) : YieldsR P ops R i o v a' := by
  unfold YieldsR runsTo at *
  rw [he, hw]
  exact hy

/-- The walk in the text's order. -/
def wpFlow (P : Program) (ops : Array Oper) (R : Bool → World → Prop) (Q : Act → Prop) : Nat → List Oper → Act → Prop
  | _, [], a => Q a
  | k, o :: rest, a => ∃ v, YieldsR P ops R k o v a ∧ wpFlow P ops R Q (k + 1) rest (a.put o.dst v)

def flOp (P : Program) (ops : Array Oper) (R : Bool → World → Prop) (i : Nat) (K : Act → Prop) (a : Act) : Prop :=
  match ops[i]? with
  | none => K a
  | some o => ∃ v, YieldsR P ops R i o v a ∧ K (a.put o.dst v)

theorem flOp_mono {i : Nat} {a : Act} {K K' : Act → Prop} (h : ∀ a, K a → K' a) (hh : flOp P ops R i K a) : flOp P ops R i K' a := by
  unfold flOp at *
  split at hh
  · exact h _ hh
  · obtain ⟨v, hy, hk⟩ := hh; exact ⟨v, hy, h _ hk⟩

theorem wpOp_of_flOp {i : Nat} {b : Bool} {a : Act} {w : World} {K : Act → Prop} {K' : Act → World → Prop} {Q' : Exit → Act → World → Prop} (hio : i < ops.size) (hib : i = 0 → b = false) (hR : R b w)
    (h : ∀ a w, R (b || i == 0) w → K a → K' a w) (hh : flOp P ops R i K a) : wpOp P ops Q' i K' a w := by
  unfold flOp at hh
  unfold wpOp
  split
  · rename_i ho; rw [Array.getElem?_eq_getElem hio] at ho; cases ho
  · rename_i o ho
    simp only [ho] at hh
    obtain ⟨v, hy, hk⟩ := hh
    unfold YieldsR at hy
    split
    · rename_i hw
      simp only [hw, if_true] at hy
      exact .inl (wp_of_runsTo (fun u w' ⟨hu, hr⟩ => by subst hu; exact h _ _ hr hk) (hy b w hib hR))
    · rename_i hw
      simp only [hw] at hy
      have h2 : v = undef ∧ i ≠ 0 := hy
      obtain ⟨h3, h4⟩ := h2
      subst h3
      have h5 : (b || i == 0) = b := by simp [h4]
      rw [h5] at h
      exact h _ _ hR hk

theorem flOp_put {i j : Nat} {oi oj : Oper} {v : Value} (hj : ops[j]? = some oj) (hap : oi.apart ops oj = true)
    (hsi : ∀ cs b, oi.op ≠ .select cs b) (hsj : ∀ cs b, oj.op ≠ .select cs b) {K : Act → Prop} {a : Act}
    (hy : YieldsR P ops R i oi v a) (h : flOp P ops R j K (a.put oi.dst v)) :
    flOp P ops R j (fun a' => YieldsR P ops R i oi v a' ∧ K (a'.put oi.dst v)) a := by
  obtain ⟨h1, h2, h3⟩ := Oper.apart_spec hap
  unfold flOp at *
  simp only [hj] at *
  obtain ⟨u, hu, hk⟩ := h
  refine ⟨u, hu.of_same (execOp_put oj hsj a oi.dst v h1).symm (wanted_put oj a oi.dst v h1).symm, hy.of_same (execOp_put oi hsi a oj.dst u h3) (wanted_put oi a oj.dst u h3), ?_⟩
  rw [← Act.put_comm a v u h2]; exact hk

/-- The head (numbers below n) in whatever order; L behind it. -/
def wpAnyL (P : Program) (md : Region.Mode) (ops : Array Oper) (R : Bool → World → Prop) (n : Nat) (L : Array Bool → Act → Prop) : Nat → Array Bool → Act → Prop
  | 0, listed, a => L listed a
  | f + 1, listed, a =>
    Region.ready md ops listed ≠ [] ∧ ∀ i ∈ Region.ready md ops listed, i < n ∧ flOp P ops R i (wpAnyL P md ops R n L f (listed.setIfInBounds i true)) a

theorem set0 {listed : Array Bool} {i : Nat} (hi : listed.getD i true = false) : (listed.setIfInBounds i true).getD 0 false = (listed.getD 0 false || i == 0) := by
  by_cases h : i = 0
  · subst h
    have hs : 0 < listed.size := by
      rcases Nat.lt_or_ge 0 listed.size with h' | h'
      · exact h'
      · rw [Array.getD_eq_getD_getElem?, Array.getElem?_eq_none h'] at hi; cases hi
    simp [Array.getD_eq_getD_getElem?, hs]
  · have e1 : (listed.setIfInBounds i true).getD 0 false = listed.getD 0 false := by simp [Array.getD_eq_getD_getElem?, Array.getElem?_setIfInBounds, h]
    rw [e1]; simp [h]

theorem wpAny_of_head {n g : Nat} {L : Array Bool → Act → Prop} {Q' : Exit → Act → World → Prop} (hn : n < ops.size) (hL : ∀ listed a w, R (listed.getD 0 false) w → L listed a → wpAny P md ops Q' g listed a w) :
    ∀ (f : Nat) (listed : Array Bool) (a : Act) (w : World), R (listed.getD 0 false) w → wpAnyL P md ops R n L f listed a → wpAny P md ops Q' (f + g) listed a w
  | 0, listed, a, w, hR, h => by rw [Nat.zero_add]; exact hL _ _ _ hR h
  | f + 1, listed, a, w, hR, h => by
    rw [show f + 1 + g = (f + g) + 1 by omega]
    exact ⟨fun h0 => absurd h0 h.1, fun i hi => wpOp_of_flOp (b := listed.getD 0 false) (Nat.lt_trans (h.2 i hi).1 hn) (fun h0 => by subst h0; exact getD_both (mem_ready.1 hi).1) hR
      (fun a' w' hR' h' => wpAny_of_head hn hL f _ a' w' (by rw [set0 (mem_ready.1 hi).1]; exact hR') h') (h.2 i hi).2⟩

theorem wpAnyL_first {n i : Nat} {oi : Oper} {v : Value} {L : Array Bool → Act → Prop} (hi : ops[i]? = some oi) (hsel : ∀ (j : Nat) (o : Oper) cs b, ops[j]? = some o → o.op ≠ .select cs b)
    (hs : Region.sinkB md ops n = true) (hc : Region.chainB md ops n = true) (hn : n < ops.size) (hin : i < n)
    (hdone : ∀ listed a, L listed a → ∀ j ∈ Region.ready md ops listed, n ≤ j) :
    ∀ (f : Nat) (listed : Array Bool) (a : Act), HeadInv md ops n listed →
      (∀ j oj, ops[j]? = some oj → j ≠ i → listed.getD j true = false → (∀ e ∈ oj.after, Region.binds md e = true → e.on ≠ i) → oi.apart ops oj = true) →
      i ∈ Region.ready md ops listed → YieldsR P ops R i oi v a →
      wpAnyL P md ops R n L f (listed.setIfInBounds i true) (a.put oi.dst v) → wpAnyL P md ops R n L (f + 1) listed a := by
  intro f
  induction f with
  | zero =>
    intro listed a inv _ hr hy H
    have hun := (mem_ready.1 hr).1
    refine ⟨fun h => (by rw [h] at hr; cases hr), fun j hj => ?_⟩
    have hjn : j < n := by
      rcases Nat.lt_or_ge j n with h | h
      · exact h
      · exact absurd hj (tail_waits hs hc hn inv _ i rfl hin hun j h)
    refine ⟨hjn, ?_⟩
    by_cases hji : j = i
    · subst hji; unfold flOp; simp only [hi]; exact ⟨v, hy, H⟩
    · have := hdone _ _ H j (ready_mono hj hji)
      omega
  | succ f ih =>
    intro listed a inv hfree hr hy H
    have hun := (mem_ready.1 hr).1
    refine ⟨fun h => (by rw [h] at hr; cases hr), fun j hj => ?_⟩
    have hjn : j < n := by
      rcases Nat.lt_or_ge j n with h | h
      · exact h
      · exact absurd hj (tail_waits hs hc hn inv _ i rfl hin hun j h)
    refine ⟨hjn, ?_⟩
    by_cases hji : j = i
    · subst hji; unfold flOp; simp only [hi]; exact ⟨v, hy, H⟩
    · have h1 := (H.2 j (ready_mono hj hji)).2
      obtain ⟨hjun, oj, hoj, hall⟩ := mem_ready.1 hj
      have hnot : ∀ e ∈ oj.after, Region.binds md e = true → e.on ≠ i := fun e he hb heq => by
        have h1 := hall e he hb
        rw [heq, getD_both hun] at h1
        cases h1
      have h2 := flOp_put hoj (hfree j oj hoj hji hjun hnot) (fun cs b => hsel i oi cs b hi) (fun cs b => hsel j oj cs b hoj) hy h1
      have hfree' : ∀ k ok, ops[k]? = some ok → k ≠ i → (listed.setIfInBounds j true).getD k true = false →
          (∀ e ∈ ok.after, Region.binds md e = true → e.on ≠ i) → oi.apart ops ok = true := fun k ok hk hki hun hno => by
        refine hfree k ok hk hki ?_ hno
        by_cases hjk : j = k
        · subst hjk; exact hjun
        · rw [getD_set_ne true hjk] at hun; exact hun
      refine flOp_mono (fun a' h3 => ih (listed.setIfInBounds j true) a' (inv.set hj hjn) hfree' (ready_mono hr (Ne.symm hji)) h3.1 ?_) h2
      rw [Array.setIfInBounds_comm _ _ hji]
      exact h3.2

theorem wpAnyL_lex {n g : Nat} {Lq : Act → Prop} (hsel : Region.noSelect ops = true) (hs : Region.sinkB md ops n = true) (hc : Region.chainB md ops n = true) (hn : n < ops.size) (hn0 : 0 < n) :
    ∀ (l : List Oper) (k : Nat) (listed : Array Bool) (a : Act), (∀ j, j < l.length → l[j]? = ops[k + j]?) → k + l.length = n → HeadInv md ops n listed → (0 < k → listed.getD 0 false = true) →
    Region.lexHead md ops g l.length k listed = true → wpFlow P ops R Lq k l a →
    wpAnyL P md ops R n (fun listed' a' => Region.seqB md ops g n listed' = true ∧ listed'.getD 0 false = true ∧ Lq a') l.length listed a
  | [], k, listed, a, _, hk, _, hz, hB, h => by
    have : k = n := by simpa using hk
    subst this
    exact ⟨by simpa [Region.lexHead] using hB, hz hn0, h⟩
  | o :: l, k, listed, a, hl, hk, inv, hz, hB, h => by
    have h0 : ops[k]? = some o := by simpa using (hl 0 (by simp)).symm
    simp only [List.length_cons, Region.lexHead, Bool.and_eq_true] at hB
    obtain ⟨⟨hr, hf⟩, hB'⟩ := hB
    have hkn : k < n := by simp only [List.length_cons] at hk; omega
    have hr' : k ∈ Region.ready md ops listed := by simpa using hr
    obtain ⟨v, hy, hK⟩ := h
    exact wpAnyL_first h0 (Region.noSelect_spec hsel) hs hc hn hkn (fun listed' a' hL => seqB_ready hL.1) l.length listed a inv (Region.free_spec h0 hf) hr' hy
      (wpAnyL_lex hsel hs hc hn hn0 l (k + 1) _ _ (fun j hj => by have := hl (j + 1) (by simp; omega); simpa [Nat.add_assoc, Nat.add_comm 1 j] using this) (by simp only [List.length_cons] at hk; omega) (inv.set hr' hkn)
        (fun _ => by
          rw [set0 (mem_ready.1 hr').1]
          rcases Nat.eq_zero_or_pos k with h | h
          · simp [h]
          · rw [hz h]; rfl) hB' hK)

theorem wp_region_flow {id : Nat} {Q : Exit → Act → World → Prop} {a : Act} {w : World} {l : List Oper} (R : Bool → World → Prop) (n : Nat) (hn0 : 0 < n) (hm : P.follows .mixedOrders = true) (hB : Region.lexTailB .any l.toArray n = true)
    (hR : R false { w with drawn := w.drawn + 1 })
    (h : wpFlow P l.toArray R (fun a' => ∀ w', R true w' → wpList P l.toArray Q (l.drop n) a' w') 0 (l.take n) a) : (Code.region id l.toArray true).wp P Q a w := by
  simp only [Region.lexTailB, Bool.and_eq_true, decide_eq_true_eq] at hB
  obtain ⟨⟨⟨⟨hsel, hn⟩, hs⟩, hc⟩, hlex⟩ := hB
  have hn' : n < l.length := by simpa using hn
  have htl : (l.take n).length = n := by simp; omega
  have hdl : (l.drop n).length = l.toArray.size - n := by simp
  have inv0 : HeadInv .any l.toArray n (Array.replicate l.toArray.size false) :=
    ⟨by simp, fun j oj _ hl => (by rw [getD_replicate_false] at hl; cases hl), fun t _ ht => getD_in (by simpa using ht) (getD_replicate_false _ _)⟩
  refine wp_region_any hm ?_
  have key := wpAnyL_lex (P := P) (R := R) (g := l.toArray.size - n) (md := .any) hsel hs hc hn hn0 (l.take n) 0 (Array.replicate l.toArray.size false) a
    (fun j hj => by rw [List.getElem?_take, if_pos (by omega)]; simp) (by omega) inv0 (fun h => absurd h (by omega)) (by rw [htl]; exact hlex) h
  rw [htl] at key
  have h2 := wpAny_of_head (P := P) (R := R) (md := .any) (ops := l.toArray) (g := l.toArray.size - n) (Q' := Q) hn
    (L := fun listed' a' => Region.seqB .any l.toArray (l.toArray.size - n) n listed' = true ∧ listed'.getD 0 false = true ∧ ∀ w', R true w' → wpList P l.toArray Q (l.drop n) a' w')
    (fun listed' a' w' hR' hL => by
      rw [hL.2.1] at hR'
      have := wpAny_of_seq (P := P) (md := .any) (ops := l.toArray) (Q' := Q) (l.drop n) n listed' a' w' (fun j => by simp) (by rw [hdl]; exact hL.1) (hL.2.2 w' hR')
      rwa [hdl] at this) n _ _ _ (by rw [getD_replicate_false]; exact hR) key
  have : n + (l.toArray.size - n) = l.toArray.size := by omega
  rwa [this] at h2

/-- The region's rule, R closed to the walk: T is what the first operation leaves. -/
theorem wp_region_call {id : Nat} {Q : Exit → Act → World → Prop} {a : Act} {w : World} {l : List Oper} (T : World → Prop) (hT : ∀ w', T w' → RowKit.Below w.heap.size w w') (n : Nat) (hn0 : 0 < n) (hm : P.follows .mixedOrders = true) (hB : Region.lexTailB .any l.toArray n = true)
    (h : ∀ R : Bool → World → Prop, RowKit.Hid (∀ b w', R b w' → ∀ bl o, bl < w.heap.size → w'.cell? ⟨bl, o, none⟩ = w.cell? ⟨bl, o, none⟩) → RowKit.Hid (∀ w', R false w' → w' = { w with drawn := w.drawn + 1 }) → RowKit.Hid (∀ w', T w' → R true w') →
      wpFlow P l.toArray R (fun a' => ∀ w', T w' → wpList P l.toArray Q (l.drop n) a' w') 0 (l.take n) a) : (Code.region id l.toArray true).wp P Q a w := by
  refine wp_region_flow (fun b w' => if b then T w' else w' = { w with drawn := w.drawn + 1 }) n hn0 hm hB rfl (h _ ?_ ?_ ?_)
  · intro b w' hw bl o hbl
    cases b
    · have : w' = { w with drawn := w.drawn + 1 } := hw
      subst this; rfl
    · exact (bcell (hT _ hw)).1 _ _ hbl
  · exact fun w' hw => hw
  · exact fun w' hw => hw

/-- The first operation, which alone changes the world. -/
theorem flow_first {ops : Array Oper} {Q : Act → Prop} {o : Oper} {rest : List Oper} {a : Act} (v : Value) (hw : Region.wanted o (yielded ops a.tmps) = true)
    (h : ∀ w, R false w → runsTo P o a w (fun u w' => u = v ∧ R true w')) (hk : wpFlow P ops R Q 1 rest (a.put o.dst v)) : wpFlow P ops R Q 0 (o :: rest) a :=
  ⟨v, by unfold YieldsR; rw [if_pos hw]; exact fun b w hb hR => by rw [hb rfl] at hR ⊢; exact h w hR, hk⟩
/-- Any other one: it reads. -/
theorem flow_step {k : Nat} {ops : Array Oper} {Q : Act → Prop} {o : Oper} {rest : List Oper} {a : Act} (v : Value) (hw : Region.wanted o (yielded ops a.tmps) = true)
    (h : ∀ b w, R b w → runsTo P o a w (fun u w' => u = v ∧ R b w')) (hk : wpFlow P ops R Q (k + 1 + 1) rest (a.put o.dst v)) : wpFlow P ops R Q (k + 1) (o :: rest) a :=
  ⟨v, by unfold YieldsR; rw [if_pos hw]; exact fun b w _ hR => by simpa using h b w hR, hk⟩
theorem flow_nil {k : Nat} {ops : Array Oper} {Q : Act → Prop} {a : Act} (h : Q a) : wpFlow P ops R Q k [] a := h
end
end FlowC
end Go.Proofs.YtboknfppecgjmaaGreat
