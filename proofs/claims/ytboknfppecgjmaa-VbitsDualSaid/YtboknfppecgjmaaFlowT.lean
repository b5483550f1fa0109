/- A region that draws its order, one of whose operations stores a vector; what it waits for comes ahead of it, every other one looks at no memory. -/
import Derived.Test.YtboknfppecgjmaaFlowA
namespace Go.Proofs.Ytboknfppecgjmaa
set_option linter.unusedVariables false
set_option linter.unusedSimpArgs false
namespace FlowT
open Flow
open FlowA (setm)
section
variable {P : Program} {ops : Array Oper} {md : Region.Mode} {R : Bool → World → Prop} {q : Nat}

/-- Whether the operation q waits for i. -/
def pre (ops : Array Oper) (q i : Nat) : Bool := match ops[q]? with | some oq => oq.after.toList.any fun e => Region.binds .any e && e.on == i | none => false
/-- In every world that R lets in, the operation gives v and a world that R lets in; or it is not wanted. -/
def YieldsR (P : Program) (ops : Array Oper) (R : Bool → World → Prop) (q i : Nat) (o : Oper) (v : Value) (a : Act) : Prop :=
  if i = q then v = undef ∧ o.guard = none ∧ ∀ w, R false w → runsTo P o a w (fun u w' => u = undef ∧ R true w')
  else if Region.wanted o (yielded ops a.tmps) then ∀ s w, (pre ops q i = true → s = false) → R s w → runsTo P o a w (fun u w' => u = v ∧ R s w') else v = undef

theorem YieldsR.put {i : Nat} {o : Oper} {v : Value} {a : Act} (hsel : ∀ cs b, o.op ≠ .select cs b) {x : Option Tmp} {u : Value} (hx : ∀ e, x = some e → e ∉ o.looksAt ops) :
    YieldsR P ops R q i o v (a.put x u) ↔ YieldsR P ops R q i o v a := by
  have he := execOp_put o hsel a x u hx
  have hw := wanted_put o a x u hx
  unfold YieldsR runsTo
  rw [hw, he]

/-- The walk in the text's order. -/
def wpFlow (P : Program) (ops : Array Oper) (R : Bool → World → Prop) (q : Nat) (Q : Act → Prop) : Nat → List Oper → Act → Prop
  | _, [], a => Q a
  | k, o :: rest, a => ∃ v, YieldsR P ops R q k o v a ∧ wpFlow P ops R q Q (k + 1) rest (a.put o.dst v)

def flOp (P : Program) (ops : Array Oper) (R : Bool → World → Prop) (q : Nat) (i : Nat) (K : Act → Prop) (a : Act) : Prop :=
  match ops[i]? with
  | none => K a
  | some o => ∃ v, YieldsR P ops R q i o v a ∧ K (a.put o.dst v)

theorem flOp_mono {i : Nat} {a : Act} {K K' : Act → Prop} (h : ∀ a, K a → K' a) (hh : flOp P ops R q i K a) : flOp P ops R q i K' a := by
  unfold flOp at *
  split at hh
  · exact h _ hh
  · obtain ⟨v, hy, hk⟩ := hh; exact ⟨v, hy, h _ hk⟩

theorem flOp_put {i j : Nat} {oi oj : Oper} {v : Value} (hj : ops[j]? = some oj) (hap : oi.apart ops oj = true)
    (hsi : ∀ cs b, oi.op ≠ .select cs b) (hsj : ∀ cs b, oj.op ≠ .select cs b) {K : Act → Prop} {a : Act}
    (hy : YieldsR P ops R q i oi v a) (h : flOp P ops R q j K (a.put oi.dst v)) :
    flOp P ops R q j (fun a' => YieldsR P ops R q i oi v a' ∧ K (a'.put oi.dst v)) a := by
  obtain ⟨h1, h2, h3⟩ := Oper.apart_spec hap
  unfold flOp at *
  simp only [hj] at *
  obtain ⟨u, hu, hk⟩ := h
  refine ⟨u, (YieldsR.put hsj h1).1 hu, (YieldsR.put hsi h3).2 hy, ?_⟩
  rw [← Act.put_comm a v u h2]; exact hk

/-- The head (numbers below n) in whatever order; L behind it. -/
def wpAnyL (P : Program) (md : Region.Mode) (ops : Array Oper) (R : Bool → World → Prop) (q : Nat) (n : Nat) (L : Array Bool → Act → Prop) : Nat → Array Bool → Act → Prop
  | 0, listed, a => L listed a
  | f + 1, listed, a =>
    Region.ready md ops listed ≠ [] ∧ ∀ i ∈ Region.ready md ops listed, i < n ∧ flOp P ops R q i (wpAnyL P md ops R q n L f (listed.setIfInBounds i true)) a

theorem getD_other {listed : Array Bool} {i k : Nat} (h : i ≠ k) : (listed.setIfInBounds i true).getD k false = listed.getD k false := by
  simp [Array.getD_eq_getD_getElem?, Array.getElem?_setIfInBounds, h]
theorem getD_more {listed : Array Bool} {i k : Nat} (h : listed.getD k false = true) : (listed.setIfInBounds i true).getD k false = true := by
  by_cases hik : i = k
  · subst hik
    have hs : i < listed.size := by
      rcases Nat.lt_or_ge i listed.size with h' | h'
      · exact h'
      · rw [Array.getD_eq_getD_getElem?, Array.getElem?_eq_none h'] at h; cases h
    simp [Array.getD_eq_getD_getElem?, hs]
  · rw [getD_other hik]; exact h
/-- What q waits for has come, if q has. -/
def closed (md : Region.Mode) (ops : Array Oper) (q : Nat) (listed : Array Bool) : Prop :=
  listed.getD q false = true → ∀ oq, ops[q]? = some oq → ∀ e ∈ oq.after, Region.binds md e = true → listed.getD e.on false = true

theorem wpOp_of_flOp {i : Nat} {s : Bool} {a : Act} {w : World} {K : Act → Prop} {K' : Act → World → Prop} {Q' : Exit → Act → World → Prop}
    (hio : i < ops.size) (hiq : i = q → s = false) (hpre : i ≠ q → pre ops q i = true → s = false) (hR : R s w)
    (h : ∀ a w, R (s || i == q) w → K a → K' a w) (hh : flOp P ops R q i K a) : wpOp P ops Q' i K' a w := by
  unfold flOp at hh
  unfold wpOp
  split
  · rename_i ho; rw [Array.getElem?_eq_getElem hio] at ho; cases ho
  · rename_i o ho
    simp only [ho] at hh
    obtain ⟨v, hy, hk⟩ := hh
    unfold YieldsR at hy
    by_cases hq : i = q
    · rw [if_pos hq] at hy
      obtain ⟨hv, hg, hrun⟩ := hy
      subst hv
      have hs := hiq hq
      subst hs
      rw [if_pos (by simp [Region.wanted, hg])]
      exact .inl (wp_of_runsTo (fun u w' ⟨hu, hr⟩ => by subst hu; exact h _ w' (by simpa [hq] using hr) hk) (hrun w hR))
    · rw [if_neg hq] at hy
      have hb : (s || i == q) = s := by simp [hq]
      rw [hb] at h
      split
      · rename_i hw
        simp only [hw, if_true] at hy
        exact .inl (wp_of_runsTo (fun u w' ⟨hu, hr⟩ => by subst hu; exact h _ _ hr hk) (hy s w (hpre hq) hR))
      · rename_i hw
        rw [if_neg hw] at hy
        subst hy
        exact h _ _ hR hk

theorem wpAny_of_head2 {n g : Nat} {L : Array Bool → Act → Prop} {Q' : Exit → Act → World → Prop} (hn : n < ops.size)
    (hL : ∀ listed a w, R (listed.getD q false) w → L listed a → wpAny P .any ops Q' g listed a w) :
    ∀ (f : Nat) (listed : Array Bool) (a : Act) (w : World), closed .any ops q listed → R (listed.getD q false) w → wpAnyL P .any ops R q n L f listed a → wpAny P .any ops Q' (f + g) listed a w
  | 0, listed, a, w, _, hR, h => by rw [Nat.zero_add]; exact hL _ _ _ hR h
  | f + 1, listed, a, w, hcl, hR, h => by
    rw [show f + 1 + g = (f + g) + 1 by omega]
    refine ⟨fun h0 => absurd h0 h.1, fun i hi => ?_⟩
    have hun := (mem_ready.1 hi).1
    have hun' := getD_both hun
    refine wpOp_of_flOp (s := listed.getD q false) (Nat.lt_trans (h.2 i hi).1 hn) (fun h0 => by rw [← h0]; exact hun') (fun _ hp => ?_) hR (fun a' w' hR' h' => ?_) (h.2 i hi).2
    · cases hq : listed.getD q false
      · rfl
      · exfalso
        unfold pre at hp
        split at hp
        · rename_i oq hoq
          obtain ⟨e, he, hb⟩ := List.any_eq_true.1 hp
          simp only [Bool.and_eq_true, beq_iff_eq] at hb
          have := hcl hq oq hoq e (by simpa using he) hb.1
          rw [hb.2, hun'] at this
          cases this
        · cases hp
    · refine wpAny_of_head2 hn hL f _ a' w' (fun hq oq hoq e he hb => ?_) (by rw [setm hun]; exact hR') h'
      by_cases hiq : i = q
      · obtain ⟨_, o2, ho2, hall⟩ := mem_ready.1 hi
        rw [hiq, hoq] at ho2
        cases ho2
        exact getD_more (hall e he hb)
      · rw [getD_other hiq] at hq
        exact getD_more (hcl hq oq hoq e he hb)

theorem wpAnyL_first {n i : Nat} {oi : Oper} {v : Value} {L : Array Bool → Act → Prop} (hi : ops[i]? = some oi) (hsel : ∀ (j : Nat) (o : Oper) cs b, ops[j]? = some o → o.op ≠ .select cs b)
    (hs : Region.sinkB md ops n = true) (hc : Region.chainB md ops n = true) (hn : n < ops.size) (hin : i < n)
    (hdone : ∀ listed a, L listed a → ∀ j ∈ Region.ready md ops listed, n ≤ j) :
    ∀ (f : Nat) (listed : Array Bool) (a : Act), HeadInv md ops n listed →
      (∀ j oj, ops[j]? = some oj → j ≠ i → listed.getD j true = false → (∀ e ∈ oj.after, Region.binds md e = true → e.on ≠ i) → oi.apart ops oj = true) →
      i ∈ Region.ready md ops listed → YieldsR P ops R q i oi v a →
      wpAnyL P md ops R q n L f (listed.setIfInBounds i true) (a.put oi.dst v) → wpAnyL P md ops R q n L (f + 1) listed a := by
  intro f
  induction f with
  | zero =>
    intro listed a inv _ hr hy H
    have hun := (mem_ready.1 hr).1
    refine ⟨fun h => (by rw [h] at hr; cases hr), fun j hj => ?_⟩
    have hjn : j < n := by
      rcases Nat.lt_or_ge j n with h | h
      · exact h
      · exact absurd hj (tail_waits hs hc hn inv _ i rfl hin hun j h)
    refine ⟨hjn, ?_⟩
    by_cases hji : j = i
    · subst hji; unfold flOp; simp only [hi]; exact ⟨v, hy, H⟩
    · have := hdone _ _ H j (ready_mono hj hji)
      omega
  | succ f ih =>
    intro listed a inv hfree hr hy H
    have hun := (mem_ready.1 hr).1
    refine ⟨fun h => (by rw [h] at hr; cases hr), fun j hj => ?_⟩
    have hjn : j < n := by
      rcases Nat.lt_or_ge j n with h | h
      · exact h
      · exact absurd hj (tail_waits hs hc hn inv _ i rfl hin hun j h)
    refine ⟨hjn, ?_⟩
    by_cases hji : j = i
    · subst hji; unfold flOp; simp only [hi]; exact ⟨v, hy, H⟩
    · have h1 := (H.2 j (ready_mono hj hji)).2
      obtain ⟨hjun, oj, hoj, hall⟩ := mem_ready.1 hj
      have hnot : ∀ e ∈ oj.after, Region.binds md e = true → e.on ≠ i := fun e he hb heq => by
        have h1 := hall e he hb
        rw [heq, getD_both hun] at h1
        cases h1
      have h2 := flOp_put hoj (hfree j oj hoj hji hjun hnot) (fun cs b => hsel i oi cs b hi) (fun cs b => hsel j oj cs b hoj) hy h1
      have hfree' : ∀ k ok, ops[k]? = some ok → k ≠ i → (listed.setIfInBounds j true).getD k true = false →
          (∀ e ∈ ok.after, Region.binds md e = true → e.on ≠ i) → oi.apart ops ok = true := fun k ok hk hki hun hno => by
        refine hfree k ok hk hki ?_ hno
        by_cases hjk : j = k
        · subst hjk; exact hjun
        · rw [getD_set_ne true hjk] at hun; exact hun
      refine flOp_mono (fun a' h3 => ih (listed.setIfInBounds j true) a' (inv.set hj hjn) hfree' (ready_mono hr (Ne.symm hji)) h3.1 ?_) h2
      rw [Array.setIfInBounds_comm _ _ hji]
      exact h3.2

theorem wpAnyL_lex {n g : Nat} {Lq : Act → Prop} (hsel : Region.noSelect ops = true) (hs : Region.sinkB md ops n = true) (hc : Region.chainB md ops n = true) (hn : n < ops.size) (hq : q < n) :
    ∀ (l : List Oper) (k : Nat) (listed : Array Bool) (a : Act), (∀ j, j < l.length → l[j]? = ops[k + j]?) → k + l.length = n → HeadInv md ops n listed → (q < k → listed.getD q false = true) →
    Region.lexHead md ops g l.length k listed = true → wpFlow P ops R q Lq k l a →
    wpAnyL P md ops R q n (fun listed' a' => Region.seqB md ops g n listed' = true ∧ listed'.getD q false = true ∧ Lq a') l.length listed a
  | [], k, listed, a, _, hk, _, hy, hB, h => by
    have : k = n := by simpa using hk
    subst this
    exact ⟨by simpa [Region.lexHead] using hB, hy hq, h⟩
  | o :: l, k, listed, a, hl, hk, inv, hzq, hB, h => by
    have h0 : ops[k]? = some o := by simpa using (hl 0 (by simp)).symm
    simp only [List.length_cons, Region.lexHead, Bool.and_eq_true] at hB
    obtain ⟨⟨hr, hf⟩, hB'⟩ := hB
    have hkn : k < n := by simp only [List.length_cons] at hk; omega
    have hr' : k ∈ Region.ready md ops listed := by simpa using hr
    obtain ⟨v, hy, hK⟩ := h
    exact wpAnyL_first h0 (Region.noSelect_spec hsel) hs hc hn hkn (fun listed' a' hL => seqB_ready hL.1) l.length listed a inv (Region.free_spec h0 hf) hr' hy
      (wpAnyL_lex hsel hs hc hn hq l (k + 1) _ _ (fun j hj => by have := hl (j + 1) (by simp; omega); simpa [Nat.add_assoc, Nat.add_comm 1 j] using this) (by simp only [List.length_cons] at hk; omega) (inv.set hr' hkn)
        (fun hmk => by
          rw [setm (mem_ready.1 hr').1]
          by_cases h : k = q
          · simp [h]
          · rw [hzq (by omega)]; rfl) hB' hK)

/-- The region's rule, R closed to the walk. B, x0 .. x3: where and what is stored. -/
theorem wp_region_put {id : Nat} {Q : Exit → Act → World → Prop} {a : Act} {w : World} {l : List Oper} (q n : Nat) (B : Nat) (x0 x1 x2 x3 : Value) (hqn : q < n)
    (hm : P.follows .mixedOrders = true) (hB : Region.lexTailB .any l.toArray n = true)
    (h : ∀ R : Bool → World → Prop, RowKit.Hid (∀ w', R false w' → ∀ bl o, bl < w.heap.size → w'.cell? ⟨bl, o, none⟩ = w.cell? ⟨bl, o, none⟩) → RowKit.Hid (∀ w', R false w' → ∀ bl o, bl < w.heap.size → w'.frozen? ⟨bl, o, none⟩ = w.frozen? ⟨bl, o, none⟩) → RowKit.Hid (∀ w' w'', R false w' → RowKit.Below w'.heap.size w' w'' → R false w'') →
      RowKit.Hid (∀ w', R false w' → R true ((((w'.setCell ⟨B, 0, none⟩ x0).setCell ⟨B, 1, none⟩ x1).setCell ⟨B, 2, none⟩ x2).setCell ⟨B, 3, none⟩ x3)) →
      wpFlow P l.toArray R q (fun a' => ∀ w1, RowKit.Below w.heap.size w w1 → wpList P l.toArray Q (l.drop n) a' ((((w1.setCell ⟨B, 0, none⟩ x0).setCell ⟨B, 1, none⟩ x1).setCell ⟨B, 2, none⟩ x2).setCell ⟨B, 3, none⟩ x3)) 0 (l.take n) a) : (Code.region id l.toArray true).wp P Q a w := by
  simp only [Region.lexTailB, Bool.and_eq_true, decide_eq_true_eq] at hB
  obtain ⟨⟨⟨⟨hsel, hn⟩, hs⟩, hc⟩, hlex⟩ := hB
  have hn' : n < l.length := by simpa using hn
  have htl : (l.take n).length = n := by simp; omega
  have hdl : (l.drop n).length = l.toArray.size - n := by simp
  have inv0 : HeadInv .any l.toArray n (Array.replicate l.toArray.size false) :=
    ⟨by simp, fun j oj _ hl => (by rw [getD_replicate_false] at hl; cases hl), fun t _ ht => getD_in (by simpa using ht) (getD_replicate_false _ _)⟩
  let R : Bool → World → Prop := fun s w' => if s = true then ∃ w1, RowKit.Below w.heap.size w w1 ∧ w' = (((w1.setCell ⟨B, 0, none⟩ x0).setCell ⟨B, 1, none⟩ x1).setCell ⟨B, 2, none⟩ x2).setCell ⟨B, 3, none⟩ x3 else RowKit.Below w.heap.size w w'
  have hF : ∀ w', R false w' → RowKit.Below w.heap.size w w' := fun w' h => h
  have hT : ∀ w', R true w' → ∃ w1, RowKit.Below w.heap.size w w1 ∧ w' = (((w1.setCell ⟨B, 0, none⟩ x0).setCell ⟨B, 1, none⟩ x1).setCell ⟨B, 2, none⟩ x2).setCell ⟨B, 3, none⟩ x3 := fun w' h => h
  have hF' : ∀ w', RowKit.Below w.heap.size w w' → R false w' := fun w' h => h
  refine wp_region_any hm ?_
  have h1 := h R (fun w' hw' => (bcell (hF _ hw')).1) (fun w' hw' => (bcell (hF _ hw')).2) (fun w' w'' hw' hb => hF' _ ((hF _ hw').trans (hb.mono (hF _ hw').size))) (fun w' hw' => ⟨w', hF _ hw', rfl⟩)
  have key := wpAnyL_lex (P := P) (R := R) (q := q) (g := l.toArray.size - n) (md := .any) hsel hs hc hn hqn (l.take n) 0 (Array.replicate l.toArray.size false) a
    (fun j hj => by rw [List.getElem?_take, if_pos (by omega)]; simp) (by omega) inv0 (fun h => absurd h (by omega)) (by rw [htl]; exact hlex) h1
  rw [htl] at key
  have h2 := wpAny_of_head2 (P := P) (R := R) (q := q) (ops := l.toArray) (g := l.toArray.size - n) (Q' := Q) hn
    (L := fun listed' a' => Region.seqB .any l.toArray (l.toArray.size - n) n listed' = true ∧ listed'.getD q false = true ∧ ∀ w1, RowKit.Below w.heap.size w w1 → wpList P l.toArray Q (l.drop n) a' ((((w1.setCell ⟨B, 0, none⟩ x0).setCell ⟨B, 1, none⟩ x1).setCell ⟨B, 2, none⟩ x2).setCell ⟨B, 3, none⟩ x3))
    (fun listed' a' w' hR' hL => by
      rw [hL.2.1] at hR'
      obtain ⟨w1, hb1, rfl⟩ := hT _ hR'
      have := wpAny_of_seq (P := P) (md := .any) (ops := l.toArray) (Q' := Q) (l.drop n) n listed' a' _ (fun j => by simp) (by rw [hdl]; exact hL.1) (hL.2.2 w1 hb1)
      rwa [hdl] at this) n _ _ { w with drawn := w.drawn + 1 } (fun h => by rw [getD_replicate_false] at h; cases h) (by rw [getD_replicate_false]; exact hF' _ ⟨rfl, rfl, rfl, Nat.le_refl _, fun _ _ => rfl⟩) key
  have : n + (l.toArray.size - n) = l.toArray.size := by omega
  rw [this] at h2
  exact h2

/-- An operation that q waits for. -/
theorem flow_step {k : Nat} {ops : Array Oper} {Q : Act → Prop} {o : Oper} {rest : List Oper} {a : Act} (v : Value) (hkq : (k == q) = false) (hp : pre ops q k = true) (hw : Region.wanted o (yielded ops a.tmps) = true)
    (h : ∀ w, R false w → runsTo P o a w (fun u w' => u = v ∧ R false w')) (hk : wpFlow P ops R q Q (k + 1) rest (a.put o.dst v)) : wpFlow P ops R q Q k (o :: rest) a :=
  ⟨v, by unfold YieldsR; rw [if_neg (by simpa using hkq), if_pos hw]; exact fun s w hs hR => by have := hs hp; subst this; exact h w hR, hk⟩
/-- One that looks at no memory. -/
theorem flow_pure {k : Nat} {ops : Array Oper} {Q : Act → Prop} {o : Oper} {rest : List Oper} {a : Act} (v : Value) (hkq : (k == q) = false) (hw : Region.wanted o (yielded ops a.tmps) = true)
    (h : ∀ s w, R s w → runsTo P o a w (fun u w' => u = v ∧ R s w')) (hk : wpFlow P ops R q Q (k + 1) rest (a.put o.dst v)) : wpFlow P ops R q Q k (o :: rest) a :=
  ⟨v, by unfold YieldsR; rw [if_neg (by simpa using hkq), if_pos hw]; exact fun s w _ hR => h s w hR, hk⟩
/-- The operation that stores. -/
theorem flow_store {k : Nat} {ops : Array Oper} {Q : Act → Prop} {o : Oper} {rest : List Oper} {a : Act} (hkq : (k == q) = true) (hg : o.guard = none)
    (h : ∀ w, R false w → runsTo P o a w (fun u w' => u = undef ∧ R true w'))
    (hk : wpFlow P ops R q Q (k + 1) rest (a.put o.dst undef)) : wpFlow P ops R q Q k (o :: rest) a :=
  ⟨undef, by unfold YieldsR; rw [if_pos (by simpa using hkq)]; exact ⟨rfl, hg, h⟩, hk⟩
theorem flow_nil {k : Nat} {ops : Array Oper} {Q : Act → Prop} {a : Act} (h : Q a) : wpFlow P ops R q Q k [] a := h
end
end FlowT
end Go.Proofs.Ytboknfppecgjmaa
