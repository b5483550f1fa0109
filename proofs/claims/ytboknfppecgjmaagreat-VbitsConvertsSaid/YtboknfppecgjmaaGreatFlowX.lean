/- A region that draws its order, some of whose operations are special (they make blocks, or use what was made): what they do is told by a state beside the frame; every other one gives one value, whatever the world. -/
import Derived.Test.YtboknfppecgjmaaGreatFlow
namespace Go.Proofs.YtboknfppecgjmaaGreat
set_option linter.unusedVariables false
set_option linter.unusedSimpArgs false
namespace FlowX
open Flow
/-- What is known of a region's special operations. R: the worlds of a state; M: the frame of a state; sp: which are special; inv: what has been listed in a state. -/
structure Extra where
  St : Type
  R : St → World → Prop
  M : St → Act → Act
  sp : Nat → Bool
  inv : Array Bool → St → Prop
section
variable {P : Program} {ops : Array Oper} {md : Region.Mode} {X : Extra}

/-- An ordinary operation. -/
def YieldsR (P : Program) (ops : Array Oper) (X : Extra) (o : Oper) (v : Value) (a : Act) : Prop :=
  if Region.wanted o (yielded ops a.tmps) then ∀ s w, X.R s w → runsTo P o a w (fun u w' => u = v ∧ X.R s w') else v = undef
/-- A special operation: from any state in which it may be listed, to one in which it is. -/
def YieldsS (P : Program) (md : Region.Mode) (ops : Array Oper) (X : Extra) (i : Nat) (o : Oper) (a : Act) : Prop :=
  o.guard = none ∧ ∀ listed s w, i ∈ Region.ready md ops listed → X.inv listed s → X.R s w → runsTo P o (X.M s a) w (fun u w' => ∃ s', X.inv (listed.setIfInBounds i true) s' ∧ X.R s' w' ∧ ∀ a', (X.M s a').put o.dst u = X.M s' a')
def Y (P : Program) (md : Region.Mode) (ops : Array Oper) (X : Extra) (i : Nat) (o : Oper) (v : Value) (a : Act) : Prop := if X.sp i = true then YieldsS P md ops X i o a else YieldsR P ops X o v a
def eff (X : Extra) (i : Nat) (o : Oper) (v : Value) (a : Act) : Act := if X.sp i = true then a else a.put o.dst v
/-- The ordinary operations of the head (numbers below n) neither see nor touch what the state adds to the frame. -/
structure Apt (md : Region.Mode) (ops : Array Oper) (X : Extra) (n : Nat) : Prop where
  comm : ∀ j o, ops[j]? = some o → X.sp j = false → ∀ s a v, X.M s (a.put o.dst v) = (X.M s a).put o.dst v
  blind : ∀ j o, j < n → ops[j]? = some o → X.sp j = false → ∀ s a, execOp (X.M s a).eval o = execOp a.eval o ∧ Region.wanted o (yielded ops (X.M s a).tmps) = Region.wanted o (yielded ops a.tmps)
  keep : ∀ i listed s, i < n → i ∈ Region.ready md ops listed → X.sp i = false → X.inv listed s → X.inv (listed.setIfInBounds i true) s

theorem stepS {i : Nat} {o : Oper} {a : Act} (hsel : ∀ cs b, o.op ≠ .select cs b) {x : Option Tmp} {u : Value} (hx : ∀ e, x = some e → e ∉ o.looksAt ops) (hc : ∀ s, X.M s (a.put x u) = (X.M s a).put x u) :
    YieldsS P md ops X i o (a.put x u) ↔ YieldsS P md ops X i o a := by
  have he : ∀ s, execOp (X.M s (a.put x u)).eval o = execOp (X.M s a).eval o := fun s => by rw [hc]; exact execOp_put o hsel (X.M s a) x u hx
  unfold YieldsS runsTo
  simp only [he]

/-- The walk in the text's order. -/
def wpFlow (P : Program) (md : Region.Mode) (ops : Array Oper) (X : Extra) (Q : Act → Prop) : Nat → List Oper → Act → Prop
  | _, [], a => Q a
  | k, o :: rest, a => ∃ v, Y P md ops X k o v a ∧ wpFlow P md ops X Q (k + 1) rest (eff X k o v a)

theorem wpFlow_mono {Q Q' : Act → Prop} (h : ∀ a, Q a → Q' a) : ∀ (k : Nat) (l : List Oper) (a : Act), wpFlow P md ops X Q k l a → wpFlow P md ops X Q' k l a
  | _, [], a, hh => h a hh
  | k, o :: rest, a, ⟨v, hy, hk⟩ => ⟨v, hy, wpFlow_mono h (k + 1) rest _ hk⟩

def flOp (P : Program) (md : Region.Mode) (ops : Array Oper) (X : Extra) (i : Nat) (K : Act → Prop) (a : Act) : Prop :=
  match ops[i]? with
  | none => K a
  | some o => ∃ v, Y P md ops X i o v a ∧ K (eff X i o v a)

theorem flOp_mono {i : Nat} {a : Act} {K K' : Act → Prop} (h : ∀ a, K a → K' a) (hh : flOp P md ops X i K a) : flOp P md ops X i K' a := by
  unfold flOp at *
  split at hh
  · exact h _ hh
  · obtain ⟨v, hy, hk⟩ := hh; exact ⟨v, hy, h _ hk⟩

theorem flOp_put {n i j : Nat} {oi oj : Oper} {v : Value} (A : Apt md ops X n) (hi : ops[i]? = some oi) (hj : ops[j]? = some oj) (hap : oi.apart ops oj = true)
    (hsi : ∀ cs b, oi.op ≠ .select cs b) (hsj : ∀ cs b, oj.op ≠ .select cs b) {K : Act → Prop} {a : Act}
    (hy : Y P md ops X i oi v a) (h : flOp P md ops X j K (eff X i oi v a)) :
    flOp P md ops X j (fun a' => Y P md ops X i oi v a' ∧ K (eff X i oi v a')) a := by
  obtain ⟨h1, h2, h3⟩ := Oper.apart_spec hap
  unfold flOp at *
  simp only [hj] at h ⊢
  obtain ⟨u, hu, hk⟩ := h
  refine ⟨u, ?_⟩
  cases ei : X.sp i <;> cases ej : X.sp j <;> simp only [Y, eff, ei, ej, if_true, if_false, Bool.false_eq_true] at hy hu hk ⊢
  · have e1 := execOp_put oj hsj a oi.dst v h1
    have e2 := wanted_put oj a oi.dst v h1
    have e3 := execOp_put oi hsi a oj.dst u h3
    have e4 := wanted_put oi a oj.dst u h3
    refine ⟨?_, ?_, ?_⟩
    · unfold YieldsR runsTo at *; rw [e1, e2] at hu; exact hu
    · unfold YieldsR runsTo at *; rw [e3, e4]; exact hy
    · rw [← Act.put_comm a v u h2]; exact hk
  · exact ⟨(stepS hsj h1 (fun s => A.comm i oi hi ei s a v)).1 hu, hy, hk⟩
  · exact ⟨hu, (stepS hsi h3 (fun s => A.comm j oj hj ej s a u)).2 hy, hk⟩
  · exact ⟨hu, hy, hk⟩

/-- The head (numbers below n) in whatever order; L behind it. -/
def wpAnyL (P : Program) (md : Region.Mode) (ops : Array Oper) (X : Extra) (n : Nat) (L : Array Bool → Act → Prop) : Nat → Array Bool → Act → Prop
  | 0, listed, a => L listed a
  | f + 1, listed, a =>
    Region.ready md ops listed ≠ [] ∧ ∀ i ∈ Region.ready md ops listed, i < n ∧ flOp P md ops X i (wpAnyL P md ops X n L f (listed.setIfInBounds i true)) a

theorem wpOp_of_flOp {n i : Nat} (A : Apt md ops X n) {listed : Array Bool} {s : X.St} {a : Act} {w : World} {K : Act → Prop} {K' : Act → World → Prop} {Q' : Exit → Act → World → Prop}
    (hin : i < n) (hio : i < ops.size) (hr : i ∈ Region.ready md ops listed) (hv : X.inv listed s) (hR : X.R s w)
    (h : ∀ a' s' w', X.inv (listed.setIfInBounds i true) s' → X.R s' w' → K a' → K' (X.M s' a') w') (hh : flOp P md ops X i K a) : wpOp P ops Q' i K' (X.M s a) w := by
  unfold flOp at hh
  unfold wpOp
  split
  · rename_i ho; rw [Array.getElem?_eq_getElem hio] at ho; cases ho
  · rename_i o ho
    simp only [ho] at hh
    obtain ⟨v, hy, hk⟩ := hh
    cases ei : X.sp i <;> simp only [Y, eff, ei, if_true, if_false, Bool.false_eq_true] at hy hk
    · obtain ⟨h1, h2⟩ := A.blind i o hin ho ei s a
      rw [h2]
      unfold YieldsR at hy
      split
      · rename_i hw
        simp only [hw, if_true] at hy
        refine .inl (wp_of_runsTo (N := fun u w' => u = v ∧ X.R s w') (fun u w' ⟨hu, hr'⟩ => by
          subst hu; rw [← A.comm i o ho ei]; exact h _ s _ (A.keep i listed s hin hr ei hv) hr' hk) ?_)
        have := hy s w hR
        unfold runsTo at *
        rw [h1]
        exact this
      · rename_i hw
        rw [if_neg hw] at hy
        subst hy
        rw [← A.comm i o ho ei]
        exact h _ s _ (A.keep i listed s hin hr ei hv) hR hk
    · obtain ⟨hg, hrun⟩ := hy
      rw [if_pos (by simp [Region.wanted, hg])]
      exact .inl (wp_of_runsTo (fun u w' ⟨s', h1, h2, h3⟩ => by rw [h3]; exact h _ s' _ h1 h2 hk) (hrun listed s w hr hv hR))

theorem wpAny_of_head2 {n g : Nat} (A : Apt md ops X n) {L : Array Bool → Act → Prop} {Q' : Exit → Act → World → Prop} (hn : n < ops.size)
    (hL : ∀ listed a s w, X.inv listed s → X.R s w → L listed a → wpAny P md ops Q' g listed (X.M s a) w) :
    ∀ (f : Nat) (listed : Array Bool) (a : Act) (s : X.St) (w : World), X.inv listed s → X.R s w → wpAnyL P md ops X n L f listed a → wpAny P md ops Q' (f + g) listed (X.M s a) w
  | 0, listed, a, s, w, hv, hR, h => by rw [Nat.zero_add]; exact hL _ _ _ _ hv hR h
  | f + 1, listed, a, s, w, hv, hR, h => by
    rw [show f + 1 + g = (f + g) + 1 by omega]
    exact ⟨fun h0 => absurd h0 h.1, fun i hi => wpOp_of_flOp A (h.2 i hi).1 (Nat.lt_trans (h.2 i hi).1 hn) hi hv hR (fun a' s' w' h1 h2 h3 => wpAny_of_head2 A hn hL f _ a' s' w' h1 h2 h3) (h.2 i hi).2⟩

set_option maxHeartbeats 400000 in
theorem wpAnyL_first {n i : Nat} {oi : Oper} {v : Value} {L : Array Bool → Act → Prop} (A : Apt md ops X n) (hi : ops[i]? = some oi) (hsel : ∀ (j : Nat) (o : Oper) cs b, ops[j]? = some o → o.op ≠ .select cs b)
    (hs : Region.sinkB md ops n = true) (hc : Region.chainB md ops n = true) (hn : n < ops.size) (hin : i < n)
    (hdone : ∀ listed a, L listed a → ∀ j ∈ Region.ready md ops listed, n ≤ j) :
    ∀ (f : Nat) (listed : Array Bool) (a : Act), HeadInv md ops n listed →
      (∀ j oj, ops[j]? = some oj → j ≠ i → listed.getD j true = false → (∀ e ∈ oj.after, Region.binds md e = true → e.on ≠ i) → oi.apart ops oj = true) →
      i ∈ Region.ready md ops listed → Y P md ops X i oi v a →
      wpAnyL P md ops X n L f (listed.setIfInBounds i true) (eff X i oi v a) → wpAnyL P md ops X n L (f + 1) listed a := by
  intro f
  induction f with
  | zero =>
    intro listed a inv _ hr hy H
    have hun := (mem_ready.1 hr).1
    refine ⟨fun h => (by rw [h] at hr; cases hr), fun j hj => ?_⟩
    have hjn : j < n := by
      rcases Nat.lt_or_ge j n with h | h
      · exact h
      · exact absurd hj (tail_waits hs hc hn inv _ i rfl hin hun j h)
    refine ⟨hjn, ?_⟩
    by_cases hji : j = i
    · subst hji; unfold flOp; simp only [hi]; exact ⟨v, hy, H⟩
    · have := hdone _ _ H j (ready_mono hj hji)
      omega
  | succ f ih =>
    intro listed a inv hfree hr hy H
    have hun := (mem_ready.1 hr).1
    refine ⟨fun h => (by rw [h] at hr; cases hr), fun j hj => ?_⟩
    have hjn : j < n := by
      rcases Nat.lt_or_ge j n with h | h
      · exact h
      · exact absurd hj (tail_waits hs hc hn inv _ i rfl hin hun j h)
    refine ⟨hjn, ?_⟩
    by_cases hji : j = i
    · subst hji; unfold flOp; simp only [hi]; exact ⟨v, hy, H⟩
    · have h1 := (H.2 j (ready_mono hj hji)).2
      obtain ⟨hjun, oj, hoj, hall⟩ := mem_ready.1 hj
      have hnot : ∀ e ∈ oj.after, Region.binds md e = true → e.on ≠ i := fun e he hb heq => by
        have h1 := hall e he hb
        rw [heq, getD_both hun] at h1
        cases h1
      have h2 := flOp_put A hi hoj (hfree j oj hoj hji hjun hnot) (fun cs b => hsel i oi cs b hi) (fun cs b => hsel j oj cs b hoj) hy h1
      have hfree' : ∀ k ok, ops[k]? = some ok → k ≠ i → (listed.setIfInBounds j true).getD k true = false →
          (∀ e ∈ ok.after, Region.binds md e = true → e.on ≠ i) → oi.apart ops ok = true := fun k ok hk hki hun hno => by
        refine hfree k ok hk hki ?_ hno
        by_cases hjk : j = k
        · subst hjk; exact hjun
        · rw [getD_set_ne true hjk] at hun; exact hun
      refine flOp_mono (fun a' h3 => ih (listed.setIfInBounds j true) a' (inv.set hj hjn) hfree' (ready_mono hr (Ne.symm hji)) h3.1 ?_) h2
      rw [Array.setIfInBounds_comm _ _ hji]
      exact h3.2

theorem getD_more {listed : Array Bool} {i k : Nat} (h : listed.getD k false = true) : (listed.setIfInBounds i true).getD k false = true := by
  by_cases hik : i = k
  · subst hik
    have hs : i < listed.size := by
      rcases Nat.lt_or_ge i listed.size with h' | h'
      · exact h'
      · rw [Array.getD_eq_getD_getElem?, Array.getElem?_eq_none h'] at h; cases h
    simp [Array.getD_eq_getD_getElem?, hs]
  · simp only [Array.getD_eq_getD_getElem?, Array.getElem?_setIfInBounds, hik, if_false] at *; exact h
theorem getD_self {listed : Array Bool} {i : Nat} (h : listed.getD i true = false) : (listed.setIfInBounds i true).getD i false = true := by
  have hs : i < listed.size := by
    rcases Nat.lt_or_ge i listed.size with h' | h'
    · exact h'
    · rw [Array.getD_eq_getD_getElem?, Array.getElem?_eq_none h'] at h; cases h
  simp [Array.getD_eq_getD_getElem?, hs]
theorem wpAnyL_lex {n g : Nat} {Lq : Act → Prop} (A : Apt md ops X n) (hsel : Region.noSelect ops = true) (hs : Region.sinkB md ops n = true) (hc : Region.chainB md ops n = true) (hn : n < ops.size) :
    ∀ (l : List Oper) (k : Nat) (listed : Array Bool) (a : Act), (∀ j, j < l.length → l[j]? = ops[k + j]?) → k + l.length = n → HeadInv md ops n listed → (∀ j, j < k → listed.getD j false = true) →
    Region.lexHead md ops g l.length k listed = true → wpFlow P md ops X Lq k l a →
    wpAnyL P md ops X n (fun listed' a' => Region.seqB md ops g n listed' = true ∧ (∀ j, j < n → listed'.getD j false = true) ∧ Lq a') l.length listed a
  | [], k, listed, a, _, hk, _, hz, hB, h => by
    have : k = n := by simpa using hk
    subst this
    exact ⟨by simpa [Region.lexHead] using hB, hz, h⟩
  | o :: l, k, listed, a, hl, hk, inv, hz, hB, h => by
    have h0 : ops[k]? = some o := by simpa using (hl 0 (by simp)).symm
    simp only [List.length_cons, Region.lexHead, Bool.and_eq_true] at hB
    obtain ⟨⟨hr, hf⟩, hB'⟩ := hB
    have hkn : k < n := by simp only [List.length_cons] at hk; omega
    have hr' : k ∈ Region.ready md ops listed := by simpa using hr
    obtain ⟨v, hy, hK⟩ := h
    exact wpAnyL_first A h0 (Region.noSelect_spec hsel) hs hc hn hkn (fun listed' a' hL => seqB_ready hL.1) l.length listed a inv (Region.free_spec h0 hf) hr' hy
      (wpAnyL_lex A hsel hs hc hn l (k + 1) _ _ (fun j hj => by have := hl (j + 1) (by simp; omega); simpa [Nat.add_assoc, Nat.add_comm 1 j] using this) (by simp only [List.length_cons] at hk; omega) (inv.set hr' hkn)
        (fun j hj => by
          by_cases h : j = k
          · subst h; exact getD_self (mem_ready.1 hr').1
          · exact getD_more (hz j (by omega))) hB' hK)

theorem wp_region_flow {id : Nat} {Q : Exit → Act → World → Prop} {a : Act} {w : World} {l : List Oper} (X : Extra) (n : Nat) (A : Apt .any l.toArray X n) (s0 : X.St) (hm : P.follows .mixedOrders = true) (hB : Region.lexTailB .any l.toArray n = true)
    (hv : X.inv (Array.replicate l.toArray.size false) s0) (hR : X.R s0 { w with drawn := w.drawn + 1 }) (hM : X.M s0 a = a)
    (h : wpFlow P .any l.toArray X (fun a' => ∀ listed s w', (∀ j, j < n → listed.getD j false = true) → X.inv listed s → X.R s w' → wpList P l.toArray Q (l.drop n) (X.M s a') w') 0 (l.take n) a) : (Code.region id l.toArray true).wp P Q a w := by
  simp only [Region.lexTailB, Bool.and_eq_true, decide_eq_true_eq] at hB
  obtain ⟨⟨⟨⟨hsel, hn⟩, hs⟩, hc⟩, hlex⟩ := hB
  have hn' : n < l.length := by simpa using hn
  have htl : (l.take n).length = n := by simp; omega
  have hdl : (l.drop n).length = l.toArray.size - n := by simp
  have inv0 : HeadInv .any l.toArray n (Array.replicate l.toArray.size false) :=
    ⟨by simp, fun j oj _ hl => (by rw [getD_replicate_false] at hl; cases hl), fun t _ ht => getD_in (by simpa using ht) (getD_replicate_false _ _)⟩
  refine wp_region_any hm ?_
  have key := wpAnyL_lex (P := P) (X := X) (g := l.toArray.size - n) (md := .any) A hsel hs hc hn (l.take n) 0 (Array.replicate l.toArray.size false) a
    (fun j hj => by rw [List.getElem?_take, if_pos (by omega)]; simp) (by omega) inv0 (fun j hj => absurd hj (by omega)) (by rw [htl]; exact hlex) h
  rw [htl] at key
  have h2 := wpAny_of_head2 (P := P) (X := X) (md := .any) (ops := l.toArray) (g := l.toArray.size - n) (Q' := Q) A hn
    (L := fun listed' a' => Region.seqB .any l.toArray (l.toArray.size - n) n listed' = true ∧ (∀ j, j < n → listed'.getD j false = true) ∧ ∀ listed s w', (∀ j, j < n → listed.getD j false = true) → X.inv listed s → X.R s w' → wpList P l.toArray Q (l.drop n) (X.M s a') w')
    (fun listed' a' s w' hv' hR' hL => by
      have := wpAny_of_seq (P := P) (md := .any) (ops := l.toArray) (Q' := Q) (l.drop n) n listed' (X.M s a') w' (fun j => by simp) (by rw [hdl]; exact hL.1) (hL.2.2 listed' s w' hL.2.1 hv' hR')
      rwa [hdl] at this) n _ _ s0 { w with drawn := w.drawn + 1 } hv hR key
  have : n + (l.toArray.size - n) = l.toArray.size := by omega
  rw [this, hM] at h2
  exact h2
end
end FlowX
end Go.Proofs.YtboknfppecgjmaaGreat
