/- A region that draws its order, one of whose operations makes a block, whenever it comes, and another one stores into it; every other one gives one value, whatever the world. -/
import Derived.Test.YtboknfppecgjmaaGreatFlowA
namespace Go.Proofs.YtboknfppecgjmaaGreat
set_option linter.unusedVariables false
set_option linter.unusedSimpArgs false
namespace FlowS
open Flow
open FlowA (ptr put_put setm apartB apartB_spec)
section
variable {P : Program} {ops : Array Oper} {md : Region.Mode} {R : Option (Nat × Bool) → World → Prop} {m q : Nat} {d : Tmp}

/-- In every world that R lets in, the operation gives v and a world that R lets in; or it is not wanted. The numbers m and q are apart. -/
def YieldsR (P : Program) (ops : Array Oper) (R : Option (Nat × Bool) → World → Prop) (m q : Nat) (d : Tmp) (i : Nat) (o : Oper) (v : Value) (a : Act) : Prop :=
  if i = m then v = undef else if i = q then v = undef ∧ o.guard = none ∧ ∀ b w, R (some (b, false)) w → runsTo P o (a.put (some d) (ptr b)) w (fun _ w' => R (some (b, true)) w') else if Region.wanted o (yielded ops a.tmps) then ∀ s w, R s w → runsTo P o a w (fun u w' => u = v ∧ R s w') else v = undef

theorem YieldsR.put {i : Nat} {o : Oper} {v : Value} {a : Act} (hsel : ∀ cs b, o.op ≠ .select cs b) {x : Option Tmp} {u : Value} (hx : ∀ e, x = some e → e ∉ o.looksAt ops) :
    YieldsR P ops R m q d i o v (a.put x u) ↔ YieldsR P ops R m q d i o v a := by
  have he := execOp_put o hsel a x u hx
  have hw := wanted_put o a x u hx
  have hb : ∀ b, execOp ((a.put x u).put (some d) (ptr b)).eval o = execOp (a.put (some d) (ptr b)).eval o := fun b => by
    by_cases hxd : x = some d
    · subst hxd; rw [put_put]
    · rw [Act.put_comm a u (ptr b) (fun e he hde => hxd (by rw [he]; exact hde.symm))]
      exact execOp_put o hsel (a.put (some d) (ptr b)) x u hx
  unfold YieldsR runsTo
  rw [hw, he]
  simp only [hb]

/-- The walk in the text's order. -/
def wpFlow (P : Program) (ops : Array Oper) (R : Option (Nat × Bool) → World → Prop) (m q : Nat) (d : Tmp) (Q : Act → Prop) : Nat → List Oper → Act → Prop
  | _, [], a => Q a
  | k, o :: rest, a => ∃ v, YieldsR P ops R m q d k o v a ∧ wpFlow P ops R m q d Q (k + 1) rest (a.put o.dst v)

def flOp (P : Program) (ops : Array Oper) (R : Option (Nat × Bool) → World → Prop) (m q : Nat) (d : Tmp) (i : Nat) (K : Act → Prop) (a : Act) : Prop :=
  match ops[i]? with
  | none => K a
  | some o => ∃ v, YieldsR P ops R m q d i o v a ∧ K (a.put o.dst v)

theorem flOp_mono {i : Nat} {a : Act} {K K' : Act → Prop} (h : ∀ a, K a → K' a) (hh : flOp P ops R m q d i K a) : flOp P ops R m q d i K' a := by
  unfold flOp at *
  split at hh
  · exact h _ hh
  · obtain ⟨v, hy, hk⟩ := hh; exact ⟨v, hy, h _ hk⟩

theorem flOp_put {i j : Nat} {oi oj : Oper} {v : Value} (hj : ops[j]? = some oj) (hap : oi.apart ops oj = true)
    (hsi : ∀ cs b, oi.op ≠ .select cs b) (hsj : ∀ cs b, oj.op ≠ .select cs b) {K : Act → Prop} {a : Act}
    (hy : YieldsR P ops R m q d i oi v a) (h : flOp P ops R m q d j K (a.put oi.dst v)) :
    flOp P ops R m q d j (fun a' => YieldsR P ops R m q d i oi v a' ∧ K (a'.put oi.dst v)) a := by
  obtain ⟨h1, h2, h3⟩ := Oper.apart_spec hap
  unfold flOp at *
  simp only [hj] at *
  obtain ⟨u, hu, hk⟩ := h
  refine ⟨u, (YieldsR.put hsj h1).1 hu, (YieldsR.put hsi h3).2 hy, ?_⟩
  rw [← Act.put_comm a v u h2]; exact hk

/-- The head (numbers below n) in whatever order; L behind it. -/
def wpAnyL (P : Program) (md : Region.Mode) (ops : Array Oper) (R : Option (Nat × Bool) → World → Prop) (m q : Nat) (d : Tmp) (n : Nat) (L : Array Bool → Act → Prop) : Nat → Array Bool → Act → Prop
  | 0, listed, a => L listed a
  | f + 1, listed, a =>
    Region.ready md ops listed ≠ [] ∧ ∀ i ∈ Region.ready md ops listed, i < n ∧ flOp P ops R m q d i (wpAnyL P md ops R m q d n L f (listed.setIfInBounds i true)) a

/-- The frame as it is: with the block's pointer, once it is made. -/
def act (d : Tmp) (s : Option (Nat × Bool)) (a : Act) : Act := match s with | none => a | some b => a.put (some d) (ptr b.1)
/-- What is known of the operation that makes the block. -/
structure Makes (P : Program) (md : Region.Mode) (ops : Array Oper) (R : Option (Nat × Bool) → World → Prop) (m q n : Nat) (d : Tmp) (om : Oper) (ob : Obj) : Prop where
  at_ : ops[m]? = some om
  dst : om.dst = some d
  free : om.guard = none
  run : ∀ (a : Act) (w : World), (execOp a.eval om).run P w = .ok (.value (ptr w.heap.size)) (w.alloc ob)
  apart : ∀ j oj, j < n → j ≠ m → j ≠ q → ops[j]? = some oj → om.apart ops oj = true
  lets : ∀ w, R none w → R (some (w.heap.size, false)) (w.alloc ob)
  mq : m ≠ q
  dq : ∀ oq, ops[q]? = some oq → oq.dst = none
  waits : ∀ oq, ops[q]? = some oq → ∃ e ∈ oq.after, Region.binds md e = true ∧ e.on = m

/-- How far the block is: not made, made, stored into. -/
def stage (m q : Nat) (listed : Array Bool) (s : Option (Nat × Bool)) : Prop :=
  s.isSome = listed.getD m false ∧ ∀ b, s = some b → b.2 = listed.getD q false

theorem wpOp_of_flOp {n i : Nat} {om : Oper} {ob : Obj} (M : Makes P md ops R m q n d om ob) (hsel : ∀ (j : Nat) (o : Oper) cs b, ops[j]? = some o → o.op ≠ .select cs b) {s : Option (Nat × Bool)} {a : Act} {w : World} {K : Act → Prop} {K' : Act → World → Prop} {Q' : Exit → Act → World → Prop}
    (hin : i < n) (hio : i < ops.size) (him : i = m → s = none) (hiq : i = q → ∃ b, s = some (b, false)) (hR : R s w)
    (hm' : ∀ a b w, i = m → R (some (b, false)) w → K a → K' (act d (some (b, false)) a) w) (hq' : ∀ a b w, i = q → R (some (b, true)) w → K a → K' (act d (some (b, true)) a) w)
    (h : ∀ a w, i ≠ m → i ≠ q → R s w → K a → K' (act d s a) w) (hh : flOp P ops R m q d i K a) : wpOp P ops Q' i K' (act d s a) w := by
  unfold flOp at hh
  unfold wpOp
  split
  · rename_i ho; rw [Array.getElem?_eq_getElem hio] at ho; cases ho
  · rename_i o ho
    simp only [ho] at hh
    obtain ⟨v, hy, hk⟩ := hh
    unfold YieldsR at hy
    by_cases hm : i = m
    · have hs := him hm
      subst hs
      have ho' := ho
      rw [hm] at ho
      rw [M.at_] at ho
      cases ho
      rw [if_pos hm] at hy
      subst hy
      rw [if_pos (by simp [Region.wanted, M.free])]
      refine .inl ?_
      unfold Oper.wp
      rw [show (act d none a).eval = a.eval from rfl, M.run]
      have h2 := hm' _ w.heap.size (w.alloc ob) hm (M.lets w hR) hk
      simp only [act, M.dst, put_put] at h2
      simp only [Oper.upon, M.dst]
      exact h2
    · rw [if_neg hm] at hy
      by_cases hq : i = q
      · rw [if_pos hq] at hy
        obtain ⟨hv, hg, hrun⟩ := hy
        subst hv
        obtain ⟨b, rfl⟩ := hiq hq
        rw [if_pos (by simp [Region.wanted, hg])]
        have hd : o.dst = none := M.dq o (by rw [← hq]; exact ho)
        refine .inl (wp_of_runsTo (N := fun _ w' => R (some (b, true)) w') (fun u w' hr => ?_) (hrun b w hR))
        rw [hd] at hk ⊢
        exact hq' _ b w' hq hr hk
      · rw [if_neg hq] at hy
        cases s with
        | none =>
          show ite _ _ _
          split
          · rename_i hw
            have hw' : Region.wanted o (yielded ops a.tmps) = true := hw
            simp only [hw', if_true] at hy
            exact .inl (wp_of_runsTo (fun u w' ⟨hu, hr⟩ => by subst hu; exact h _ _ hm hq hr hk) (hy none w hR))
          · rename_i hw
            have hw' : ¬ Region.wanted o (yielded ops a.tmps) = true := hw
            rw [if_neg hw'] at hy
            subst hy
            exact h _ _ hm hq hR hk
        | some b =>
          obtain ⟨h1, h2, h3⟩ := Oper.apart_spec (M.apart i o hin hm hq ho)
          have hw1 := wanted_put o a (some d) (ptr b.1) (fun d' hd' => h1 d' (by rw [M.dst]; exact hd'))
          have he1 := execOp_put o (fun cs b => hsel i o cs b ho) a (some d) (ptr b.1) (fun d' hd' => h1 d' (by rw [M.dst]; exact hd'))
          have hcomm : ∀ u, (a.put (some d) (ptr b.1)).put o.dst u = act d (some b) (a.put o.dst u) := fun u => by
            show _ = (a.put o.dst u).put (some d) (ptr b.1)
            exact Act.put_comm a _ _ (fun d' hd' => h2 d' (by rw [M.dst]; exact hd'))
          show ite (Region.wanted o (yielded ops (a.put (some d) (ptr b.1)).tmps) = true) _ _
          rw [hw1]
          split
          · rename_i hw
            simp only [hw, if_true] at hy
            refine .inl (wp_of_runsTo (N := fun u w' => u = v ∧ R (some b) w') (fun u w' ⟨hu, hr⟩ => by subst hu; show K' ((a.put (some d) (ptr b.1)).put o.dst u) w'; rw [hcomm]; exact h _ _ hm hq hr hk) ?_)
            have := hy (some b) w hR
            unfold runsTo at *
            rw [show (act d (some b) a).eval = (a.put (some d) (ptr b.1)).eval from rfl, he1]
            exact this
          · rename_i hw
            rw [if_neg hw] at hy
            subst hy
            show K' ((a.put (some d) (ptr b.1)).put o.dst undef) w
            rw [hcomm]
            exact h _ _ hm hq hR hk

theorem getD_other {listed : Array Bool} {i k : Nat} (h : i ≠ k) : (listed.setIfInBounds i true).getD k false = listed.getD k false := by
  simp [Array.getD_eq_getD_getElem?, Array.getElem?_setIfInBounds, h]
theorem wpAny_of_head2 {n g : Nat} {om : Oper} {ob : Obj} (M : Makes P md ops R m q n d om ob) (hsel : ∀ (j : Nat) (o : Oper) cs b, ops[j]? = some o → o.op ≠ .select cs b) {L : Array Bool → Act → Prop} {Q' : Exit → Act → World → Prop} (hn : n < ops.size)
    (hL : ∀ listed a w s, stage m q listed s → R s w → L listed a → wpAny P md ops Q' g listed (act d s a) w) :
    ∀ (f : Nat) (listed : Array Bool) (a : Act) (w : World) (s : Option (Nat × Bool)), (s = none → listed.getD q false = false) → stage m q listed s → R s w → wpAnyL P md ops R m q d n L f listed a → wpAny P md ops Q' (f + g) listed (act d s a) w
  | 0, listed, a, w, s, _, hs, hR, h => by rw [Nat.zero_add]; exact hL _ _ _ _ hs hR h
  | f + 1, listed, a, w, s, hz, hs, hR, h => by
    rw [show f + 1 + g = (f + g) + 1 by omega]
    refine ⟨fun h0 => absurd h0 h.1, fun i hi => ?_⟩
    have hun := (mem_ready.1 hi).1
    have hun' := getD_both hun
    have hmq := M.mq
    refine wpOp_of_flOp M hsel (h.2 i hi).1 (Nat.lt_trans (h.2 i hi).1 hn) (fun h0 => ?_) (fun h0 => ?_) hR (fun a' b w' he hR' h' => ?_) (fun a' b w' he hR' h' => ?_) (fun a' w' h1 h2 hR' h' => ?_) (h.2 i hi).2
    · subst h0
      have : s.isSome = false := by rw [hs.1]; exact hun'
      simpa using this
    · subst h0
      obtain ⟨_, oq, hoq, hall⟩ := mem_ready.1 hi
      obtain ⟨e, he, hb, hon⟩ := M.waits oq hoq
      have h3 : listed.getD m false = true := by have := hall e he hb; rw [hon] at this; exact this
      have h4 : s.isSome = true := by rw [hs.1]; exact h3
      obtain ⟨b, rfl⟩ := Option.isSome_iff_exists.1 h4
      have h5 := hs.2 b rfl
      rw [hun'] at h5
      exact ⟨b.1, by rw [← h5]⟩
    · have hsn : s = none := by
        have : s.isSome = false := by rw [hs.1, ← he]; exact hun'
        simpa using this
      refine wpAny_of_head2 M hsel hn hL f _ a' w' (some (b, false)) (fun h => by cases h) ⟨?_, ?_⟩ hR' h'
      · rw [setm hun]; simp [he]
      · intro c hc; cases hc; rw [getD_other (by rw [he]; exact hmq), hz hsn]
    · have h3 : listed.getD m false = true := by
        obtain ⟨_, oq, hoq, hall⟩ := mem_ready.1 hi
        rw [he] at hoq
        obtain ⟨e, he2, hb, hon⟩ := M.waits oq hoq
        have := hall e he2 hb; rw [hon] at this; exact this
      refine wpAny_of_head2 M hsel hn hL f _ a' w' (some (b, true)) (fun h => by cases h) ⟨?_, ?_⟩ hR' h'
      · rw [getD_other (by rw [he]; exact Ne.symm hmq), h3]; rfl
      · intro c hc; cases hc; rw [setm hun]; simp [he]
    · refine wpAny_of_head2 M hsel hn hL f _ a' w' s (fun hn => by rw [getD_other h2]; exact hz hn) ⟨?_, ?_⟩ hR' h'
      · rw [getD_other h1]; exact hs.1
      · intro c hc; rw [getD_other h2]; exact hs.2 c hc

theorem wpAnyL_first {n i : Nat} {oi : Oper} {v : Value} {L : Array Bool → Act → Prop} (hi : ops[i]? = some oi) (hsel : ∀ (j : Nat) (o : Oper) cs b, ops[j]? = some o → o.op ≠ .select cs b)
    (hs : Region.sinkB md ops n = true) (hc : Region.chainB md ops n = true) (hn : n < ops.size) (hin : i < n)
    (hdone : ∀ listed a, L listed a → ∀ j ∈ Region.ready md ops listed, n ≤ j) :
    ∀ (f : Nat) (listed : Array Bool) (a : Act), HeadInv md ops n listed →
      (∀ j oj, ops[j]? = some oj → j ≠ i → listed.getD j true = false → (∀ e ∈ oj.after, Region.binds md e = true → e.on ≠ i) → oi.apart ops oj = true) →
      i ∈ Region.ready md ops listed → YieldsR P ops R m q d i oi v a →
      wpAnyL P md ops R m q d n L f (listed.setIfInBounds i true) (a.put oi.dst v) → wpAnyL P md ops R m q d n L (f + 1) listed a := by
  intro f
  induction f with
  | zero =>
    intro listed a inv _ hr hy H
    have hun := (mem_ready.1 hr).1
    refine ⟨fun h => (by rw [h] at hr; cases hr), fun j hj => ?_⟩
    have hjn : j < n := by
      rcases Nat.lt_or_ge j n with h | h
      · exact h
      · exact absurd hj (tail_waits hs hc hn inv _ i rfl hin hun j h)
    refine ⟨hjn, ?_⟩
    by_cases hji : j = i
    · subst hji; unfold flOp; simp only [hi]; exact ⟨v, hy, H⟩
    · have := hdone _ _ H j (ready_mono hj hji)
      omega
  | succ f ih =>
    intro listed a inv hfree hr hy H
    have hun := (mem_ready.1 hr).1
    refine ⟨fun h => (by rw [h] at hr; cases hr), fun j hj => ?_⟩
    have hjn : j < n := by
      rcases Nat.lt_or_ge j n with h | h
      · exact h
      · exact absurd hj (tail_waits hs hc hn inv _ i rfl hin hun j h)
    refine ⟨hjn, ?_⟩
    by_cases hji : j = i
    · subst hji; unfold flOp; simp only [hi]; exact ⟨v, hy, H⟩
    · have h1 := (H.2 j (ready_mono hj hji)).2
      obtain ⟨hjun, oj, hoj, hall⟩ := mem_ready.1 hj
      have hnot : ∀ e ∈ oj.after, Region.binds md e = true → e.on ≠ i := fun e he hb heq => by
        have h1 := hall e he hb
        rw [heq, getD_both hun] at h1
        cases h1
      have h2 := flOp_put hoj (hfree j oj hoj hji hjun hnot) (fun cs b => hsel i oi cs b hi) (fun cs b => hsel j oj cs b hoj) hy h1
      have hfree' : ∀ k ok, ops[k]? = some ok → k ≠ i → (listed.setIfInBounds j true).getD k true = false →
          (∀ e ∈ ok.after, Region.binds md e = true → e.on ≠ i) → oi.apart ops ok = true := fun k ok hk hki hun hno => by
        refine hfree k ok hk hki ?_ hno
        by_cases hjk : j = k
        · subst hjk; exact hjun
        · rw [getD_set_ne true hjk] at hun; exact hun
      refine flOp_mono (fun a' h3 => ih (listed.setIfInBounds j true) a' (inv.set hj hjn) hfree' (ready_mono hr (Ne.symm hji)) h3.1 ?_) h2
      rw [Array.setIfInBounds_comm _ _ hji]
      exact h3.2

theorem wpAnyL_lex {n g : Nat} {Lq : Act → Prop} (hsel : Region.noSelect ops = true) (hs : Region.sinkB md ops n = true) (hc : Region.chainB md ops n = true) (hn : n < ops.size) (hm : m < n) (hq : q < n) :
    ∀ (l : List Oper) (k : Nat) (listed : Array Bool) (a : Act), (∀ j, j < l.length → l[j]? = ops[k + j]?) → k + l.length = n → HeadInv md ops n listed → (m < k → listed.getD m false = true) → (q < k → listed.getD q false = true) →
    Region.lexHead md ops g l.length k listed = true → wpFlow P ops R m q d Lq k l a →
    wpAnyL P md ops R m q d n (fun listed' a' => Region.seqB md ops g n listed' = true ∧ listed'.getD m false = true ∧ listed'.getD q false = true ∧ Lq a') l.length listed a
  | [], k, listed, a, _, hk, _, hz, hy, hB, h => by
    have : k = n := by simpa using hk
    subst this
    exact ⟨by simpa [Region.lexHead] using hB, hz hm, hy hq, h⟩
  | o :: l, k, listed, a, hl, hk, inv, hz, hzq, hB, h => by
    have h0 : ops[k]? = some o := by simpa using (hl 0 (by simp)).symm
    simp only [List.length_cons, Region.lexHead, Bool.and_eq_true] at hB
    obtain ⟨⟨hr, hf⟩, hB'⟩ := hB
    have hkn : k < n := by simp only [List.length_cons] at hk; omega
    have hr' : k ∈ Region.ready md ops listed := by simpa using hr
    obtain ⟨v, hy, hK⟩ := h
    exact wpAnyL_first h0 (Region.noSelect_spec hsel) hs hc hn hkn (fun listed' a' hL => seqB_ready hL.1) l.length listed a inv (Region.free_spec h0 hf) hr' hy
      (wpAnyL_lex hsel hs hc hn hm hq l (k + 1) _ _ (fun j hj => by have := hl (j + 1) (by simp; omega); simpa [Nat.add_assoc, Nat.add_comm 1 j] using this) (by simp only [List.length_cons] at hk; omega) (inv.set hr' hkn)
        (fun hmk => by
          rw [setm (mem_ready.1 hr').1]
          by_cases h : k = m
          · simp [h]
          · rw [hz (by omega)]; rfl)
        (fun hmk => by
          rw [setm (mem_ready.1 hr').1]
          by_cases h : k = q
          · simp [h]
          · rw [hzq (by omega)]; rfl) hB' hK)

/-- Whether the operation m touches no other of the head but q, and q waits for it. -/
def apartB2 (ops : Array Oper) (m q n : Nat) (om : Oper) : Bool := ((List.range n).all fun j => j == m || j == q || match ops[j]? with | some oj => om.apart ops oj | none => true) &&
  (match ops[q]? with | some oq => oq.dst.isNone && oq.after.toList.any fun e => Region.binds .any e && e.on == m | none => false) && (m != q)
theorem apartB2_spec {n : Nat} {om : Oper} (h : apartB2 ops m q n om = true) : (∀ j oj, j < n → j ≠ m → j ≠ q → ops[j]? = some oj → om.apart ops oj = true) ∧ m ≠ q ∧ (∀ oq, ops[q]? = some oq → oq.dst = none) ∧ ∀ oq, ops[q]? = some oq → ∃ e ∈ oq.after, Region.binds .any e = true ∧ e.on = m := by
  simp only [apartB2, Bool.and_eq_true] at h
  obtain ⟨⟨h1, h2⟩, h3⟩ := h
  refine ⟨fun j oj hj hm hq ho => ?_, by simpa using h3, fun oq ho => ?_, fun oq ho => ?_⟩
  · have := List.all_eq_true.1 h1 j (List.mem_range.2 hj)
    simpa [hm, hq, ho] using this
  · simp [ho] at h2
    exact h2.1
  · simp only [ho, Bool.and_eq_true] at h2
    obtain ⟨e, he, hb⟩ := List.any_eq_true.1 h2.2
    simp only [Bool.and_eq_true, beq_iff_eq] at hb
    exact ⟨e, by simpa using he, hb.1, hb.2⟩
theorem set4_heap {w : World} {b : Nat} {z0 z1 z2 z3 x0 x1 x2 x3 : Value} {T : TypeId} (h : w.heap[b]? = some (.cells #[z0, z1, z2, z3] T)) :
    ((((w.setCell ⟨b, 0, none⟩ x0).setCell ⟨b, 1, none⟩ x1).setCell ⟨b, 2, none⟩ x2).setCell ⟨b, 3, none⟩ x3).heap[b]? = some (.cells #[x0, x1, x2, x3] T) := by
  have step : ∀ (w : World) (c : Array Value) (o : Nat) (x : Value), w.heap[b]? = some (.cells c T) → (w.setCell ⟨b, o, none⟩ x).heap[b]? = some (.cells (c.setIfInBounds o x) T) := by
    intro w c o x hw
    have hlt := (Array.getElem?_eq_some_iff.1 hw).1
    have h9 : w.heap[b] = .cells c T := by
      rw [Array.getElem?_eq_getElem hlt] at hw; exact Option.some.inj hw
    unfold World.setCell
    simp [hlt, Array.getElem_modify, h9]
  have h1 := step _ _ 0 x0 h
  have h2 := step _ _ 1 x1 h1
  have h3 := step _ _ 2 x2 h2
  have h4 := step _ _ 3 x3 h3
  simpa using h4

/-- The region's rule, R closed to the walk. x0 .. x3: what is stored. -/
theorem wp_region_store {id : Nat} {Q : Exit → Act → World → Prop} {a : Act} {w : World} {l : List Oper} (m q n : Nat) (d : Tmp) (om : Oper) (z0 z1 z2 z3 x0 x1 x2 x3 : Value) (T : TypeId) (hat : l.toArray[m]? = some om) (hd : om.dst = some d) (hg : om.guard = none)
    (hrun : ∀ (a : Act) (w : World), (execOp a.eval om).run P w = .ok (.value (ptr w.heap.size)) (w.alloc (.cells #[z0, z1, z2, z3] T))) (hap : apartB2 l.toArray m q n om = true) (hmn : m < n) (hqn : q < n)
    (hm : P.follows .mixedOrders = true) (hB : Region.lexTailB .any l.toArray n = true)
    (h : ∀ R : Option (Nat × Bool) → World → Prop, RowKit.Hid (∀ s w', R s w' → ∀ bl o, bl < w.heap.size → w'.cell? ⟨bl, o, none⟩ = w.cell? ⟨bl, o, none⟩) → RowKit.Hid (∀ s w' w'', R s w' → RowKit.Below w'.heap.size w' w'' → R s w'') →
      RowKit.Hid (∀ b w', R (some (b, false)) w' → w'.heap[b]? = some (.cells #[z0, z1, z2, z3] T)) →
      RowKit.Hid (∀ b w', R (some (b, false)) w' → R (some (b, true)) ((((w'.setCell ⟨b, 0, none⟩ x0).setCell ⟨b, 1, none⟩ x1).setCell ⟨b, 2, none⟩ x2).setCell ⟨b, 3, none⟩ x3)) →
      wpFlow P l.toArray R m q d (fun a' => ∀ b w', RowKit.Below w.heap.size w w' → w.heap.size ≤ b → w'.heap[b]? = some (.cells #[x0, x1, x2, x3] T) → wpList P l.toArray Q (l.drop n) (a'.put (some d) (ptr b)) w') 0 (l.take n) a) : (Code.region id l.toArray true).wp P Q a w := by
  simp only [Region.lexTailB, Bool.and_eq_true, decide_eq_true_eq] at hB
  obtain ⟨⟨⟨⟨hsel, hn⟩, hs⟩, hc⟩, hlex⟩ := hB
  have hn' : n < l.length := by simpa using hn
  have htl : (l.take n).length = n := by simp; omega
  have hdl : (l.drop n).length = l.toArray.size - n := by simp
  have inv0 : HeadInv .any l.toArray n (Array.replicate l.toArray.size false) :=
    ⟨by simp, fun j oj _ hl => (by rw [getD_replicate_false] at hl; cases hl), fun t _ ht => getD_in (by simpa using ht) (getD_replicate_false _ _)⟩
  let R : Option (Nat × Bool) → World → Prop := fun s w' => RowKit.Below w.heap.size w w' ∧ ∀ b, s = some b → w.heap.size ≤ b.1 ∧ w'.heap[b.1]? = some (.cells (if b.2 then #[x0, x1, x2, x3] else #[z0, z1, z2, z3]) T)
  obtain ⟨hap1, hap2, hap3, hap4⟩ := apartB2_spec hap
  have M : Makes P .any l.toArray R m q n d om (.cells #[z0, z1, z2, z3] T) := by
    refine ⟨hat, hd, hg, hrun, hap1, fun w' hw' => ⟨hw'.1.alloc hw'.1.size _, fun b hb => ?_⟩, hap2, hap3, hap4⟩
    cases hb
    exact ⟨hw'.1.size, by show (w'.heap.push _)[w'.heap.size]? = _; simp⟩
  refine wp_region_any hm ?_
  have h1 := h R (fun s w' hw' bl o hbl => (bcell hw'.1).1 _ _ hbl) (fun s w' w'' hw' hb => ⟨hw'.1.trans (hb.mono hw'.1.size), fun b hs => ⟨(hw'.2 b hs).1, by
    have h2 := (hw'.2 b hs).2
    rw [hb.block b.1 (Array.getElem?_eq_some_iff.1 h2).1]; exact h2⟩⟩)
    (fun b w' hw' => (hw'.2 _ rfl).2)
    (fun b w' hw' => ⟨(((hw'.1.setCell (hw'.2 _ rfl).1 _).setCell (hw'.2 _ rfl).1 _).setCell (hw'.2 _ rfl).1 _).setCell (hw'.2 _ rfl).1 _, fun c hc => by
      cases hc; exact ⟨(hw'.2 _ rfl).1, set4_heap (hw'.2 _ rfl).2⟩⟩)
  have key := wpAnyL_lex (P := P) (R := R) (m := m) (q := q) (d := d) (g := l.toArray.size - n) (md := .any) hsel hs hc hn hmn hqn (l.take n) 0 (Array.replicate l.toArray.size false) a
    (fun j hj => by rw [List.getElem?_take, if_pos (by omega)]; simp) (by omega) inv0 (fun h => absurd h (by omega)) (fun h => absurd h (by omega)) (by rw [htl]; exact hlex) h1
  rw [htl] at key
  have h2 := wpAny_of_head2 (P := P) (R := R) (md := .any) (ops := l.toArray) (g := l.toArray.size - n) (Q' := Q) M (Region.noSelect_spec hsel) hn
    (L := fun listed' a' => Region.seqB .any l.toArray (l.toArray.size - n) n listed' = true ∧ listed'.getD m false = true ∧ listed'.getD q false = true ∧ ∀ b w', RowKit.Below w.heap.size w w' → w.heap.size ≤ b → w'.heap[b]? = some (.cells #[x0, x1, x2, x3] T) → wpList P l.toArray Q (l.drop n) (a'.put (some d) (ptr b)) w')
    (fun listed' a' w' s hss hR' hL => by
      obtain ⟨hss1, hss2⟩ := hss
      rw [hL.2.1] at hss1
      obtain ⟨b, rfl⟩ := Option.isSome_iff_exists.1 hss1
      have hb2 := hss2 b rfl
      rw [hL.2.2.1] at hb2
      obtain ⟨hb3, hb4⟩ := hR'
      have hb5 := hb4 b rfl
      rw [hb2] at hb5
      have := wpAny_of_seq (P := P) (md := .any) (ops := l.toArray) (Q' := Q) (l.drop n) n listed' (act d (some b) a') w' (fun j => by simp) (by rw [hdl]; exact hL.1) (hL.2.2.2 b.1 w' hb3 hb5.1 hb5.2)
      rwa [hdl] at this) n _ _ { w with drawn := w.drawn + 1 } none (fun _ => getD_replicate_false _ _) ⟨by rw [getD_replicate_false]; rfl, fun b hb => by cases hb⟩ ⟨⟨rfl, rfl, rfl, Nat.le_refl _, fun _ _ => rfl⟩, fun b hb => by cases hb⟩ key
  have : n + (l.toArray.size - n) = l.toArray.size := by omega
  rw [this] at h2
  exact h2

theorem flow_step {k : Nat} {ops : Array Oper} {Q : Act → Prop} {o : Oper} {rest : List Oper} {a : Act} (v : Value) (hkm : (k == m) = false) (hkq : (k == q) = false) (hw : Region.wanted o (yielded ops a.tmps) = true)
    (h : ∀ s w, R s w → runsTo P o a w (fun u w' => u = v ∧ R s w')) (hk : wpFlow P ops R m q d Q (k + 1) rest (a.put o.dst v)) : wpFlow P ops R m q d Q k (o :: rest) a :=
  ⟨v, by unfold YieldsR; rw [if_neg (by simpa using hkm), if_neg (by simpa using hkq), if_pos hw]; exact h, hk⟩
theorem flow_skip {k : Nat} {ops : Array Oper} {Q : Act → Prop} {o : Oper} {rest : List Oper} {a : Act} (hkm : (k == m) = false) (hkq : (k == q) = false) (hw : Region.wanted o (yielded ops a.tmps) = false)
    (hk : wpFlow P ops R m q d Q (k + 1) rest (a.put o.dst undef)) : wpFlow P ops R m q d Q k (o :: rest) a :=
  ⟨undef, by unfold YieldsR; rw [if_neg (by simpa using hkm), if_neg (by simpa using hkq), if_neg (by rw [hw]; simp)], hk⟩
/-- The operation that makes the block. -/
theorem flow_make {k : Nat} {ops : Array Oper} {Q : Act → Prop} {o : Oper} {rest : List Oper} {a : Act} (hkm : (k == m) = true)
    (hk : wpFlow P ops R m q d Q (k + 1) rest (a.put o.dst undef)) : wpFlow P ops R m q d Q k (o :: rest) a :=
  ⟨undef, by unfold YieldsR; rw [if_pos (by simpa using hkm)], hk⟩
/-- The operation that stores into it. -/
theorem flow_store {k : Nat} {ops : Array Oper} {Q : Act → Prop} {o : Oper} {rest : List Oper} {a : Act} (hkm : (k == m) = false) (hkq : (k == q) = true) (hg : o.guard = none)
    (h : ∀ b w, R (some (b, false)) w → runsTo P o (a.put (some d) (ptr b)) w (fun _ w' => R (some (b, true)) w'))
    (hk : wpFlow P ops R m q d Q (k + 1) rest (a.put o.dst undef)) : wpFlow P ops R m q d Q k (o :: rest) a :=
  ⟨undef, by unfold YieldsR; rw [if_neg (by simpa using hkm), if_pos (by simpa using hkq)]; exact ⟨rfl, hg, h⟩, hk⟩
theorem flow_nil {k : Nat} {ops : Array Oper} {Q : Act → Prop} {a : Act} (h : Q a) : wpFlow P ops R m q d Q k [] a := h
end
end FlowS
end Go.Proofs.YtboknfppecgjmaaGreat
