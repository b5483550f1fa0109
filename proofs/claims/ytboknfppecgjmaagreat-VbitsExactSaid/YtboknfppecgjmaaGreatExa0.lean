/- Part 0 of the proof's texts: Flow, FlowIn, FlowC, FlowX. -/
import Derived.StillTail
import Derived.WalkKit
import Derived.RangeFuncNested
import Derived.RangeFuncBound
import Derived.RangeFuncCalls
import Derived.RangeFuncLeaves
import Derived.Shelf.Abstract
import Derived.OwnWalkIn
import Derived.TacticsInMore
import Derived.LoopNIn
import Derived.LoopIn
set_option maxHeartbeats 16000000
namespace Go.Proofs.YtboknfppecgjmaaGreat
set_option linter.unusedVariables false
set_option linter.unusedSimpArgs false
namespace Flow
section
variable {P : Program} {ops : Array Oper} {md : Region.Mode} {R : World → Prop}
def runsTo (P : Program) (o : Oper) (a : Act) (w : World) (N : Value → World → Prop) : Prop :=
  match (execOp a.eval o).run P w with
  | .ok (.value v) w' => N v w'
  | .ok .skip w' => N undef w'
  | .ok (.enter f args) w' => Calls P f args w' fun e w'' => ∃ v, e = .returned v ∧ N v w''
  | _ => False
theorem runsTo_mono {o : Oper} {a : Act} {w : World} {N N' : Value → World → Prop} (h : ∀ v w, N v w → N' v w) (hh : runsTo P o a w N) : runsTo P o a w N' := by
  unfold runsTo at *
  split at hh <;> first | exact h _ _ hh | exact hh.mono (fun _ _ ⟨v, hv, hn⟩ => ⟨v, hv, h _ _ hn⟩) | exact hh.elim
def YieldsR (P : Program) (ops : Array Oper) (R : World → Prop) (o : Oper) (v : Value) (a : Act) : Prop :=
  if Region.wanted o (yielded ops a.tmps) then ∀ w, R w → runsTo P o a w (fun u w' => u = v ∧ R w') else v = undef
theorem YieldsR.of_same {o : Oper} {v : Value} {a a' : Act} (hy : YieldsR P ops R o v a) (he : execOp a'.eval o = execOp a.eval o)
    (hw : Region.wanted o (yielded ops a'.tmps) = Region.wanted o (yielded ops a.tmps)) : YieldsR P ops R o v a' := by
  unfold YieldsR runsTo at *
  rw [he, hw]
  exact hy
def wpFlow (P : Program) (ops : Array Oper) (R : World → Prop) (Q : Act → Prop) : List Oper → Act → Prop
  | [], a => Q a
  | o :: rest, a => ∃ v, YieldsR P ops R o v a ∧ wpFlow P ops R Q rest (a.put o.dst v)
def flOp (P : Program) (ops : Array Oper) (R : World → Prop) (i : Nat) (K : Act → Prop) (a : Act) : Prop :=
  match ops[i]? with
  | none => K a
  | some o => ∃ v, YieldsR P ops R o v a ∧ K (a.put o.dst v)
theorem flOp_mono {i : Nat} {a : Act} {K K' : Act → Prop} (h : ∀ a, K a → K' a) (hh : flOp P ops R i K a) : flOp P ops R i K' a := by
  unfold flOp at *
  split at hh
  · exact h _ hh
  · obtain ⟨v, hy, hk⟩ := hh; exact ⟨v, hy, h _ hk⟩
theorem wp_of_runsTo {o : Oper} {a : Act} {w : World} {N : Value → World → Prop} {K' : Act → World → Prop} {Q' : Exit → Act → World → Prop}
    (h : ∀ v w, N v w → K' (a.put o.dst v) w) (hh : runsTo P o a w N) : o.wp P a w K' Q' := by
  unfold runsTo at hh
  unfold Oper.wp
  generalize (execOp a.eval o).run P w = r at *
  cases r with
  | ok n w' =>
    cases n <;> simp only at hh <;> simp only [Oper.upon]
    case value => exact h _ _ hh
    case skip => exact h _ _ hh
    case enter f args => exact hh.mono fun e w'' ⟨v, he, hn⟩ => by subst he; exact h _ _ hn
  | halt x w' => exact hh.elim
theorem wpOp_of_flOp {i : Nat} {a : Act} {w : World} {K : Act → Prop} {K' : Act → World → Prop} {Q' : Exit → Act → World → Prop} (hR : R w)
    (h : ∀ a w, R w → K a → K' a w) (hh : flOp P ops R i K a) : wpOp P ops Q' i K' a w := by
  unfold flOp at hh
  unfold wpOp
  split
  · rename_i ho; simp only [ho] at hh; exact h _ _ hR hh
  · rename_i o ho
    simp only [ho] at hh
    obtain ⟨v, hy, hk⟩ := hh
    unfold YieldsR at hy
    split
    · rename_i hw
      simp only [hw, if_true] at hy
      exact .inl (wp_of_runsTo (fun u w' ⟨hu, hr⟩ => by subst hu; exact h _ _ hr hk) (hy w hR))
    · rename_i hw
      simp only [hw] at hy
      have : v = undef := hy
      subst this
      exact h _ _ hR hk
theorem flOp_put {j : Nat} {oi oj : Oper} {v : Value} (hj : ops[j]? = some oj) (hap : oi.apart ops oj = true)
    (hsi : ∀ cs b, oi.op ≠ .select cs b) (hsj : ∀ cs b, oj.op ≠ .select cs b) {K : Act → Prop} {a : Act}
    (hy : YieldsR P ops R oi v a) (h : flOp P ops R j K (a.put oi.dst v)) :
    flOp P ops R j (fun a' => YieldsR P ops R oi v a' ∧ K (a'.put oi.dst v)) a := by
  obtain ⟨h1, h2, h3⟩ := Oper.apart_spec hap
  unfold flOp at *
  simp only [hj] at *
  obtain ⟨u, hu, hk⟩ := h
  refine ⟨u, hu.of_same (execOp_put oj hsj a oi.dst v h1).symm (wanted_put oj a oi.dst v h1).symm, hy.of_same (execOp_put oi hsi a oj.dst u h3) (wanted_put oi a oj.dst u h3), ?_⟩
  rw [← Act.put_comm a v u h2]; exact hk
def wpAnyL (P : Program) (md : Region.Mode) (ops : Array Oper) (R : World → Prop) (n : Nat) (L : Array Bool → Act → Prop) : Nat → Array Bool → Act → Prop
  | 0, listed, a => L listed a
  | f + 1, listed, a =>
    Region.ready md ops listed ≠ [] ∧ ∀ i ∈ Region.ready md ops listed, i < n ∧ flOp P ops R i (wpAnyL P md ops R n L f (listed.setIfInBounds i true)) a
theorem wpAny_of_head {n g : Nat} {L : Array Bool → Act → Prop} {Q' : Exit → Act → World → Prop} (hL : ∀ listed a w, R w → L listed a → wpAny P md ops Q' g listed a w) :
    ∀ (f : Nat) (listed : Array Bool) (a : Act) (w : World), R w → wpAnyL P md ops R n L f listed a → wpAny P md ops Q' (f + g) listed a w
  | 0, listed, a, w, hR, h => by rw [Nat.zero_add]; exact hL _ _ _ hR h
  | f + 1, listed, a, w, hR, h => by
    rw [show f + 1 + g = (f + g) + 1 by omega]
    exact ⟨fun h0 => absurd h0 h.1, fun i hi => wpOp_of_flOp hR (fun a' w' hR' h' => wpAny_of_head hL f _ a' w' hR' h') (h.2 i hi).2⟩
theorem wpAnyL_first {n i : Nat} {oi : Oper} {v : Value} {L : Array Bool → Act → Prop} (hi : ops[i]? = some oi) (hsel : ∀ (j : Nat) (o : Oper) cs b, ops[j]? = some o → o.op ≠ .select cs b)
    (hs : Region.sinkB md ops n = true) (hc : Region.chainB md ops n = true) (hn : n < ops.size) (hin : i < n)
    (hdone : ∀ listed a, L listed a → ∀ j ∈ Region.ready md ops listed, n ≤ j) :
    ∀ (f : Nat) (listed : Array Bool) (a : Act), HeadInv md ops n listed →
      (∀ j oj, ops[j]? = some oj → j ≠ i → listed.getD j true = false → (∀ e ∈ oj.after, Region.binds md e = true → e.on ≠ i) → oi.apart ops oj = true) →
      i ∈ Region.ready md ops listed → YieldsR P ops R oi v a →
      wpAnyL P md ops R n L f (listed.setIfInBounds i true) (a.put oi.dst v) → wpAnyL P md ops R n L (f + 1) listed a := by
  intro f
  induction f with
  | zero =>
    intro listed a inv _ hr hy H
    have hun := (mem_ready.1 hr).1
    refine ⟨fun h => (by rw [h] at hr; cases hr), fun j hj => ?_⟩
    have hjn : j < n := by
      rcases Nat.lt_or_ge j n with h | h
      · exact h
      · exact absurd hj (tail_waits hs hc hn inv _ i rfl hin hun j h)
    refine ⟨hjn, ?_⟩
    by_cases hji : j = i
    · subst hji; unfold flOp; simp only [hi]; exact ⟨v, hy, H⟩
    · have := hdone _ _ H j (ready_mono hj hji)
      omega
  | succ f ih =>
    intro listed a inv hfree hr hy H
    have hun := (mem_ready.1 hr).1
    refine ⟨fun h => (by rw [h] at hr; cases hr), fun j hj => ?_⟩
    have hjn : j < n := by
      rcases Nat.lt_or_ge j n with h | h
      · exact h
      · exact absurd hj (tail_waits hs hc hn inv _ i rfl hin hun j h)
    refine ⟨hjn, ?_⟩
    by_cases hji : j = i
    · subst hji; unfold flOp; simp only [hi]; exact ⟨v, hy, H⟩
    · have h1 := (H.2 j (ready_mono hj hji)).2
      obtain ⟨hjun, oj, hoj, hall⟩ := mem_ready.1 hj
      have hnot : ∀ e ∈ oj.after, Region.binds md e = true → e.on ≠ i := fun e he hb heq => by
        have h1 := hall e he hb
        rw [heq, getD_both hun] at h1
        cases h1
      have h2 := flOp_put hoj (hfree j oj hoj hji hjun hnot) (fun cs b => hsel i oi cs b hi) (fun cs b => hsel j oj cs b hoj) hy h1
      have hfree' : ∀ k ok, ops[k]? = some ok → k ≠ i → (listed.setIfInBounds j true).getD k true = false →
          (∀ e ∈ ok.after, Region.binds md e = true → e.on ≠ i) → oi.apart ops ok = true := fun k ok hk hki hun hno => by
        refine hfree k ok hk hki ?_ hno
        by_cases hjk : j = k
        · subst hjk; exact hjun
        · rw [getD_set_ne true hjk] at hun; exact hun
      refine flOp_mono (fun a' h3 => ih (listed.setIfInBounds j true) a' (inv.set hj hjn) hfree' (ready_mono hr (Ne.symm hji)) h3.1 ?_) h2
      rw [Array.setIfInBounds_comm _ _ hji]
      exact h3.2
theorem wpAnyL_lex {n g : Nat} {Lq : Act → Prop} (hsel : Region.noSelect ops = true) (hs : Region.sinkB md ops n = true) (hc : Region.chainB md ops n = true) (hn : n < ops.size) :
    ∀ (l : List Oper) (k : Nat) (listed : Array Bool) (a : Act), (∀ j, j < l.length → l[j]? = ops[k + j]?) → k + l.length = n → HeadInv md ops n listed →
    Region.lexHead md ops g l.length k listed = true → wpFlow P ops R Lq l a →
    wpAnyL P md ops R n (fun listed' a' => Region.seqB md ops g n listed' = true ∧ Lq a') l.length listed a
  | [], k, listed, a, _, hk, _, hB, h => by
    have : k = n := by simpa using hk
    subst this
    exact ⟨by simpa [Region.lexHead] using hB, h⟩
  | o :: l, k, listed, a, hl, hk, inv, hB, h => by
    have h0 : ops[k]? = some o := by simpa using (hl 0 (by simp)).symm
    simp only [List.length_cons, Region.lexHead, Bool.and_eq_true] at hB
    obtain ⟨⟨hr, hf⟩, hB'⟩ := hB
    have hkn : k < n := by simp only [List.length_cons] at hk; omega
    have hr' : k ∈ Region.ready md ops listed := by simpa using hr
    obtain ⟨v, hy, hK⟩ := h
    exact wpAnyL_first h0 (Region.noSelect_spec hsel) hs hc hn hkn (fun listed' a' hL => seqB_ready hL.1) l.length listed a inv (Region.free_spec h0 hf) hr' hy
      (wpAnyL_lex hsel hs hc hn l (k + 1) _ _ (fun j hj => by have := hl (j + 1) (by simp; omega); simpa [Nat.add_assoc, Nat.add_comm 1 j] using this) (by simp only [List.length_cons] at hk; omega) (inv.set hr' hkn) hB' hK)
theorem wp_region_flow {id : Nat} {Q : Exit → Act → World → Prop} {a : Act} {w : World} {l : List Oper} (R : World → Prop) (n : Nat) (hm : P.follows .mixedOrders = true) (hB : Region.lexTailB .any l.toArray n = true)
    (hR : R { w with drawn := w.drawn + 1 })
    (h : wpFlow P l.toArray R (fun a' => ∀ w', R w' → wpList P l.toArray Q (l.drop n) a' w') (l.take n) a) : (Code.region id l.toArray true).wp P Q a w := by
  simp only [Region.lexTailB, Bool.and_eq_true, decide_eq_true_eq] at hB
  obtain ⟨⟨⟨⟨hsel, hn⟩, hs⟩, hc⟩, hlex⟩ := hB
  have hn' : n < l.length := by simpa using hn
  have htl : (l.take n).length = n := by simp; omega
  have hdl : (l.drop n).length = l.toArray.size - n := by simp
  have inv0 : HeadInv .any l.toArray n (Array.replicate l.toArray.size false) :=
    ⟨by simp, fun j oj _ hl => (by rw [getD_replicate_false] at hl; cases hl), fun t _ ht => getD_in (by simpa using ht) (getD_replicate_false _ _)⟩
  refine wp_region_any hm ?_
  have key := wpAnyL_lex (P := P) (R := R) (g := l.toArray.size - n) (md := .any) hsel hs hc hn (l.take n) 0 (Array.replicate l.toArray.size false) a
    (fun j hj => by rw [List.getElem?_take, if_pos (by omega)]; simp) (by omega) inv0 (by rw [htl]; exact hlex) h
  rw [htl] at key
  have h2 := wpAny_of_head (P := P) (R := R) (md := .any) (ops := l.toArray) (g := l.toArray.size - n) (Q' := Q)
    (L := fun listed' a' => Region.seqB .any l.toArray (l.toArray.size - n) n listed' = true ∧ ∀ w', R w' → wpList P l.toArray Q (l.drop n) a' w')
    (fun listed' a' w' hR' hL => by
      have := wpAny_of_seq (P := P) (md := .any) (ops := l.toArray) (Q' := Q) (l.drop n) n listed' a' w' (fun j => by simp) (by rw [hdl]; exact hL.1) (hL.2 w' hR')
      rwa [hdl] at this) n _ _ _ hR key
  have : n + (l.toArray.size - n) = l.toArray.size := by omega
  rwa [this] at h2
theorem flow_step {ops : Array Oper} {Q : Act → Prop} {o : Oper} {rest : List Oper} {a : Act} (v : Value) (hw : Region.wanted o (yielded ops a.tmps) = true)
    (h : ∀ w, R w → runsTo P o a w (fun u w' => u = v ∧ R w')) (hk : wpFlow P ops R Q rest (a.put o.dst v)) : wpFlow P ops R Q (o :: rest) a :=
  ⟨v, by unfold YieldsR; rw [if_pos hw]; exact h, hk⟩
theorem flow_skip {ops : Array Oper} {Q : Act → Prop} {o : Oper} {rest : List Oper} {a : Act} (hw : Region.wanted o (yielded ops a.tmps) = false)
    (hk : wpFlow P ops R Q rest (a.put o.dst undef)) : wpFlow P ops R Q (o :: rest) a :=
  ⟨undef, by unfold YieldsR; rw [if_neg (by rw [hw]; simp)], hk⟩
theorem flow_nil {ops : Array Oper} {Q : Act → Prop} {a : Act} (h : Q a) : wpFlow P ops R Q [] a := h
theorem bcell {W w1 : World} (hb : RowKit.Below W.heap.size W w1) : (∀ b o, b < W.heap.size → w1.cell? ⟨b, o, none⟩ = W.cell? ⟨b, o, none⟩) ∧ (∀ b o, b < W.heap.size → w1.frozen? ⟨b, o, none⟩ = W.frozen? ⟨b, o, none⟩) :=
  ⟨fun b o h => hb.cell (p := ⟨b, o, none⟩) h, fun b o h => hb.frozen (p := ⟨b, o, none⟩) h⟩
theorem wp_region_below {id : Nat} {Q : Exit → Act → World → Prop} {a : Act} {w : World} {l : List Oper} (n : Nat) (hm : P.follows .mixedOrders = true) (hB : Region.lexTailB .any l.toArray n = true)
    (h : ∀ R : World → Prop, RowKit.Hid (∀ w', R w' → ∀ b o, b < w.heap.size → w'.cell? ⟨b, o, none⟩ = w.cell? ⟨b, o, none⟩) → RowKit.Hid (∀ w' w'', R w' → RowKit.Below w'.heap.size w' w'' → R w'') →
      wpFlow P l.toArray R (fun a' => ∀ w', RowKit.Below w.heap.size w w' → wpList P l.toArray Q (l.drop n) a' w') (l.take n) a) : (Code.region id l.toArray true).wp P Q a w := by
  refine wp_region_flow (fun w' => RowKit.Below w.heap.size w w') n hm hB ⟨rfl, rfl, rfl, Nat.le_refl _, fun _ _ => rfl⟩ (h _ (fun w' hw' => (bcell hw').1) (fun w' w'' h1 h2 => h1.trans (h2.mono h1.size)))
theorem zs1 {a b : Nat} (h : a + 1 ≤ b) : a < b := by omega
theorem zs2 {a b : Nat} (h : a + 2 ≤ b) : a < b ∧ a + 1 < b := by omega
theorem zs3 {a b : Nat} (h : a + 3 ≤ b) : a < b ∧ a + 1 < b ∧ a + 1 + 1 < b := by omega
theorem zs4 {a b : Nat} (h : a + 4 ≤ b) : a < b ∧ a + 1 < b ∧ a + 1 + 1 < b ∧ a + 1 + 1 + 1 < b := by omega
theorem zs5 {a b : Nat} (h : a + 5 ≤ b) : a < b ∧ a + 1 < b ∧ a + 1 + 1 < b ∧ a + 1 + 1 + 1 < b ∧ a + 1 + 1 + 1 + 1 < b := by omega
theorem zs7 {a b : Nat} (h : a + 7 ≤ b) : a < b ∧ a + 1 < b ∧ a + 1 + 1 < b ∧ a + 1 + 1 + 1 < b ∧ a + 1 + 1 + 1 + 1 < b ∧ a + 1 + 1 + 1 + 1 + 1 < b ∧ a + 1 + 1 + 1 + 1 + 1 + 1 < b := by omega
theorem zs9 {a b : Nat} (h : a + 9 ≤ b) : a < b ∧ a + 1 < b ∧ a + 1 + 1 < b ∧ a + 1 + 1 + 1 < b ∧ a + 1 + 1 + 1 + 1 < b ∧ a + 1 + 1 + 1 + 1 + 1 < b ∧ a + 1 + 1 + 1 + 1 + 1 + 1 < b ∧ a + 1 + 1 + 1 + 1 + 1 + 1 + 1 < b ∧ a + 1 + 1 + 1 + 1 + 1 + 1 + 1 + 1 < b := by omega
theorem bodyPost_k {P : Program} {fn : Func} {R : Ending → World → Prop} {a : Act} {w : World} (hd : a.defers = [])
    (h : ∀ K : Value → Prop, (∀ v, R (.returned v) w → K v) → match (results fn a.tmps).run P w with | .ok v w' => w' = w ∧ K v | _ => False) : bodyPost P fn R .ret a w := by
  have h1 := h (fun v => R (.returned v) w) (fun _ h => h)
  split at h1
  · rename_i v w' hr; obtain ⟨rfl, h2⟩ := h1; exact ⟨hd, v, hr, h2⟩
  · exact h1.elim
attribute [go_sem] runsTo
end
end Flow
end Go.Proofs.YtboknfppecgjmaaGreat
namespace Go.Proofs.YtboknfppecgjmaaGreat
set_option linter.unusedVariables false
set_option linter.unusedSimpArgs false
namespace Flow
open Go.Shelf
section
variable {P : Program} {ops : Array Oper} {md : Region.Mode} {R : World → Prop} {F : Fence} {n : Nat}
def Open (F : Fence) : Prop := F.plain = Fence.wide
theorem Open.fn {F : Fence} (h : Open F) (f : FuncId) : F.fn f := by
  have : F.plain.fn f := by rw [h]; trivial
  exact this
theorem Open.depth {F : Fence} (h : Open F) : F.depth = none := by
  have : F.plain.depth = none := by rw [h]; rfl
  exact this
theorem Open.calls {F : Fence} (h : Open F) {n : Nat} {f : FuncId} {args : Array Value} {w : World} {R : Ending → World → Prop} (hc : Calls P f args w R) : CallsIn F n P f args w R := by
  have h1 : CallsIn F.plain n P f args w R := by rw [h]; exact callsIn_wide.2 hc
  exact h1
theorem open_wide : Open Fence.wide := rfl
theorem open_round (l : Nat) : Open (Fence.wide.inRound l) := rfl
def noDefer (ops : Array Oper) : Bool := ops.all fun o => match o.op with | .defer _ => false | _ => true
theorem noDefer_spec (h : noDefer ops = true) (j : Nat) (o : Oper) (c : Call) (ho : ops[j]? = some o) : o.op ≠ .defer c := by
  intro heq
  have := Array.all_eq_true_iff_forall_mem.1 h o (Array.mem_of_getElem? ho)
  simp [heq] at this
theorem wpIn_of_runsTo (hF : Open F) {o : Oper} {a : Act} {w : World} {N : Value → World → Prop} {K' : Act → World → Prop} {Q' : Exit → Act → World → Prop} (hd : ∀ c, o.op ≠ .defer c)
    (h : ∀ v w, N v w → K' (a.put o.dst v) w) (hh : runsTo P o a w N) : o.wpIn F n P a w K' Q' := by
  refine ⟨fun f _ => hF.fn f, ?_⟩
  rw [Oper.semAt_eq _ _ _ hd]
  unfold runsTo at hh
  generalize (execOp a.eval o).run P w = r at *
  cases r with
  | ok x w' =>
    cases x <;> simp only at hh <;> simp only [Oper.uponIn]
    case value => exact h _ _ hh
    case skip => exact h _ _ hh
    case enter f args => exact ⟨by rw [hF.depth]; simp, hF.calls (hh.mono fun e w'' ⟨v, he, hn⟩ => by subst he; exact h _ _ hn)⟩
  | halt x w' => exact hh.elim
theorem wpOpIn_of_flOp (hF : Open F) (hnd : noDefer ops = true) {i : Nat} {a : Act} {w : World} {K : Act → Prop} {K' : Act → World → Prop} {Q' : Exit → Act → World → Prop} (hR : R w)
    (h : ∀ a w, R w → K a → K' a w) (hh : flOp P ops R i K a) : wpOpIn F n P ops Q' i K' a w := by
  unfold flOp at hh
  unfold wpOpIn
  split
  · rename_i ho; simp only [ho] at hh; exact h _ _ hR hh
  · rename_i o ho
    simp only [ho] at hh
    obtain ⟨v, hy, hk⟩ := hh
    unfold YieldsR at hy
    split
    · rename_i hw
      simp only [hw, if_true] at hy
      exact wpIn_of_runsTo hF (fun c => noDefer_spec hnd i o c ho) (fun u w' ⟨hu, hr⟩ => by subst hu; exact h _ _ hr hk) (hy w hR)
    · rename_i hw
      simp only [hw] at hy
      have : v = undef := hy
      subst this
      exact ⟨fun f _ => hF.fn f, h _ _ hR hk⟩
theorem wpAnyIn_of_head (hF : Open F) (hnd : noDefer ops = true) {m g : Nat} {L : Array Bool → Act → Prop} {Q' : Exit → Act → World → Prop} (hL : ∀ listed a w, R w → L listed a → wpAnyIn F n P md ops Q' g listed a w) :
    ∀ (f : Nat) (listed : Array Bool) (a : Act) (w : World), R w → wpAnyL P md ops R m L f listed a → wpAnyIn F n P md ops Q' (f + g) listed a w
  | 0, listed, a, w, hR, h => by rw [Nat.zero_add]; exact hL _ _ _ hR h
  | f + 1, listed, a, w, hR, h => by
    rw [show f + 1 + g = (f + g) + 1 by omega]
    exact ⟨fun h0 => absurd h0 h.1, fun i hi => wpOpIn_of_flOp hF hnd hR (fun a' w' hR' h' => wpAnyIn_of_head hF hnd hL f _ a' w' hR' h') (h.2 i hi).2⟩
theorem wpAnyIn_of_seq {Q' : Exit → Act → World → Prop} : ∀ (l : List Oper) (k : Nat) (listed : Array Bool) (a : Act) (w : World), (∀ j, l[j]? = ops[k + j]?) →
    Region.seqB md ops l.length k listed = true → wpListIn F n P ops Q' l a w → wpAnyIn F n P md ops Q' l.length listed a w
  | [], _, _, _, _, _, hB, h => ⟨by simpa [Region.seqB] using hB, h⟩
  | o :: l, k, listed, a, w, hl, hB, h => by
    have h0 : ops[k]? = some o := by simpa using (hl 0).symm
    simp only [List.length_cons, Region.seqB, Bool.and_eq_true, decide_eq_true_eq] at hB
    refine ⟨fun h1 => (by rw [hB.1] at h1; cases h1), fun i hi => ?_⟩
    rw [hB.1] at hi
    have hik : i = k := by simpa using hi
    subst hik
    have hw : wpOpIn F n P ops Q' i (wpListIn F n P ops Q' l) a w := by unfold wpOpIn; simp only [h0]; exact h
    exact wpOpIn_mono (fun a' w' h' => wpAnyIn_of_seq l (i + 1) _ a' w' (fun j => by have := hl (j + 1); simpa [Nat.add_assoc, Nat.add_comm 1 j] using this) hB.2 h') hw
theorem wpIn_region_flow (hF : Open F) {id : Nat} {Q : Exit → Act → World → Prop} {a : Act} {w : World} {l : List Oper} (R : World → Prop) (m : Nat) (hm : P.follows .mixedOrders = true) (hB : Region.lexTailB .any l.toArray m = true)
    (hnd : noDefer l.toArray = true) (hR : R { w with drawn := w.drawn + 1 })
    (h : wpFlow P l.toArray R (fun a' => ∀ w', R w' → wpListIn F n P l.toArray Q (l.drop m) a' w') (l.take m) a) : (Code.region id l.toArray true).wpIn F n P Q a w := by
  simp only [Region.lexTailB, Bool.and_eq_true, decide_eq_true_eq] at hB
  obtain ⟨⟨⟨⟨hsel, hn⟩, hs⟩, hc⟩, hlex⟩ := hB
  have hn' : m < l.length := by simpa using hn
  have htl : (l.take m).length = m := by simp; omega
  have hdl : (l.drop m).length = l.toArray.size - m := by simp
  have inv0 : HeadInv .any l.toArray m (Array.replicate l.toArray.size false) :=
    ⟨by simp, fun j oj _ hl => (by rw [getD_replicate_false] at hl; cases hl), fun t _ ht => getD_in (by simpa using ht) (getD_replicate_false _ _)⟩
  refine wpIn_region_any hm ?_
  have key := wpAnyL_lex (P := P) (R := R) (g := l.toArray.size - m) (md := .any) hsel hs hc hn (l.take m) 0 (Array.replicate l.toArray.size false) a
    (fun j hj => by rw [List.getElem?_take, if_pos (by omega)]; simp) (by omega) inv0 (by rw [htl]; exact hlex) h
  rw [htl] at key
  have h2 := wpAnyIn_of_head (P := P) (R := R) (md := .any) (n := n) hF hnd (ops := l.toArray) (g := l.toArray.size - m) (Q' := Q)
    (L := fun listed' a' => Region.seqB .any l.toArray (l.toArray.size - m) m listed' = true ∧ ∀ w', R w' → wpListIn F n P l.toArray Q (l.drop m) a' w')
    (fun listed' a' w' hR' hL => by
      have := wpAnyIn_of_seq (F := F) (n := n) (P := P) (md := .any) (ops := l.toArray) (Q' := Q) (l.drop m) m listed' a' w' (fun j => by simp) (by rw [hdl]; exact hL.1) (hL.2 w' hR')
      rwa [hdl] at this) m _ _ _ hR key
  have : m + (l.toArray.size - m) = l.toArray.size := by omega
  rwa [this] at h2
theorem wpIn_region_below (hF : Open F) {id : Nat} {Q : Exit → Act → World → Prop} {a : Act} {w : World} {l : List Oper} (m : Nat) (hm : P.follows .mixedOrders = true) (hB : Region.lexTailB .any l.toArray m = true) (hnd : noDefer l.toArray = true)
    (h : ∀ R : World → Prop, RowKit.Hid (∀ w', R w' → ∀ b o, b < w.heap.size → w'.cell? ⟨b, o, none⟩ = w.cell? ⟨b, o, none⟩) → RowKit.Hid (∀ w' w'', R w' → RowKit.Below w'.heap.size w' w'' → R w'') →
      wpFlow P l.toArray R (fun a' => ∀ w', RowKit.Below w.heap.size w w' → wpListIn F n P l.toArray Q (l.drop m) a' w') (l.take m) a) : (Code.region id l.toArray true).wpIn F n P Q a w := by
  refine wpIn_region_flow hF (fun w' => RowKit.Below w.heap.size w w') m hm hB hnd ⟨rfl, rfl, rfl, Nat.le_refl _, fun _ _ => rfl⟩ (h _ (fun w' hw' => (bcell hw').1) (fun w' w'' h1 h2 => h1.trans (h2.mono h1.size)))
end
end Flow
end Go.Proofs.YtboknfppecgjmaaGreat
namespace Go.Proofs.YtboknfppecgjmaaGreat
set_option linter.unusedVariables false
set_option linter.unusedSimpArgs false
namespace FlowC
open Flow
section
variable {P : Program} {ops : Array Oper} {md : Region.Mode} {R : Bool → World → Prop}
def YieldsR (P : Program) (ops : Array Oper) (R : Bool → World → Prop) (i : Nat) (o : Oper) (v : Value) (a : Act) : Prop :=
  if Region.wanted o (yielded ops a.tmps) then ∀ b w, (i = 0 → b = false) → R b w → runsTo P o a w (fun u w' => u = v ∧ R (b || i == 0) w') else v = undef ∧ i ≠ 0
theorem YieldsR.of_same {i : Nat} {o : Oper} {v : Value} {a a' : Act} (hy : YieldsR P ops R i o v a) (he : execOp a'.eval o = execOp a.eval o)
    (hw : Region.wanted o (yielded ops a'.tmps) = Region.wanted o (yielded ops a.tmps)) : YieldsR P ops R i o v a' := by
  unfold YieldsR runsTo at *
  rw [he, hw]
  exact hy
def wpFlow (P : Program) (ops : Array Oper) (R : Bool → World → Prop) (Q : Act → Prop) : Nat → List Oper → Act → Prop
  | _, [], a => Q a
  | k, o :: rest, a => ∃ v, YieldsR P ops R k o v a ∧ wpFlow P ops R Q (k + 1) rest (a.put o.dst v)
def flOp (P : Program) (ops : Array Oper) (R : Bool → World → Prop) (i : Nat) (K : Act → Prop) (a : Act) : Prop :=
  match ops[i]? with
  | none => K a
  | some o => ∃ v, YieldsR P ops R i o v a ∧ K (a.put o.dst v)
theorem flOp_mono {i : Nat} {a : Act} {K K' : Act → Prop} (h : ∀ a, K a → K' a) (hh : flOp P ops R i K a) : flOp P ops R i K' a := by
  unfold flOp at *
  split at hh
  · exact h _ hh
  · obtain ⟨v, hy, hk⟩ := hh; exact ⟨v, hy, h _ hk⟩
theorem wpOp_of_flOp {i : Nat} {b : Bool} {a : Act} {w : World} {K : Act → Prop} {K' : Act → World → Prop} {Q' : Exit → Act → World → Prop} (hio : i < ops.size) (hib : i = 0 → b = false) (hR : R b w)
    (h : ∀ a w, R (b || i == 0) w → K a → K' a w) (hh : flOp P ops R i K a) : wpOp P ops Q' i K' a w := by
  unfold flOp at hh
  unfold wpOp
  split
  · rename_i ho; rw [Array.getElem?_eq_getElem hio] at ho; cases ho
  · rename_i o ho
    simp only [ho] at hh
    obtain ⟨v, hy, hk⟩ := hh
    unfold YieldsR at hy
    split
    · rename_i hw
      simp only [hw, if_true] at hy
      exact .inl (wp_of_runsTo (fun u w' ⟨hu, hr⟩ => by subst hu; exact h _ _ hr hk) (hy b w hib hR))
    · rename_i hw
      simp only [hw] at hy
      have h2 : v = undef ∧ i ≠ 0 := hy
      obtain ⟨h3, h4⟩ := h2
      subst h3
      have h5 : (b || i == 0) = b := by simp [h4]
      rw [h5] at h
      exact h _ _ hR hk
theorem flOp_put {i j : Nat} {oi oj : Oper} {v : Value} (hj : ops[j]? = some oj) (hap : oi.apart ops oj = true)
    (hsi : ∀ cs b, oi.op ≠ .select cs b) (hsj : ∀ cs b, oj.op ≠ .select cs b) {K : Act → Prop} {a : Act}
    (hy : YieldsR P ops R i oi v a) (h : flOp P ops R j K (a.put oi.dst v)) :
    flOp P ops R j (fun a' => YieldsR P ops R i oi v a' ∧ K (a'.put oi.dst v)) a := by
  obtain ⟨h1, h2, h3⟩ := Oper.apart_spec hap
  unfold flOp at *
  simp only [hj] at *
  obtain ⟨u, hu, hk⟩ := h
  refine ⟨u, hu.of_same (execOp_put oj hsj a oi.dst v h1).symm (wanted_put oj a oi.dst v h1).symm, hy.of_same (execOp_put oi hsi a oj.dst u h3) (wanted_put oi a oj.dst u h3), ?_⟩
  rw [← Act.put_comm a v u h2]; exact hk
def wpAnyL (P : Program) (md : Region.Mode) (ops : Array Oper) (R : Bool → World → Prop) (n : Nat) (L : Array Bool → Act → Prop) : Nat → Array Bool → Act → Prop
  | 0, listed, a => L listed a
  | f + 1, listed, a =>
    Region.ready md ops listed ≠ [] ∧ ∀ i ∈ Region.ready md ops listed, i < n ∧ flOp P ops R i (wpAnyL P md ops R n L f (listed.setIfInBounds i true)) a
theorem set0 {listed : Array Bool} {i : Nat} (hi : listed.getD i true = false) : (listed.setIfInBounds i true).getD 0 false = (listed.getD 0 false || i == 0) := by
  by_cases h : i = 0
  · subst h
    have hs : 0 < listed.size := by
      rcases Nat.lt_or_ge 0 listed.size with h' | h'
      · exact h'
      · rw [Array.getD_eq_getD_getElem?, Array.getElem?_eq_none h'] at hi; cases hi
    simp [Array.getD_eq_getD_getElem?, hs]
  · have e1 : (listed.setIfInBounds i true).getD 0 false = listed.getD 0 false := by simp [Array.getD_eq_getD_getElem?, Array.getElem?_setIfInBounds, h]
    rw [e1]; simp [h]
theorem wpAny_of_head {n g : Nat} {L : Array Bool → Act → Prop} {Q' : Exit → Act → World → Prop} (hn : n < ops.size) (hL : ∀ listed a w, R (listed.getD 0 false) w → L listed a → wpAny P md ops Q' g listed a w) :
    ∀ (f : Nat) (listed : Array Bool) (a : Act) (w : World), R (listed.getD 0 false) w → wpAnyL P md ops R n L f listed a → wpAny P md ops Q' (f + g) listed a w
  | 0, listed, a, w, hR, h => by rw [Nat.zero_add]; exact hL _ _ _ hR h
  | f + 1, listed, a, w, hR, h => by
    rw [show f + 1 + g = (f + g) + 1 by omega]
    exact ⟨fun h0 => absurd h0 h.1, fun i hi => wpOp_of_flOp (b := listed.getD 0 false) (Nat.lt_trans (h.2 i hi).1 hn) (fun h0 => by subst h0; exact getD_both (mem_ready.1 hi).1) hR
      (fun a' w' hR' h' => wpAny_of_head hn hL f _ a' w' (by rw [set0 (mem_ready.1 hi).1]; exact hR') h') (h.2 i hi).2⟩
theorem wpAnyL_first {n i : Nat} {oi : Oper} {v : Value} {L : Array Bool → Act → Prop} (hi : ops[i]? = some oi) (hsel : ∀ (j : Nat) (o : Oper) cs b, ops[j]? = some o → o.op ≠ .select cs b)
    (hs : Region.sinkB md ops n = true) (hc : Region.chainB md ops n = true) (hn : n < ops.size) (hin : i < n)
    (hdone : ∀ listed a, L listed a → ∀ j ∈ Region.ready md ops listed, n ≤ j) :
    ∀ (f : Nat) (listed : Array Bool) (a : Act), HeadInv md ops n listed →
      (∀ j oj, ops[j]? = some oj → j ≠ i → listed.getD j true = false → (∀ e ∈ oj.after, Region.binds md e = true → e.on ≠ i) → oi.apart ops oj = true) →
      i ∈ Region.ready md ops listed → YieldsR P ops R i oi v a →
      wpAnyL P md ops R n L f (listed.setIfInBounds i true) (a.put oi.dst v) → wpAnyL P md ops R n L (f + 1) listed a := by
  intro f
  induction f with
  | zero =>
    intro listed a inv _ hr hy H
    have hun := (mem_ready.1 hr).1
    refine ⟨fun h => (by rw [h] at hr; cases hr), fun j hj => ?_⟩
    have hjn : j < n := by
      rcases Nat.lt_or_ge j n with h | h
      · exact h
      · exact absurd hj (tail_waits hs hc hn inv _ i rfl hin hun j h)
    refine ⟨hjn, ?_⟩
    by_cases hji : j = i
    · subst hji; unfold flOp; simp only [hi]; exact ⟨v, hy, H⟩
    · have := hdone _ _ H j (ready_mono hj hji)
      omega
  | succ f ih =>
    intro listed a inv hfree hr hy H
    have hun := (mem_ready.1 hr).1
    refine ⟨fun h => (by rw [h] at hr; cases hr), fun j hj => ?_⟩
    have hjn : j < n := by
      rcases Nat.lt_or_ge j n with h | h
      · exact h
      · exact absurd hj (tail_waits hs hc hn inv _ i rfl hin hun j h)
    refine ⟨hjn, ?_⟩
    by_cases hji : j = i
    · subst hji; unfold flOp; simp only [hi]; exact ⟨v, hy, H⟩
    · have h1 := (H.2 j (ready_mono hj hji)).2
      obtain ⟨hjun, oj, hoj, hall⟩ := mem_ready.1 hj
      have hnot : ∀ e ∈ oj.after, Region.binds md e = true → e.on ≠ i := fun e he hb heq => by
        have h1 := hall e he hb
        rw [heq, getD_both hun] at h1
        cases h1
      have h2 := flOp_put hoj (hfree j oj hoj hji hjun hnot) (fun cs b => hsel i oi cs b hi) (fun cs b => hsel j oj cs b hoj) hy h1
      have hfree' : ∀ k ok, ops[k]? = some ok → k ≠ i → (listed.setIfInBounds j true).getD k true = false →
          (∀ e ∈ ok.after, Region.binds md e = true → e.on ≠ i) → oi.apart ops ok = true := fun k ok hk hki hun hno => by
        refine hfree k ok hk hki ?_ hno
        by_cases hjk : j = k
        · subst hjk; exact hjun
        · rw [getD_set_ne true hjk] at hun; exact hun
      refine flOp_mono (fun a' h3 => ih (listed.setIfInBounds j true) a' (inv.set hj hjn) hfree' (ready_mono hr (Ne.symm hji)) h3.1 ?_) h2
      rw [Array.setIfInBounds_comm _ _ hji]
      exact h3.2
theorem wpAnyL_lex {n g : Nat} {Lq : Act → Prop} (hsel : Region.noSelect ops = true) (hs : Region.sinkB md ops n = true) (hc : Region.chainB md ops n = true) (hn : n < ops.size) (hn0 : 0 < n) :
    ∀ (l : List Oper) (k : Nat) (listed : Array Bool) (a : Act), (∀ j, j < l.length → l[j]? = ops[k + j]?) → k + l.length = n → HeadInv md ops n listed → (0 < k → listed.getD 0 false = true) →
    Region.lexHead md ops g l.length k listed = true → wpFlow P ops R Lq k l a →
    wpAnyL P md ops R n (fun listed' a' => Region.seqB md ops g n listed' = true ∧ listed'.getD 0 false = true ∧ Lq a') l.length listed a
  | [], k, listed, a, _, hk, _, hz, hB, h => by
    have : k = n := by simpa using hk
    subst this
    exact ⟨by simpa [Region.lexHead] using hB, hz hn0, h⟩
  | o :: l, k, listed, a, hl, hk, inv, hz, hB, h => by
    have h0 : ops[k]? = some o := by simpa using (hl 0 (by simp)).symm
    simp only [List.length_cons, Region.lexHead, Bool.and_eq_true] at hB
    obtain ⟨⟨hr, hf⟩, hB'⟩ := hB
    have hkn : k < n := by simp only [List.length_cons] at hk; omega
    have hr' : k ∈ Region.ready md ops listed := by simpa using hr
    obtain ⟨v, hy, hK⟩ := h
    exact wpAnyL_first h0 (Region.noSelect_spec hsel) hs hc hn hkn (fun listed' a' hL => seqB_ready hL.1) l.length listed a inv (Region.free_spec h0 hf) hr' hy
      (wpAnyL_lex hsel hs hc hn hn0 l (k + 1) _ _ (fun j hj => by have := hl (j + 1) (by simp; omega); simpa [Nat.add_assoc, Nat.add_comm 1 j] using this) (by simp only [List.length_cons] at hk; omega) (inv.set hr' hkn)
        (fun _ => by
          rw [set0 (mem_ready.1 hr').1]
          rcases Nat.eq_zero_or_pos k with h | h
          · simp [h]
          · rw [hz h]; rfl) hB' hK)
theorem wp_region_flow {id : Nat} {Q : Exit → Act → World → Prop} {a : Act} {w : World} {l : List Oper} (R : Bool → World → Prop) (n : Nat) (hn0 : 0 < n) (hm : P.follows .mixedOrders = true) (hB : Region.lexTailB .any l.toArray n = true)
    (hR : R false { w with drawn := w.drawn + 1 })
    (h : wpFlow P l.toArray R (fun a' => ∀ w', R true w' → wpList P l.toArray Q (l.drop n) a' w') 0 (l.take n) a) : (Code.region id l.toArray true).wp P Q a w := by
  simp only [Region.lexTailB, Bool.and_eq_true, decide_eq_true_eq] at hB
  obtain ⟨⟨⟨⟨hsel, hn⟩, hs⟩, hc⟩, hlex⟩ := hB
  have hn' : n < l.length := by simpa using hn
  have htl : (l.take n).length = n := by simp; omega
  have hdl : (l.drop n).length = l.toArray.size - n := by simp
  have inv0 : HeadInv .any l.toArray n (Array.replicate l.toArray.size false) :=
    ⟨by simp, fun j oj _ hl => (by rw [getD_replicate_false] at hl; cases hl), fun t _ ht => getD_in (by simpa using ht) (getD_replicate_false _ _)⟩
  refine wp_region_any hm ?_
  have key := wpAnyL_lex (P := P) (R := R) (g := l.toArray.size - n) (md := .any) hsel hs hc hn hn0 (l.take n) 0 (Array.replicate l.toArray.size false) a
    (fun j hj => by rw [List.getElem?_take, if_pos (by omega)]; simp) (by omega) inv0 (fun h => absurd h (by omega)) (by rw [htl]; exact hlex) h
  rw [htl] at key
  have h2 := wpAny_of_head (P := P) (R := R) (md := .any) (ops := l.toArray) (g := l.toArray.size - n) (Q' := Q) hn
    (L := fun listed' a' => Region.seqB .any l.toArray (l.toArray.size - n) n listed' = true ∧ listed'.getD 0 false = true ∧ ∀ w', R true w' → wpList P l.toArray Q (l.drop n) a' w')
    (fun listed' a' w' hR' hL => by
      rw [hL.2.1] at hR'
      have := wpAny_of_seq (P := P) (md := .any) (ops := l.toArray) (Q' := Q) (l.drop n) n listed' a' w' (fun j => by simp) (by rw [hdl]; exact hL.1) (hL.2.2 w' hR')
      rwa [hdl] at this) n _ _ _ (by rw [getD_replicate_false]; exact hR) key
  have : n + (l.toArray.size - n) = l.toArray.size := by omega
  rwa [this] at h2
theorem wp_region_call {id : Nat} {Q : Exit → Act → World → Prop} {a : Act} {w : World} {l : List Oper} (T : World → Prop) (hT : ∀ w', T w' → RowKit.Below w.heap.size w w') (n : Nat) (hn0 : 0 < n) (hm : P.follows .mixedOrders = true) (hB : Region.lexTailB .any l.toArray n = true)
    (h : ∀ R : Bool → World → Prop, RowKit.Hid (∀ b w', R b w' → ∀ bl o, bl < w.heap.size → w'.cell? ⟨bl, o, none⟩ = w.cell? ⟨bl, o, none⟩) → RowKit.Hid (∀ w', R false w' → w' = { w with drawn := w.drawn + 1 }) → RowKit.Hid (∀ w', T w' → R true w') →
      wpFlow P l.toArray R (fun a' => ∀ w', T w' → wpList P l.toArray Q (l.drop n) a' w') 0 (l.take n) a) : (Code.region id l.toArray true).wp P Q a w := by
  refine wp_region_flow (fun b w' => if b then T w' else w' = { w with drawn := w.drawn + 1 }) n hn0 hm hB rfl (h _ ?_ ?_ ?_)
  · intro b w' hw bl o hbl
    cases b
    · have : w' = { w with drawn := w.drawn + 1 } := hw
      subst this; rfl
    · exact (bcell (hT _ hw)).1 _ _ hbl
  · exact fun w' hw => hw
  · exact fun w' hw => hw
theorem flow_first {ops : Array Oper} {Q : Act → Prop} {o : Oper} {rest : List Oper} {a : Act} (v : Value) (hw : Region.wanted o (yielded ops a.tmps) = true)
    (h : ∀ w, R false w → runsTo P o a w (fun u w' => u = v ∧ R true w')) (hk : wpFlow P ops R Q 1 rest (a.put o.dst v)) : wpFlow P ops R Q 0 (o :: rest) a :=
  ⟨v, by unfold YieldsR; rw [if_pos hw]; exact fun b w hb hR => by rw [hb rfl] at hR ⊢; exact h w hR, hk⟩
theorem flow_step {k : Nat} {ops : Array Oper} {Q : Act → Prop} {o : Oper} {rest : List Oper} {a : Act} (v : Value) (hw : Region.wanted o (yielded ops a.tmps) = true)
    (h : ∀ b w, R b w → runsTo P o a w (fun u w' => u = v ∧ R b w')) (hk : wpFlow P ops R Q (k + 1 + 1) rest (a.put o.dst v)) : wpFlow P ops R Q (k + 1) (o :: rest) a :=
  ⟨v, by unfold YieldsR; rw [if_pos hw]; exact fun b w _ hR => by simpa using h b w hR, hk⟩
theorem flow_nil {k : Nat} {ops : Array Oper} {Q : Act → Prop} {a : Act} (h : Q a) : wpFlow P ops R Q k [] a := h
end
end FlowC
end Go.Proofs.YtboknfppecgjmaaGreat
namespace Go.Proofs.YtboknfppecgjmaaGreat
set_option linter.unusedVariables false
set_option linter.unusedSimpArgs false
namespace FlowX
open Flow
structure Extra where
  St : Type
  R : St → World → Prop
  M : St → Act → Act
  sp : Nat → Bool
  inv : Array Bool → St → Prop
section
variable {P : Program} {ops : Array Oper} {md : Region.Mode} {X : Extra}
def YieldsR (P : Program) (ops : Array Oper) (X : Extra) (o : Oper) (v : Value) (a : Act) : Prop :=
  if Region.wanted o (yielded ops a.tmps) then ∀ s w, X.R s w → runsTo P o a w (fun u w' => u = v ∧ X.R s w') else v = undef
def YieldsS (P : Program) (md : Region.Mode) (ops : Array Oper) (X : Extra) (i : Nat) (o : Oper) (a : Act) : Prop :=
  o.guard = none ∧ ∀ listed s w, i ∈ Region.ready md ops listed → X.inv listed s → X.R s w → runsTo P o (X.M s a) w (fun u w' => ∃ s', X.inv (listed.setIfInBounds i true) s' ∧ X.R s' w' ∧ ∀ a', (X.M s a').put o.dst u = X.M s' a')
def Y (P : Program) (md : Region.Mode) (ops : Array Oper) (X : Extra) (i : Nat) (o : Oper) (v : Value) (a : Act) : Prop := if X.sp i = true then YieldsS P md ops X i o a else YieldsR P ops X o v a
def eff (X : Extra) (i : Nat) (o : Oper) (v : Value) (a : Act) : Act := if X.sp i = true then a else a.put o.dst v
structure Apt (md : Region.Mode) (ops : Array Oper) (X : Extra) (n : Nat) : Prop where
  comm : ∀ j o, ops[j]? = some o → X.sp j = false → ∀ s a v, X.M s (a.put o.dst v) = (X.M s a).put o.dst v
  blind : ∀ j o, j < n → ops[j]? = some o → X.sp j = false → ∀ s a, execOp (X.M s a).eval o = execOp a.eval o ∧ Region.wanted o (yielded ops (X.M s a).tmps) = Region.wanted o (yielded ops a.tmps)
  keep : ∀ i listed s, i < n → i ∈ Region.ready md ops listed → X.sp i = false → X.inv listed s → X.inv (listed.setIfInBounds i true) s
theorem stepS {i : Nat} {o : Oper} {a : Act} (hsel : ∀ cs b, o.op ≠ .select cs b) {x : Option Tmp} {u : Value} (hx : ∀ e, x = some e → e ∉ o.looksAt ops) (hc : ∀ s, X.M s (a.put x u) = (X.M s a).put x u) :
    YieldsS P md ops X i o (a.put x u) ↔ YieldsS P md ops X i o a := by
  have he : ∀ s, execOp (X.M s (a.put x u)).eval o = execOp (X.M s a).eval o := fun s => by rw [hc]; exact execOp_put o hsel (X.M s a) x u hx
  unfold YieldsS runsTo
  simp only [he]
def wpFlow (P : Program) (md : Region.Mode) (ops : Array Oper) (X : Extra) (Q : Act → Prop) : Nat → List Oper → Act → Prop
  | _, [], a => Q a
  | k, o :: rest, a => ∃ v, Y P md ops X k o v a ∧ wpFlow P md ops X Q (k + 1) rest (eff X k o v a)
theorem wpFlow_mono {Q Q' : Act → Prop} (h : ∀ a, Q a → Q' a) : ∀ (k : Nat) (l : List Oper) (a : Act), wpFlow P md ops X Q k l a → wpFlow P md ops X Q' k l a
  | _, [], a, hh => h a hh
  | k, o :: rest, a, ⟨v, hy, hk⟩ => ⟨v, hy, wpFlow_mono h (k + 1) rest _ hk⟩
def flOp (P : Program) (md : Region.Mode) (ops : Array Oper) (X : Extra) (i : Nat) (K : Act → Prop) (a : Act) : Prop :=
  match ops[i]? with
  | none => K a
  | some o => ∃ v, Y P md ops X i o v a ∧ K (eff X i o v a)
theorem flOp_mono {i : Nat} {a : Act} {K K' : Act → Prop} (h : ∀ a, K a → K' a) (hh : flOp P md ops X i K a) : flOp P md ops X i K' a := by
  unfold flOp at *
  split at hh
  · exact h _ hh
  · obtain ⟨v, hy, hk⟩ := hh; exact ⟨v, hy, h _ hk⟩
theorem flOp_put {n i j : Nat} {oi oj : Oper} {v : Value} (A : Apt md ops X n) (hi : ops[i]? = some oi) (hj : ops[j]? = some oj) (hap : oi.apart ops oj = true)
    (hsi : ∀ cs b, oi.op ≠ .select cs b) (hsj : ∀ cs b, oj.op ≠ .select cs b) {K : Act → Prop} {a : Act}
    (hy : Y P md ops X i oi v a) (h : flOp P md ops X j K (eff X i oi v a)) :
    flOp P md ops X j (fun a' => Y P md ops X i oi v a' ∧ K (eff X i oi v a')) a := by
  obtain ⟨h1, h2, h3⟩ := Oper.apart_spec hap
  unfold flOp at *
  simp only [hj] at h ⊢
  obtain ⟨u, hu, hk⟩ := h
  refine ⟨u, ?_⟩
  cases ei : X.sp i <;> cases ej : X.sp j <;> simp only [Y, eff, ei, ej, if_true, if_false, Bool.false_eq_true] at hy hu hk ⊢
  · have e1 := execOp_put oj hsj a oi.dst v h1
    have e2 := wanted_put oj a oi.dst v h1
    have e3 := execOp_put oi hsi a oj.dst u h3
    have e4 := wanted_put oi a oj.dst u h3
    refine ⟨?_, ?_, ?_⟩
    · unfold YieldsR runsTo at *; rw [e1, e2] at hu; exact hu
    · unfold YieldsR runsTo at *; rw [e3, e4]; exact hy
    · rw [← Act.put_comm a v u h2]; exact hk
  · exact ⟨(stepS hsj h1 (fun s => A.comm i oi hi ei s a v)).1 hu, hy, hk⟩
  · exact ⟨hu, (stepS hsi h3 (fun s => A.comm j oj hj ej s a u)).2 hy, hk⟩
  · exact ⟨hu, hy, hk⟩
def wpAnyL (P : Program) (md : Region.Mode) (ops : Array Oper) (X : Extra) (n : Nat) (L : Array Bool → Act → Prop) : Nat → Array Bool → Act → Prop
  | 0, listed, a => L listed a
  | f + 1, listed, a =>
    Region.ready md ops listed ≠ [] ∧ ∀ i ∈ Region.ready md ops listed, i < n ∧ flOp P md ops X i (wpAnyL P md ops X n L f (listed.setIfInBounds i true)) a
theorem wpOp_of_flOp {n i : Nat} (A : Apt md ops X n) {listed : Array Bool} {s : X.St} {a : Act} {w : World} {K : Act → Prop} {K' : Act → World → Prop} {Q' : Exit → Act → World → Prop}
    (hin : i < n) (hio : i < ops.size) (hr : i ∈ Region.ready md ops listed) (hv : X.inv listed s) (hR : X.R s w)
    (h : ∀ a' s' w', X.inv (listed.setIfInBounds i true) s' → X.R s' w' → K a' → K' (X.M s' a') w') (hh : flOp P md ops X i K a) : wpOp P ops Q' i K' (X.M s a) w := by
  unfold flOp at hh
  unfold wpOp
  split
  · rename_i ho; rw [Array.getElem?_eq_getElem hio] at ho; cases ho
  · rename_i o ho
    simp only [ho] at hh
    obtain ⟨v, hy, hk⟩ := hh
    cases ei : X.sp i <;> simp only [Y, eff, ei, if_true, if_false, Bool.false_eq_true] at hy hk
    · obtain ⟨h1, h2⟩ := A.blind i o hin ho ei s a
      rw [h2]
      unfold YieldsR at hy
      split
      · rename_i hw
        simp only [hw, if_true] at hy
        refine .inl (wp_of_runsTo (N := fun u w' => u = v ∧ X.R s w') (fun u w' ⟨hu, hr'⟩ => by
          subst hu; rw [← A.comm i o ho ei]; exact h _ s _ (A.keep i listed s hin hr ei hv) hr' hk) ?_)
        have := hy s w hR
        unfold runsTo at *
        rw [h1]
        exact this
      · rename_i hw
        rw [if_neg hw] at hy
        subst hy
        rw [← A.comm i o ho ei]
        exact h _ s _ (A.keep i listed s hin hr ei hv) hR hk
    · obtain ⟨hg, hrun⟩ := hy
      rw [if_pos (by simp [Region.wanted, hg])]
      exact .inl (wp_of_runsTo (fun u w' ⟨s', h1, h2, h3⟩ => by rw [h3]; exact h _ s' _ h1 h2 hk) (hrun listed s w hr hv hR))
theorem wpAny_of_head2 {n g : Nat} (A : Apt md ops X n) {L : Array Bool → Act → Prop} {Q' : Exit → Act → World → Prop} (hn : n < ops.size)
    (hL : ∀ listed a s w, X.inv listed s → X.R s w → L listed a → wpAny P md ops Q' g listed (X.M s a) w) :
    ∀ (f : Nat) (listed : Array Bool) (a : Act) (s : X.St) (w : World), X.inv listed s → X.R s w → wpAnyL P md ops X n L f listed a → wpAny P md ops Q' (f + g) listed (X.M s a) w
  | 0, listed, a, s, w, hv, hR, h => by rw [Nat.zero_add]; exact hL _ _ _ _ hv hR h
  | f + 1, listed, a, s, w, hv, hR, h => by
    rw [show f + 1 + g = (f + g) + 1 by omega]
    exact ⟨fun h0 => absurd h0 h.1, fun i hi => wpOp_of_flOp A (h.2 i hi).1 (Nat.lt_trans (h.2 i hi).1 hn) hi hv hR (fun a' s' w' h1 h2 h3 => wpAny_of_head2 A hn hL f _ a' s' w' h1 h2 h3) (h.2 i hi).2⟩
theorem wpAnyL_first {n i : Nat} {oi : Oper} {v : Value} {L : Array Bool → Act → Prop} (A : Apt md ops X n) (hi : ops[i]? = some oi) (hsel : ∀ (j : Nat) (o : Oper) cs b, ops[j]? = some o → o.op ≠ .select cs b)
    (hs : Region.sinkB md ops n = true) (hc : Region.chainB md ops n = true) (hn : n < ops.size) (hin : i < n)
    (hdone : ∀ listed a, L listed a → ∀ j ∈ Region.ready md ops listed, n ≤ j) :
    ∀ (f : Nat) (listed : Array Bool) (a : Act), HeadInv md ops n listed →
      (∀ j oj, ops[j]? = some oj → j ≠ i → listed.getD j true = false → (∀ e ∈ oj.after, Region.binds md e = true → e.on ≠ i) → oi.apart ops oj = true) →
      i ∈ Region.ready md ops listed → Y P md ops X i oi v a →
      wpAnyL P md ops X n L f (listed.setIfInBounds i true) (eff X i oi v a) → wpAnyL P md ops X n L (f + 1) listed a := by
  intro f
  induction f with
  | zero =>
    intro listed a inv _ hr hy H
    have hun := (mem_ready.1 hr).1
    refine ⟨fun h => (by rw [h] at hr; cases hr), fun j hj => ?_⟩
    have hjn : j < n := by
      rcases Nat.lt_or_ge j n with h | h
      · exact h
      · exact absurd hj (tail_waits hs hc hn inv _ i rfl hin hun j h)
    refine ⟨hjn, ?_⟩
    by_cases hji : j = i
    · subst hji; unfold flOp; simp only [hi]; exact ⟨v, hy, H⟩
    · have := hdone _ _ H j (ready_mono hj hji)
      omega
  | succ f ih =>
    intro listed a inv hfree hr hy H
    have hun := (mem_ready.1 hr).1
    refine ⟨fun h => (by rw [h] at hr; cases hr), fun j hj => ?_⟩
    have hjn : j < n := by
      rcases Nat.lt_or_ge j n with h | h
      · exact h
      · exact absurd hj (tail_waits hs hc hn inv _ i rfl hin hun j h)
    refine ⟨hjn, ?_⟩
    by_cases hji : j = i
    · subst hji; unfold flOp; simp only [hi]; exact ⟨v, hy, H⟩
    · have h1 := (H.2 j (ready_mono hj hji)).2
      obtain ⟨hjun, oj, hoj, hall⟩ := mem_ready.1 hj
      have hnot : ∀ e ∈ oj.after, Region.binds md e = true → e.on ≠ i := fun e he hb heq => by
        have h1 := hall e he hb
        rw [heq, getD_both hun] at h1
        cases h1
      have h2 := flOp_put A hi hoj (hfree j oj hoj hji hjun hnot) (fun cs b => hsel i oi cs b hi) (fun cs b => hsel j oj cs b hoj) hy h1
      have hfree' : ∀ k ok, ops[k]? = some ok → k ≠ i → (listed.setIfInBounds j true).getD k true = false →
          (∀ e ∈ ok.after, Region.binds md e = true → e.on ≠ i) → oi.apart ops ok = true := fun k ok hk hki hun hno => by
        refine hfree k ok hk hki ?_ hno
        by_cases hjk : j = k
        · subst hjk; exact hjun
        · rw [getD_set_ne true hjk] at hun; exact hun
      refine flOp_mono (fun a' h3 => ih (listed.setIfInBounds j true) a' (inv.set hj hjn) hfree' (ready_mono hr (Ne.symm hji)) h3.1 ?_) h2
      rw [Array.setIfInBounds_comm _ _ hji]
      exact h3.2
theorem getD_more {listed : Array Bool} {i k : Nat} (h : listed.getD k false = true) : (listed.setIfInBounds i true).getD k false = true := by
  by_cases hik : i = k
  · subst hik
    have hs : i < listed.size := by
      rcases Nat.lt_or_ge i listed.size with h' | h'
      · exact h'
      · rw [Array.getD_eq_getD_getElem?, Array.getElem?_eq_none h'] at h; cases h
    simp [Array.getD_eq_getD_getElem?, hs]
  · simp only [Array.getD_eq_getD_getElem?, Array.getElem?_setIfInBounds, hik, if_false] at *; exact h
theorem getD_self {listed : Array Bool} {i : Nat} (h : listed.getD i true = false) : (listed.setIfInBounds i true).getD i false = true := by
  have hs : i < listed.size := by
    rcases Nat.lt_or_ge i listed.size with h' | h'
    · exact h'
    · rw [Array.getD_eq_getD_getElem?, Array.getElem?_eq_none h'] at h; cases h
  simp [Array.getD_eq_getD_getElem?, hs]
theorem wpAnyL_lex {n g : Nat} {Lq : Act → Prop} (A : Apt md ops X n) (hsel : Region.noSelect ops = true) (hs : Region.sinkB md ops n = true) (hc : Region.chainB md ops n = true) (hn : n < ops.size) :
    ∀ (l : List Oper) (k : Nat) (listed : Array Bool) (a : Act), (∀ j, j < l.length → l[j]? = ops[k + j]?) → k + l.length = n → HeadInv md ops n listed → (∀ j, j < k → listed.getD j false = true) →
    Region.lexHead md ops g l.length k listed = true → wpFlow P md ops X Lq k l a →
    wpAnyL P md ops X n (fun listed' a' => Region.seqB md ops g n listed' = true ∧ (∀ j, j < n → listed'.getD j false = true) ∧ Lq a') l.length listed a
  | [], k, listed, a, _, hk, _, hz, hB, h => by
    have : k = n := by simpa using hk
    subst this
    exact ⟨by simpa [Region.lexHead] using hB, hz, h⟩
  | o :: l, k, listed, a, hl, hk, inv, hz, hB, h => by
    have h0 : ops[k]? = some o := by simpa using (hl 0 (by simp)).symm
    simp only [List.length_cons, Region.lexHead, Bool.and_eq_true] at hB
    obtain ⟨⟨hr, hf⟩, hB'⟩ := hB
    have hkn : k < n := by simp only [List.length_cons] at hk; omega
    have hr' : k ∈ Region.ready md ops listed := by simpa using hr
    obtain ⟨v, hy, hK⟩ := h
    exact wpAnyL_first A h0 (Region.noSelect_spec hsel) hs hc hn hkn (fun listed' a' hL => seqB_ready hL.1) l.length listed a inv (Region.free_spec h0 hf) hr' hy
      (wpAnyL_lex A hsel hs hc hn l (k + 1) _ _ (fun j hj => by have := hl (j + 1) (by simp; omega); simpa [Nat.add_assoc, Nat.add_comm 1 j] using this) (by simp only [List.length_cons] at hk; omega) (inv.set hr' hkn)
        (fun j hj => by
          by_cases h : j = k
          · subst h; exact getD_self (mem_ready.1 hr').1
          · exact getD_more (hz j (by omega))) hB' hK)
theorem wp_region_flow {id : Nat} {Q : Exit → Act → World → Prop} {a : Act} {w : World} {l : List Oper} (X : Extra) (n : Nat) (A : Apt .any l.toArray X n) (s0 : X.St) (hm : P.follows .mixedOrders = true) (hB : Region.lexTailB .any l.toArray n = true)
    (hv : X.inv (Array.replicate l.toArray.size false) s0) (hR : X.R s0 { w with drawn := w.drawn + 1 }) (hM : X.M s0 a = a)
    (h : wpFlow P .any l.toArray X (fun a' => ∀ listed s w', (∀ j, j < n → listed.getD j false = true) → X.inv listed s → X.R s w' → wpList P l.toArray Q (l.drop n) (X.M s a') w') 0 (l.take n) a) : (Code.region id l.toArray true).wp P Q a w := by
  simp only [Region.lexTailB, Bool.and_eq_true, decide_eq_true_eq] at hB
  obtain ⟨⟨⟨⟨hsel, hn⟩, hs⟩, hc⟩, hlex⟩ := hB
  have hn' : n < l.length := by simpa using hn
  have htl : (l.take n).length = n := by simp; omega
  have hdl : (l.drop n).length = l.toArray.size - n := by simp
  have inv0 : HeadInv .any l.toArray n (Array.replicate l.toArray.size false) :=
    ⟨by simp, fun j oj _ hl => (by rw [getD_replicate_false] at hl; cases hl), fun t _ ht => getD_in (by simpa using ht) (getD_replicate_false _ _)⟩
  refine wp_region_any hm ?_
  have key := wpAnyL_lex (P := P) (X := X) (g := l.toArray.size - n) (md := .any) A hsel hs hc hn (l.take n) 0 (Array.replicate l.toArray.size false) a
    (fun j hj => by rw [List.getElem?_take, if_pos (by omega)]; simp) (by omega) inv0 (fun j hj => absurd hj (by omega)) (by rw [htl]; exact hlex) h
  rw [htl] at key
  have h2 := wpAny_of_head2 (P := P) (X := X) (md := .any) (ops := l.toArray) (g := l.toArray.size - n) (Q' := Q) A hn
    (L := fun listed' a' => Region.seqB .any l.toArray (l.toArray.size - n) n listed' = true ∧ (∀ j, j < n → listed'.getD j false = true) ∧ ∀ listed s w', (∀ j, j < n → listed.getD j false = true) → X.inv listed s → X.R s w' → wpList P l.toArray Q (l.drop n) (X.M s a') w')
    (fun listed' a' s w' hv' hR' hL => by
      have := wpAny_of_seq (P := P) (md := .any) (ops := l.toArray) (Q' := Q) (l.drop n) n listed' (X.M s a') w' (fun j => by simp) (by rw [hdl]; exact hL.1) (hL.2.2 listed' s w' hL.2.1 hv' hR')
      rwa [hdl] at this) n _ _ s0 { w with drawn := w.drawn + 1 } hv hR key
  have : n + (l.toArray.size - n) = l.toArray.size := by omega
  rw [this, hM] at h2
  exact h2
end
end FlowX
end Go.Proofs.YtboknfppecgjmaaGreat
