/- The rule for a region that draws its order, in a loop body over an iterator (every call is still taken by its plain contract). -/
import Derived.Test.YtboknfppecgjmaaGreatFlow
import Derived.RangeFuncNested
import Derived.RangeFuncBound
import Derived.RangeFuncCalls
import Derived.RangeFuncLeaves
import Derived.Shelf.Abstract
import Derived.OwnWalkIn
import Derived.TacticsInMore
import Derived.LoopNIn
import Derived.LoopIn
namespace Go.Proofs.YtboknfppecgjmaaGreat
set_option linter.unusedVariables false
set_option linter.unusedSimpArgs false
namespace Flow
open Go.Shelf
section
variable {P : Program} {ops : Array Oper} {md : Region.Mode} {R : World → Prop} {F : Fence} {n : Nat}

/-- A fence that shuts nothing out. -/
def Open (F : Fence) : Prop := F.plain = Fence.wide

theorem Open.fn {F : Fence} (h : Open F) (f : FuncId) : F.fn f := by
  have : F.plain.fn f := by rw [h]; trivial
  exact this
theorem Open.depth {F : Fence} (h : Open F) : F.depth = none := by
  have : F.plain.depth = none := by rw [h]; rfl
  exact this
theorem Open.calls {F : Fence} (h : Open F) {n : Nat} {f : FuncId} {args : Array Value} {w : World} {R : Ending → World → Prop} (hc : Calls P f args w R) : CallsIn F n P f args w R := by
  have h1 : CallsIn F.plain n P f args w R := by rw [h]; exact callsIn_wide.2 hc
  exact h1
theorem open_wide : Open Fence.wide := rfl
theorem open_round (l : Nat) : Open (Fence.wide.inRound l) := rfl

def noDefer (ops : Array Oper) : Bool := ops.all fun o => match o.op with | .defer _ => false | _ => true
theorem noDefer_spec (h : noDefer ops = true) (j : Nat) (o : Oper) (c : Call) (ho : ops[j]? = some o) : o.op ≠ .defer c := by
  intro heq
  have := Array.all_eq_true_iff_forall_mem.1 h o (Array.mem_of_getElem? ho)
  simp [heq] at this

theorem wpIn_of_runsTo (hF : Open F) {o : Oper} {a : Act} {w : World} {N : Value → World → Prop} {K' : Act → World → Prop} {Q' : Exit → Act → World → Prop} (hd : ∀ c, o.op ≠ .defer c)
    (h : ∀ v w, N v w → K' (a.put o.dst v) w) (hh : runsTo P o a w N) : o.wpIn F n P a w K' Q' := by
  refine ⟨fun f _ => hF.fn f, ?_⟩
  rw [Oper.semAt_eq _ _ _ hd]
  unfold runsTo at hh
  generalize (execOp a.eval o).run P w = r at *
  cases r with
  | ok x w' =>
    cases x <;> simp only at hh <;> simp only [Oper.uponIn]
    case value => exact h _ _ hh
    case skip => exact h _ _ hh
    case enter f args => exact ⟨by rw [hF.depth]; simp, hF.calls (hh.mono fun e w'' ⟨v, he, hn⟩ => by subst he; exact h _ _ hn)⟩
  | halt x w' => exact hh.elim

theorem wpOpIn_of_flOp (hF : Open F) (hnd : noDefer ops = true) {i : Nat} {a : Act} {w : World} {K : Act → Prop} {K' : Act → World → Prop} {Q' : Exit → Act → World → Prop} (hR : R w)
    (h : ∀ a w, R w → K a → K' a w) (hh : flOp P ops R i K a) : wpOpIn F n P ops Q' i K' a w := by
  unfold flOp at hh
  unfold wpOpIn
  split
  · rename_i ho; simp only [ho] at hh; exact h _ _ hR hh
  · rename_i o ho
    simp only [ho] at hh
    obtain ⟨v, hy, hk⟩ := hh
    unfold YieldsR at hy
    split
    · rename_i hw
      simp only [hw, if_true] at hy
      exact wpIn_of_runsTo hF (fun c => noDefer_spec hnd i o c ho) (fun u w' ⟨hu, hr⟩ => by subst hu; exact h _ _ hr hk) (hy w hR)
    · rename_i hw
      simp only [hw] at hy
      have : v = undef := hy
      subst this
      exact ⟨fun f _ => hF.fn f, h _ _ hR hk⟩

theorem wpAnyIn_of_head (hF : Open F) (hnd : noDefer ops = true) {m g : Nat} {L : Array Bool → Act → Prop} {Q' : Exit → Act → World → Prop} (hL : ∀ listed a w, R w → L listed a → wpAnyIn F n P md ops Q' g listed a w) :
    ∀ (f : Nat) (listed : Array Bool) (a : Act) (w : World), R w → wpAnyL P md ops R m L f listed a → wpAnyIn F n P md ops Q' (f + g) listed a w
  | 0, listed, a, w, hR, h => by rw [Nat.zero_add]; exact hL _ _ _ hR h
  | f + 1, listed, a, w, hR, h => by
    rw [show f + 1 + g = (f + g) + 1 by omega]
    exact ⟨fun h0 => absurd h0 h.1, fun i hi => wpOpIn_of_flOp hF hnd hR (fun a' w' hR' h' => wpAnyIn_of_head hF hnd hL f _ a' w' hR' h') (h.2 i hi).2⟩

theorem wpAnyIn_of_seq {Q' : Exit → Act → World → Prop} : ∀ (l : List Oper) (k : Nat) (listed : Array Bool) (a : Act) (w : World), (∀ j, l[j]? = ops[k + j]?) →
    Region.seqB md ops l.length k listed = true → wpListIn F n P ops Q' l a w → wpAnyIn F n P md ops Q' l.length listed a w
  | [], _, _, _, _, _, hB, h => ⟨by simpa [Region.seqB] using hB, h⟩
  | o :: l, k, listed, a, w, hl, hB, h => by
    have h0 : ops[k]? = some o := by simpa using (hl 0).symm
    simp only [List.length_cons, Region.seqB, Bool.and_eq_true, decide_eq_true_eq] at hB
    refine ⟨fun h1 => (by rw [hB.1] at h1; cases h1), fun i hi => ?_⟩
    rw [hB.1] at hi
    have hik : i = k := by simpa using hi
    subst hik
    have hw : wpOpIn F n P ops Q' i (wpListIn F n P ops Q' l) a w := by unfold wpOpIn; simp only [h0]; exact h
    exact wpOpIn_mono (fun a' w' h' => wpAnyIn_of_seq l (i + 1) _ a' w' (fun j => by have := hl (j + 1); simpa [Nat.add_assoc, Nat.add_comm 1 j] using this) hB.2 h') hw

theorem wpIn_region_flow (hF : Open F) {id : Nat} {Q : Exit → Act → World → Prop} {a : Act} {w : World} {l : List Oper} (R : World → Prop) (m : Nat) (hm : P.follows .mixedOrders = true) (hB : Region.lexTailB .any l.toArray m = true)
    (hnd : noDefer l.toArray = true) (hR : R { w with drawn := w.drawn + 1 })
    (h : wpFlow P l.toArray R (fun a' => ∀ w', R w' → wpListIn F n P l.toArray Q (l.drop m) a' w') (l.take m) a) : (Code.region id l.toArray true).wpIn F n P Q a w := by
  simp only [Region.lexTailB, Bool.and_eq_true, decide_eq_true_eq] at hB
  obtain ⟨⟨⟨⟨hsel, hn⟩, hs⟩, hc⟩, hlex⟩ := hB
  have hn' : m < l.length := by simpa using hn
  have htl : (l.take m).length = m := by simp; omega
  have hdl : (l.drop m).length = l.toArray.size - m := by simp
  have inv0 : HeadInv .any l.toArray m (Array.replicate l.toArray.size false) :=
    ⟨by simp, fun j oj _ hl => (by rw [getD_replicate_false] at hl; cases hl), fun t _ ht => getD_in (by simpa using ht) (getD_replicate_false _ _)⟩
  refine wpIn_region_any hm ?_
  have key := wpAnyL_lex (P := P) (R := R) (g := l.toArray.size - m) (md := .any) hsel hs hc hn (l.take m) 0 (Array.replicate l.toArray.size false) a
    (fun j hj => by rw [List.getElem?_take, if_pos (by omega)]; simp) (by omega) inv0 (by rw [htl]; exact hlex) h
  rw [htl] at key
  have h2 := wpAnyIn_of_head (P := P) (R := R) (md := .any) (n := n) hF hnd (ops := l.toArray) (g := l.toArray.size - m) (Q' := Q)
    (L := fun listed' a' => Region.seqB .any l.toArray (l.toArray.size - m) m listed' = true ∧ ∀ w', R w' → wpListIn F n P l.toArray Q (l.drop m) a' w')
    (fun listed' a' w' hR' hL => by
      have := wpAnyIn_of_seq (F := F) (n := n) (P := P) (md := .any) (ops := l.toArray) (Q' := Q) (l.drop m) m listed' a' w' (fun j => by simp) (by rw [hdl]; exact hL.1) (hL.2 w' hR')
      rwa [hdl] at this) m _ _ _ hR key
  have : m + (l.toArray.size - m) = l.toArray.size := by omega
  rwa [this] at h2

theorem wpIn_region_below (hF : Open F) {id : Nat} {Q : Exit → Act → World → Prop} {a : Act} {w : World} {l : List Oper} (m : Nat) (hm : P.follows .mixedOrders = true) (hB : Region.lexTailB .any l.toArray m = true) (hnd : noDefer l.toArray = true)
    (h : ∀ R : World → Prop, RowKit.Hid (∀ w', R w' → ∀ b o, b < w.heap.size → w'.cell? ⟨b, o, none⟩ = w.cell? ⟨b, o, none⟩) → RowKit.Hid (∀ w' w'', R w' → RowKit.Below w'.heap.size w' w'' → R w'') →
      wpFlow P l.toArray R (fun a' => ∀ w', RowKit.Below w.heap.size w w' → wpListIn F n P l.toArray Q (l.drop m) a' w') (l.take m) a) : (Code.region id l.toArray true).wpIn F n P Q a w := by
  refine wpIn_region_flow hF (fun w' => RowKit.Below w.heap.size w w') m hm hB hnd ⟨rfl, rfl, rfl, Nat.le_refl _, fun _ _ => rfl⟩ (h _ (fun w' hw' => (bcell hw').1) (fun w' w'' h1 h2 => h1.trans (h2.mono h1.size)))
end
end Flow
end Go.Proofs.YtboknfppecgjmaaGreat
