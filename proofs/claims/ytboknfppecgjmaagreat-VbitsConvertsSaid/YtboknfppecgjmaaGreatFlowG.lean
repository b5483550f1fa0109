/- Regions with guarded operations ('&&', '||'), walked without a case split: what a guarded operation gives is an 'if' on its guard. -/
import Derived.Test.YtboknfppecgjmaaGreatFlow
namespace Go.Proofs.YtboknfppecgjmaaGreat
set_option linter.unusedVariables false
set_option linter.unusedSimpArgs false
namespace Flow
section
variable {P : Program} {ops : Array Oper} {R : World → Prop}

theorem wpList_of_flow {Q' : Exit → Act → World → Prop} {Lq : Act → Prop} {m : List Oper} (hL : ∀ a w, R w → Lq a → wpList P ops Q' m a w) :
    ∀ (l : List Oper) (a : Act) (w : World), R w → wpFlow P ops R Lq l a → wpList P ops Q' (l ++ m) a w
  | [], a, w, hR, h => hL a w hR h
  | o :: l, a, w, hR, h => by
    obtain ⟨v, hy, hk⟩ := h
    unfold YieldsR at hy
    simp only [List.cons_append, wpList]
    by_cases hw : Region.wanted o (yielded ops a.tmps) = true
    · rw [if_pos hw] at hy ⊢
      exact .inl (wp_of_runsTo (fun u w' ⟨hu, hr⟩ => by subst hu; exact wpList_of_flow hL l _ w' hr hk) (hy w hR))
    · rw [if_neg hw] at hy ⊢
      subst hy
      exact wpList_of_flow hL l _ w hR hk

/-- A region in the text's order, its head by the flow's rules. -/
theorem wp_region_seq {id : Nat} {Q : Exit → Act → World → Prop} {a : Act} {w : World} {l : List Oper} (n : Nat)
    (h : ∀ R : World → Prop, RowKit.Hid (∀ w', R w' → ∀ b o, b < w.heap.size → w'.cell? ⟨b, o, none⟩ = w.cell? ⟨b, o, none⟩) → RowKit.Hid (∀ w' w'', R w' → RowKit.Below w'.heap.size w' w'' → R w'') →
      wpFlow P l.toArray R (fun a' => ∀ w', RowKit.Below w.heap.size w w' → wpList P l.toArray Q (l.drop n) a' w') (l.take n) a) : (Code.region id l.toArray false).wp P Q a w := by
  refine wp_region_lit ?_
  have h1 := h (fun w' => RowKit.Below w.heap.size w w') (fun w' hw' => (bcell hw').1) (fun w' w'' h1 h2 => h1.trans (h2.mono h1.size))
  have := wpList_of_flow (P := P) (ops := l.toArray) (Q' := Q) (m := l.drop n) (fun a' w' hR hL => hL w' hR) (l.take n) a w (RowKit.Below.refl _ _) h1
  rwa [List.take_append_drop] at this

theorem yielded_of {tmps : Array Value} {j d : Nat} {v : Value} (hj : (ops[j]?).bind (·.dst) = some d) (hd : tmps[d]? = some v) : yielded ops tmps j = match v with | .bool b => some b | _ => none := by
  unfold yielded
  rw [hj]
  simp only [Option.bind_some, hd]
  cases v <;> rfl

section
variable {Q : Act → Prop} {o : Oper} {rest : List Oper} {a : Act} {v : Value} {j d : Nat} {c g : Bool}
theorem flow_guardT (ho : o.guard = some (j, true)) (hj : (ops[j]?).bind (·.dst) = some d) (hd : a.tmps[d]? = some (.bool g))
    (h : g = true → ∀ w, R w → runsTo P o a w (fun u w' => u = v ∧ R w')) (hk : wpFlow P ops R Q rest (a.put o.dst (if g = true then v else undef))) : wpFlow P ops R Q (o :: rest) a := by
  refine ⟨_, ?_, hk⟩
  unfold YieldsR
  have hy := yielded_of hj hd
  cases g
  · rw [if_neg (by simp [Region.wanted, ho, hy])]; simp
  · rw [if_pos (by simp [Region.wanted, ho, hy])]; exact h rfl
theorem flow_guardF (ho : o.guard = some (j, false)) (hj : (ops[j]?).bind (·.dst) = some d) (hd : a.tmps[d]? = some (.bool g))
    (h : g = false → ∀ w, R w → runsTo P o a w (fun u w' => u = v ∧ R w')) (hk : wpFlow P ops R Q rest (a.put o.dst (if g = false then v else undef))) : wpFlow P ops R Q (o :: rest) a := by
  refine ⟨_, ?_, hk⟩
  unfold YieldsR
  have hy := yielded_of hj hd
  cases g
  · rw [if_pos (by simp [Region.wanted, ho, hy])]; exact h rfl
  · rw [if_neg (by simp [Region.wanted, ho, hy])]; simp
theorem flow_guardT2 {p : Prop} [Decidable p] (ho : o.guard = some (j, true)) (hj : (ops[j]?).bind (·.dst) = some d) (hd : a.tmps[d]? = some (if p then .bool g else undef))
    (h : p → g = true → ∀ w, R w → runsTo P o a w (fun u w' => u = v ∧ R w')) (hk : wpFlow P ops R Q rest (a.put o.dst (if p ∧ g = true then v else undef))) : wpFlow P ops R Q (o :: rest) a := by
  refine ⟨_, ?_, hk⟩
  unfold YieldsR
  by_cases hp : p
  · rw [if_pos hp] at hd
    have hy := yielded_of hj hd
    cases g
    · rw [if_neg (by simp [Region.wanted, ho, hy])]; simp
    · rw [if_pos (by simp [Region.wanted, ho, hy])]; simp only [hp, and_self, if_true]; exact h hp rfl
  · rw [if_neg hp] at hd
    have hy := yielded_of hj hd
    simp only [undef] at hy
    rw [if_neg (by simp [Region.wanted, ho, hy])]; simp [hp]
theorem flow_guardF2 {p : Prop} [Decidable p] (ho : o.guard = some (j, false)) (hj : (ops[j]?).bind (·.dst) = some d) (hd : a.tmps[d]? = some (if p then .bool g else undef))
    (h : p → g = false → ∀ w, R w → runsTo P o a w (fun u w' => u = v ∧ R w')) (hk : wpFlow P ops R Q rest (a.put o.dst (if p ∧ g = false then v else undef))) : wpFlow P ops R Q (o :: rest) a := by
  refine ⟨_, ?_, hk⟩
  unfold YieldsR
  by_cases hp : p
  · rw [if_pos hp] at hd
    have hy := yielded_of hj hd
    cases g
    · rw [if_pos (by simp [Region.wanted, ho, hy])]; simp only [hp, and_self, if_true]; exact h hp rfl
    · rw [if_neg (by simp [Region.wanted, ho, hy])]; simp
  · rw [if_neg hp] at hd
    have hy := yielded_of hj hd
    simp only [undef] at hy
    rw [if_neg (by simp [Region.wanted, ho, hy])]; simp [hp]
end
end

/-! What 'pick' makes of them. -/
theorem pick_and (b c : Bool) : (if b = true then (if b = true then Value.bool c else undef) else Value.bool false) = Value.bool (b && c) := by cases b <;> rfl
theorem pick_or (b c : Bool) : (if b = true then Value.bool true else (if b = false then Value.bool c else undef)) = Value.bool (b || c) := by cases b <;> rfl
theorem pick_andF (b c : Bool) : (if b = false then (if b = false then Value.bool c else undef) else Value.bool false) = Value.bool (!b && c) := by cases b <;> rfl
theorem pick_orF (b c : Bool) : (if b = false then Value.bool true else (if b = true then Value.bool c else undef)) = Value.bool (!b || c) := by cases b <;> rfl
attribute [go_sem] pick_and pick_or pick_andF pick_orF
end Flow
end Go.Proofs.YtboknfppecgjmaaGreat
