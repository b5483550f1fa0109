/- Part 6 of the proof's texts: FlowG. -/
import Derived.Test.YtboknfppecgjmaaGreatExa0
set_option maxHeartbeats 16000000
namespace Go.Proofs.YtboknfppecgjmaaGreat
set_option linter.unusedVariables false
set_option linter.unusedSimpArgs false
namespace Flow
section
variable {P : Program} {ops : Array Oper} {R : World → Prop}
theorem yielded_of {tmps : Array Value} {j d : Nat} {v : Value} (hj : (ops[j]?).bind (·.dst) = some d) (hd : tmps[d]? = some v) : yielded ops tmps j = match v with | .bool b => some b | _ => none := by
  unfold yielded
  rw [hj]
  simp only [Option.bind_some, hd]
  cases v <;> rfl
section
variable {Q : Act → Prop} {o : Oper} {rest : List Oper} {a : Act} {v : Value} {j d : Nat} {c g : Bool}
theorem flow_guardT (ho : o.guard = some (j, true)) (hj : (ops[j]?).bind (·.dst) = some d) (hd : a.tmps[d]? = some (.bool g))
    (h : g = true → ∀ w, R w → runsTo P o a w (fun u w' => u = v ∧ R w')) (hk : wpFlow P ops R Q rest (a.put o.dst (if g = true then v else undef))) : wpFlow P ops R Q (o :: rest) a := by
  refine ⟨_, ?_, hk⟩
  unfold YieldsR
  have hy := yielded_of hj hd
  cases g
  · rw [if_neg (by simp [Region.wanted, ho, hy])]; simp
  · rw [if_pos (by simp [Region.wanted, ho, hy])]; exact h rfl
end
end
/-! What 'pick' makes of them. -/
theorem pick_and (b c : Bool) : (if b = true then (if b = true then Value.bool c else undef) else Value.bool false) = Value.bool (b && c) := by cases b <;> rfl
theorem pick_or (b c : Bool) : (if b = true then Value.bool true else (if b = false then Value.bool c else undef)) = Value.bool (b || c) := by cases b <;> rfl
theorem pick_andF (b c : Bool) : (if b = false then (if b = false then Value.bool c else undef) else Value.bool false) = Value.bool (!b && c) := by cases b <;> rfl
theorem pick_orF (b c : Bool) : (if b = false then Value.bool true else (if b = true then Value.bool c else undef)) = Value.bool (!b || c) := by cases b <;> rfl
attribute [go_sem] pick_and pick_or pick_andF pick_orF
end Flow
end Go.Proofs.YtboknfppecgjmaaGreat
