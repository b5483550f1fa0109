/- VbitsLanes: the walk and the plain law, joined. -/
import Derived.Test.YtboknfppecgjmaaLanesL
namespace Go.Proofs.Ytboknfppecgjmaa
set_option linter.unusedVariables false
set_option linter.unusedSimpArgs false
open Go.RowKit Go.Shelf
theorem la (p c q d : BitVec 32) : LbinC 1 p c q d (V.word (Vb.added p c q d)) := lbin_gives (by rw [bin_add_v]; rfl)
theorem lb (p c q d : BitVec 32) : LbinC 2 p c q d (V.word (Vb.subtracted p c q d)) := lbin_gives (by rw [bin_sub_v]; rfl)
def eqv (p c q d : BitVec 32) : V := Vb.one (decide (c ||| d ≠ 0#32) && decide ((p ^^^ q) &&& ~~~(c ||| d) = 0#32))
theorem le (p c q d : BitVec 32) : LbinC 14 p c q d (eqv p c q d) := lbin_gives (bin_eq_v p c q d)
theorem lf (p c q d : BitVec 32) : UnC 6 1 32 0 (V.word 0#32) (eqv p c q d) (V.word (Vb.equal p c q d)) := un_gives (by
  have h := un_fill_v (decide (c ||| d ≠ 0#32) && decide ((p ^^^ q) &&& ~~~(c ||| d) = 0#32))
  rw [equal_eq]
  show Vb.un 6 1 32 0 V.zero (eqv p c q d) = _
  unfold eqv
  rw [h]
  cases (decide (c ||| d ≠ 0#32) && decide ((p ^^^ q) &&& ~~~(c ||| d) = 0#32)) <;> rfl)
theorem vlanes_c (HS : Hid SaneC) (x a y b : V) (w : World) :
    Calls Try.prog 8 #[vv x, vv a, vv y, vv b] w fun e w' => e = .returned (.bool true) ∧ Below w.heap.size w w' :=
  vlanes_w HS x a y b _ _ _ _ _ _ _ w (bin_gives (bin_lanes 22 Vb.added (.inl ⟨rfl, rfl⟩) x a y b)) (bin_gives (bin_lanes 25 Vb.subtracted (.inr (.inl ⟨rfl, rfl⟩)) x a y b)) (bin_gives (bin_lanes 28 Vb.equal (.inr (.inr ⟨rfl, rfl⟩)) x a y b))
    (la _ _ _ _) (lb _ _ _ _) (le _ _ _ _) (lf _ _ _ _) (la _ _ _ _) (lb _ _ _ _) (le _ _ _ _) (lf _ _ _ _) (la _ _ _ _) (lb _ _ _ _) (le _ _ _ _) (lf _ _ _ _) (la _ _ _ _) (lb _ _ _ _) (le _ _ _ _) (lf _ _ _ _)
end Go.Proofs.Ytboknfppecgjmaa
