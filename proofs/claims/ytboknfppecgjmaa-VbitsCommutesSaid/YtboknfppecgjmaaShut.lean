/- The row's end where the call has only made memory. -/
import Derived.Test.YtboknfppecgjmaaOpen
import Derived.RowKitTokens
import Derived.OpenShut
namespace Go.Proofs.Ytboknfppecgjmaa
open Go.RowKit Go.ChangeShapes Go.WideShapes
theorem own : ownKnob Try.prog.godebug = none := by kernel_rfl
theorem cells_u32 : Try.prog.cellsOf 22 = 1 := by kernel_rfl
theorem cells_Vec : Try.prog.cellsOf 24 = 4 := by kernel_rfl
section
variable {H : Type} {enc : TypeId × Value → H} {P : Program}
theorem post_below {f : Func} {s : ChangeSpec} {apart fresh handsOn again : Bool} {W W' : World} {args : Array Value} {v : Value} {ds gs : List (DataW H)} {before pa pv : List MemPlace}
    (hW : DataW.Whole enc P f.params.toList s.vars apart W args.toList ds gs before)
    (hr : ∀ (b : Nat) (sp : Nat → Bool) (hd : Bool), DataW.TrodAll enc P W' b sp hd f.resultTypes.toList (v.resultList f.resultTypes.size) (s.fn H (ds ++ gs)).results [])
    (ha : ∀ sp : Nat → Bool, (∀ p ∈ before, sp p.block = true) → DataW.TrodAll enc P W' 0 sp true f.params.toList args.toList (s.fn H (ds ++ gs)).args pa)
    (hv : ∀ sp : Nat → Bool, (∀ p ∈ before, sp p.block = true) → DataW.TrodVars enc P W' sp s.vars (s.fn H (ds ++ gs)).vars pv)
    (hps : before = pa ++ pv) (hb : Below W.heap.size W W')
    (hok : ∀ (j : Nat) (t : TypeId) (r : Value), f.resultTypes[j]? = some t → (v.resultList f.resultTypes.size)[j]? = some r → Value.okWide P W' .any 0 t r) :
    s.post enc P f apart fresh handsOn again W args v W' := by
  have mine : ∀ p ∈ before, decide (p.block < W.heap.size) = true := fun p hp => decide_eq_true (hW.lt p hp)
  obtain ⟨_, _, _, _, _, hz, hn⟩ := id hW
  subst hps
  have hkept : W.keptBut W' (fun p => p ∈ pa ++ pv ∧ (p ∈ ([] : List MemPlace) ∨ p ∈ pa ++ pv)) := World.keptBut_mono (fun p hp => ⟨hp, .inr hp⟩) (hb.frame (· ∈ pa ++ pv))
  refine ⟨ds, gs, pa ++ pv, [], pa, pv, hW, hr _ _ _, ha (fun b => decide (b < W.heap.size)) mine, hv (fun b => decide (b < W.heap.size)) mine, ?_, fun _ => ?_⟩
  · exact World.keptBut_mono (fun p hp => ⟨hp.1, by simpa using hp.1⟩) hkept
  · refine ⟨hok, _, _, [] ++ pa ++ pv, ⟨[] ++ pa, pv, trodAll_append (ha _ fun _ _ => rfl) (hr _ _ _), hv _ fun _ _ => rfl, rfl, fun b off hp => ?_, fun h => by simpa using hn h⟩, fun p hp _ => by simpa using hp⟩
    have hin : MemPlace.cell b off ∈ pa ++ pv := by simpa using hp
    rw [hb.frozen (hW.lt _ hin)]
    exact hz b off hin
end
end Go.Proofs.Ytboknfppecgjmaa
