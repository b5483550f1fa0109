/- A region that draws its order, two of whose operations make slices, whenever they come, and a third one builds a value with the second slice in it. -/
import Derived.Test.YtboknfppecgjmaaGreatFlowX
import Derived.Laws.Rows
namespace Go.Proofs.YtboknfppecgjmaaGreat
set_option linter.unusedVariables false
set_option linter.unusedSimpArgs false
namespace FlowY
open Flow (runsTo bcell)
open FlowX
section
variable {P : Program}
/-- A slice that is a whole new block. -/
abbrev sl (n b : Nat) : Value := .slice (some ⟨b, 0, none⟩) n n
abbrev St := Option Nat × Option (Nat × Bool)
def M (dA dB dC : Tmp) (nA nB : Nat) (val : Nat → Value) (s : St) (a : Act) : Act :=
  let a1 := match s.1 with | none => a | some b => a.put (some dA) (sl nA b)
  match s.2 with | none => a1 | some (b, false) => a1.put (some dB) (sl nB b) | some (b, true) => (a1.put (some dB) (sl nB b)).put (some dC) (val b)
def inv (mA mB mC : Nat) (listed : Array Bool) (s : St) : Prop :=
  s.1.isSome = listed.getD mA false ∧ s.2.isSome = listed.getD mB false ∧ ((s.2.map (·.2)).getD false) = listed.getD mC false
/-- No ordinary operation sees or writes these slots; the three are apart; C waits for B. -/
def fineB (ops : Array Oper) (n mA mB mC : Nat) (dA dB dC : Tmp) : Bool :=
  ((List.range ops.size).all fun j => j == mA || j == mB || j == mC || match ops[j]? with | some o => o.dst != some dA && o.dst != some dB && o.dst != some dC && (decide (n ≤ j) || (!(o.looksAt ops).contains dA && !(o.looksAt ops).contains dB && !(o.looksAt ops).contains dC)) | none => true) &&
  (match ops[mA]? with | some o => o.dst == some dA && o.guard.isNone && !(o.looksAt ops).contains dA && !(o.looksAt ops).contains dB && !(o.looksAt ops).contains dC | none => false) &&
  (match ops[mB]? with | some o => o.dst == some dB && o.guard.isNone && !(o.looksAt ops).contains dA && !(o.looksAt ops).contains dB && !(o.looksAt ops).contains dC | none => false) &&
  (match ops[mC]? with | some o => o.dst == some dC && o.guard.isNone && !(o.looksAt ops).contains dA && !(o.looksAt ops).contains dC && (o.after.toList.any fun e => Region.binds .any e && e.on == mB) | none => false) &&
  decide (mA ≠ mB) && decide (mA ≠ mC) && decide (mB ≠ mC) && decide (dA ≠ dB) && decide (dA ≠ dC) && decide (dB ≠ dC) && decide (mA < n) && decide (mB < n) && decide (mC < n)

theorem getD_other {listed : Array Bool} {i k : Nat} (h : i ≠ k) : (listed.setIfInBounds i true).getD k false = listed.getD k false := by
  simp [Array.getD_eq_getD_getElem?, Array.getElem?_setIfInBounds, h]

variable {dA dB dC : Tmp} {nA nB : Nat} {val : Nat → Value}
theorem M_put (s : St) (a : Act) {x : Option Tmp} (v : Value) (hA : x ≠ some dA) (hB : x ≠ some dB) (hC : x ≠ some dC) : M dA dB dC nA nB val s (a.put x v) = (M dA dB dC nA nB val s a).put x v := by
  have c : ∀ (a : Act) (d : Tmp) (u : Value), x ≠ some d → (a.put x v).put (some d) u = (a.put (some d) u).put x v := fun a d u h => (Act.put_comm a u v (fun e he hx => h (by rw [hx, he]))).symm
  obtain ⟨s1, s2⟩ := s
  cases s1 with
  | none =>
    cases s2 with
    | none => rfl
    | some p => obtain ⟨b, t⟩ := p; cases t <;> simp only [M, c _ _ _ hB, c _ _ _ hC]
  | some b1 =>
    cases s2 with
    | none => simp only [M, c _ _ _ hA]
    | some p => obtain ⟨b, t⟩ := p; cases t <;> simp only [M, c _ _ _ hA, c _ _ _ hB, c _ _ _ hC]
theorem M_exec {ops : Array Oper} (s : St) (a : Act) {o : Oper} (hsel : ∀ cs b, o.op ≠ .select cs b) (hA : dA ∉ o.looksAt ops) (hB : dB ∉ o.looksAt ops) (hC : dC ∉ o.looksAt ops) :
    execOp (M dA dB dC nA nB val s a).eval o = execOp a.eval o ∧ Region.wanted o (yielded ops (M dA dB dC nA nB val s a).tmps) = Region.wanted o (yielded ops a.tmps) := by
  have e : ∀ (a : Act) (d : Tmp) (u : Value), d ∉ o.looksAt ops → execOp (a.put (some d) u).eval o = execOp a.eval o := fun a d u h => execOp_put o hsel a (some d) u (fun e he => by cases he; exact h)
  have f : ∀ (a : Act) (d : Tmp) (u : Value), d ∉ o.looksAt ops → Region.wanted o (yielded ops (a.put (some d) u).tmps) = Region.wanted o (yielded ops a.tmps) := fun a d u h => wanted_put o a (some d) u (fun e he => by cases he; exact h)
  obtain ⟨s1, s2⟩ := s
  cases s1 with
  | none =>
    cases s2 with
    | none => exact ⟨rfl, rfl⟩
    | some p => obtain ⟨b, t⟩ := p; cases t <;> simp only [M, e _ _ _ hB, e _ _ _ hC, f _ _ _ hB, f _ _ _ hC, and_self]
  | some b1 =>
    cases s2 with
    | none => simp only [M, e _ _ _ hA, f _ _ _ hA, and_self]
    | some p => obtain ⟨b, t⟩ := p; cases t <;> simp only [M, e _ _ _ hA, e _ _ _ hB, e _ _ _ hC, f _ _ _ hA, f _ _ _ hB, f _ _ _ hC, and_self]

/-- The region's rule, X closed to the walk. -/
theorem wp_region_two {id : Nat} {Q : Exit → Act → World → Prop} {a : Act} {w : World} {l : List Oper} (n mA mB mC : Nat) (dA dB dC : Tmp) (nA nB : Nat) (zA zB : Array Value) (TA TB : TypeId) (val : Nat → Value)
    (hfine : fineB l.toArray n mA mB mC dA dB dC = true) (hm : P.follows .mixedOrders = true) (hB : Region.lexTailB .any l.toArray n = true)
    (h : ∀ X : Extra, RowKit.Hid (∀ s w', X.R s w' → ∀ bl o, bl < w.heap.size → w'.cell? ⟨bl, o, none⟩ = w.cell? ⟨bl, o, none⟩) → RowKit.Hid (∀ s w' w'', X.R s w' → RowKit.Below w'.heap.size w' w'' → X.R s w'') →
      RowKit.Hid (∀ s w', X.R s w' → ∀ bl, bl < w.heap.size → w'.heap[bl]? = w.heap[bl]?) →
      RowKit.Hid (∀ k, X.sp k = (k == mA || k == mB || k == mC)) →
      RowKit.Hid (∀ o a, l.toArray[mA]? = some o → (∀ w, (execOp a.eval o).run P w = .ok (.value (sl nA w.heap.size)) (w.alloc (.cells zA TA))) → YieldsS P .any l.toArray X mA o a) →
      RowKit.Hid (∀ o a, l.toArray[mB]? = some o → (∀ w, (execOp a.eval o).run P w = .ok (.value (sl nB w.heap.size)) (w.alloc (.cells zB TB))) → YieldsS P .any l.toArray X mB o a) →
      RowKit.Hid (∀ o a, l.toArray[mC]? = some o → (∀ b w, (execOp (a.put (some dB) (sl nB b)).eval o).run P w = .ok (.value (val b)) w) → YieldsS P .any l.toArray X mC o a) →
      wpFlow P .any l.toArray X (fun a' => ∀ bA bB w', RowKit.Below w.heap.size w w' → w.heap.size ≤ bA → w.heap.size ≤ bB → w'.heap[bA]? = some (.cells zA TA) → w'.heap[bB]? = some (.cells zB TB) →
        wpList P l.toArray Q (l.drop n) (((a'.put (some dA) (sl nA bA)).put (some dB) (sl nB bB)).put (some dC) (val bB)) w') 0 (l.take n) a) : (Code.region id l.toArray true).wp P Q a w := by
  have hlt := hB
  simp only [Region.lexTailB, Bool.and_eq_true, decide_eq_true_eq] at hlt
  have hsel := Region.noSelect_spec hlt.1.1.1.1
  simp only [fineB, Bool.and_eq_true, decide_eq_true_eq] at hfine
  obtain ⟨⟨⟨⟨⟨⟨⟨⟨⟨⟨⟨⟨f1, fA⟩, fB⟩, fC⟩, mAB⟩, mAC⟩, mBC⟩, dAB⟩, dAC⟩, dBC⟩, mAn⟩, mBn⟩, mCn⟩ := hfine
  let RR : St → World → Prop := fun s w' => RowKit.Below w.heap.size w w' ∧ (∀ b, s.1 = some b → w.heap.size ≤ b ∧ w'.heap[b]? = some (.cells zA TA)) ∧ (∀ b, s.2 = some b → w.heap.size ≤ b.1 ∧ w'.heap[b.1]? = some (.cells zB TB))
  let X : Extra := ⟨St, RR, M dA dB dC nA nB val, fun k => k == mA || k == mB || k == mC, inv mA mB mC⟩
  have ord : ∀ j o, l.toArray[j]? = some o → X.sp j = false → o.dst ≠ some dA ∧ o.dst ≠ some dB ∧ o.dst ≠ some dC ∧ (j < n → dA ∉ o.looksAt l.toArray ∧ dB ∉ o.looksAt l.toArray ∧ dC ∉ o.looksAt l.toArray) := by
    intro j o ho hs
    have hs' : (j == mA || j == mB || j == mC) = false := hs
    simp only [Bool.or_eq_false_iff] at hs'
    obtain ⟨⟨s1, s2⟩, s3⟩ := hs'
    have := List.all_eq_true.1 f1 j (List.mem_range.2 (Array.getElem?_eq_some_iff.1 ho).1)
    simp only [s1, s2, s3, ho, Bool.false_or, Bool.and_eq_true, Bool.or_eq_true, bne_iff_ne, ne_eq, decide_eq_true_eq, Bool.not_eq_true', List.contains_eq_mem, decide_eq_false_iff_not] at this
    exact ⟨this.1.1.1, this.1.1.2, this.1.2, fun hj => by rcases this.2 with h | h; · omega
                                                          · exact ⟨h.1.1, h.1.2, h.2⟩⟩
  have A : Apt .any l.toArray X n := by
    refine ⟨fun j o ho hs s a v => ?_, fun j o hj ho hs s a => ?_, fun i listed s hi hr hs hv => ?_⟩
    · obtain ⟨h1, h2, h3, _⟩ := ord j o ho hs
      exact M_put s a v h1 h2 h3
    · obtain ⟨_, _, _, h4⟩ := ord j o ho hs
      obtain ⟨k1, k2, k3⟩ := h4 hj
      exact M_exec s a (fun cs b => hsel j o cs b ho) k1 k2 k3
    · have hs' : (i == mA || i == mB || i == mC) = false := hs
      simp only [Bool.or_eq_false_iff, beq_eq_false_iff_ne] at hs'
      obtain ⟨v1, v2, v3⟩ := hv
      exact ⟨by rw [getD_other hs'.1.1]; exact v1, by rw [getD_other hs'.1.2]; exact v2, by rw [getD_other hs'.2]; exact v3⟩
  have alloc_keep : ∀ (w' : World) (o : Obj) (b : Nat) (z : Obj), w'.heap[b]? = some z → (w'.alloc o).heap[b]? = some z := by
    intro w' o b z hz
    show (w'.heap.push o)[b]? = _
    have hb := (Array.getElem?_eq_some_iff.1 hz).1
    rw [Array.getElem?_push, if_neg (by omega)]; exact hz
  have alloc_new : ∀ (w' : World) (o : Obj), (w'.alloc o).heap[w'.heap.size]? = some o := by
    intro w' o; show (w'.heap.push o)[w'.heap.size]? = _; simp
  have hcomm : ∀ (a' : Act) (d e : Tmp) (u v : Value), d ≠ e → (a'.put (some d) u).put (some e) v = (a'.put (some e) v).put (some d) u := fun a' d e u v hde => Act.put_comm a' u v (fun x hx hy => hde (by cases hx; cases hy; rfl))
  refine FlowX.wp_region_flow X n A ((none, none) : St) hm hB ?_ ?_ rfl ?_
  · exact ⟨by rw [getD_replicate_false]; rfl, by rw [getD_replicate_false]; rfl, by rw [getD_replicate_false]; rfl⟩
  · exact ⟨⟨rfl, rfl, rfl, Nat.le_refl _, fun _ _ => rfl⟩, (fun b hb => by cases hb), (fun b hb => by cases hb)⟩
  · have h1 := h X (fun s w' hw' bl o hbl => (bcell hw'.1).1 _ _ hbl)
      (fun s w' w'' hw' hb => ⟨hw'.1.trans (hb.mono hw'.1.size), fun b hs => ⟨(hw'.2.1 b hs).1, by
        have h2 := (hw'.2.1 b hs).2
        rw [hb.block b (Array.getElem?_eq_some_iff.1 h2).1]; exact h2⟩, fun b hs => ⟨(hw'.2.2 b hs).1, by
        have h2 := (hw'.2.2 b hs).2
        rw [hb.block b.1 (Array.getElem?_eq_some_iff.1 h2).1]; exact h2⟩⟩)
      (fun s w' hw' bl hbl => hw'.1.block bl hbl)
      (fun k => rfl) ?_ ?_ ?_
    · refine wpFlow_mono (fun a' hq listed s w' hall hv hR => ?_) _ _ _ h1
      obtain ⟨v1, v2, v3⟩ := hv
      rw [hall mA mAn] at v1
      rw [hall mB mBn] at v2
      rw [hall mC mCn] at v3
      obtain ⟨s1, s2⟩ := s
      obtain ⟨bA, rfl⟩ := Option.isSome_iff_exists.1 v1
      obtain ⟨⟨bB, t⟩, rfl⟩ := Option.isSome_iff_exists.1 v2
      have ht : t = true := v3
      subst ht
      exact hq bA bB w' hR.1 (hR.2.1 _ rfl).1 (hR.2.2 _ rfl).1 (hR.2.1 _ rfl).2 (hR.2.2 _ rfl).2
    · intro o a' ho hrun
      rw [ho] at fA
      simp only [Bool.and_eq_true, beq_iff_eq, Bool.not_eq_true', List.contains_eq_mem, decide_eq_false_iff_not, Option.isNone_iff_eq_none] at fA
      obtain ⟨⟨⟨⟨gd, gg⟩, g1⟩, g2⟩, g3⟩ := fA
      refine ⟨gg, fun listed s w' hr hv hR => ?_⟩
      have hun := (mem_ready.1 hr).1
      obtain ⟨v1, v2, v3⟩ := hv
      obtain ⟨s1, s2⟩ := s
      have hs1 : s1 = none := by
        have : s1.isSome = false := by rw [show s1.isSome = _ from v1]; exact getD_both hun
        simpa using this
      subst hs1
      unfold runsTo
      rw [show execOp (X.M (none, s2) a').eval o = execOp a'.eval o from (M_exec (nA := nA) (nB := nB) (val := val) (none, s2) a' (fun cs b => hsel mA o cs b ho) g1 g2 g3).1, hrun]
      refine ⟨(some w'.heap.size, s2), ⟨?_, ?_, ?_⟩, ⟨hR.1.alloc hR.1.size _, fun b hb => ?_, fun b hb => ⟨(hR.2.2 b hb).1, alloc_keep _ _ _ _ (hR.2.2 b hb).2⟩⟩, fun a2 => ?_⟩
      · rw [getD_self hun]; rfl
      · rw [getD_other mAB]; exact v2
      · rw [getD_other mAC]; exact v3
      · cases hb; exact ⟨hR.1.size, alloc_new _ _⟩
      · rw [gd]
        cases s2 with
        | none => rfl
        | some p =>
          obtain ⟨b, t⟩ := p
          cases t
          · show (a2.put (some dB) (sl nB b)).put (some dA) _ = (a2.put (some dA) _).put (some dB) (sl nB b)
            exact hcomm _ _ _ _ _ (Ne.symm dAB)
          · show ((a2.put (some dB) (sl nB b)).put (some dC) (val b)).put (some dA) _ = ((a2.put (some dA) _).put (some dB) (sl nB b)).put (some dC) (val b)
            rw [hcomm _ _ _ _ _ (Ne.symm dAC), hcomm _ _ _ _ _ (Ne.symm dAB)]
    · intro o a' ho hrun
      rw [ho] at fB
      simp only [Bool.and_eq_true, beq_iff_eq, Bool.not_eq_true', List.contains_eq_mem, decide_eq_false_iff_not, Option.isNone_iff_eq_none] at fB
      obtain ⟨⟨⟨⟨gd, gg⟩, g1⟩, g2⟩, g3⟩ := fB
      refine ⟨gg, fun listed s w' hr hv hR => ?_⟩
      have hun := (mem_ready.1 hr).1
      obtain ⟨v1, v2, v3⟩ := hv
      obtain ⟨s1, s2⟩ := s
      have hs2 : s2 = none := by
        have : s2.isSome = false := by rw [show s2.isSome = _ from v2]; exact getD_both hun
        simpa using this
      subst hs2
      unfold runsTo
      rw [show execOp (X.M (s1, none) a').eval o = execOp a'.eval o from (M_exec (nA := nA) (nB := nB) (val := val) (s1, none) a' (fun cs b => hsel mB o cs b ho) g1 g2 g3).1, hrun]
      refine ⟨(s1, some (w'.heap.size, false)), ⟨?_, ?_, ?_⟩, ⟨hR.1.alloc hR.1.size _, fun b hb => ⟨(hR.2.1 b hb).1, alloc_keep _ _ _ _ (hR.2.1 b hb).2⟩, fun b hb => ?_⟩, fun a2 => ?_⟩
      · rw [getD_other (Ne.symm mAB)]; exact v1
      · rw [getD_self hun]; rfl
      · rw [getD_other mBC]; exact v3
      · cases hb; exact ⟨hR.1.size, alloc_new _ _⟩
      · rw [gd]; cases s1 <;> rfl
    · intro o a' ho hrun
      rw [ho] at fC
      simp only [Bool.and_eq_true, beq_iff_eq, Bool.not_eq_true', List.contains_eq_mem, decide_eq_false_iff_not, Option.isNone_iff_eq_none] at fC
      obtain ⟨⟨⟨⟨gd, gg⟩, g1⟩, g3⟩, g4⟩ := fC
      refine ⟨gg, fun listed s w' hr hv hR => ?_⟩
      have hun := (mem_ready.1 hr).1
      obtain ⟨v1, v2, v3⟩ := hv
      obtain ⟨s1, s2⟩ := s
      obtain ⟨e, he, heb⟩ := List.any_eq_true.1 g4
      simp only [Bool.and_eq_true, beq_iff_eq] at heb
      have hlB : listed.getD mB false = true := by
        obtain ⟨_, o2, ho2, hall⟩ := mem_ready.1 hr
        rw [ho] at ho2
        cases ho2
        have := hall e (by simpa using he) heb.1
        rw [heb.2] at this; exact this
      have hs2 : s2.isSome = true := by rw [show s2.isSome = _ from v2]; exact hlB
      obtain ⟨⟨b, t⟩, rfl⟩ := Option.isSome_iff_exists.1 hs2
      have ht : t = false := by
        have : t = listed.getD mC false := v3
        rw [this]; exact getD_both hun
      subst ht
      have hx : execOp (X.M (s1, some (b, false)) a').eval o = execOp (a'.put (some dB) (sl nB b)).eval o := by
        cases s1 with
        | none => rfl
        | some b1 =>
          show execOp ((a'.put (some dA) (sl nA b1)).put (some dB) (sl nB b)).eval o = _
          rw [hcomm _ _ _ _ _ dAB]
          exact execOp_put o (fun cs b => hsel mC o cs b ho) _ (some dA) _ (fun e he => by cases he; exact g1)
      unfold runsTo
      rw [hx, hrun]
      refine ⟨(s1, some (b, true)), ⟨?_, ?_, ?_⟩, ⟨hR.1, hR.2.1, fun c hc => ?_⟩, fun a2 => ?_⟩
      · rw [getD_other (Ne.symm mAC)]; exact v1
      · rw [getD_other (Ne.symm mBC)]; exact v2
      · rw [getD_self hun]; rfl
      · cases hc; exact hR.2.2 (b, false) rfl
      · rw [gd]; cases s1 <;> rfl
/-- A whole block, loaded. -/
theorem runsTo_load_row {o : Oper} {a : Act} {w : World} {N : Value → World → Prop} (ty : TypeId) (x : Operand) (ho : o.op = .load ty x)
    (g : Nat) (hx : a.eval x = .pointer (some ⟨g, 0, none⟩)) (t : TypeId) (cs : Array Value) (fr : Nat × Nat) (d : TypeDesc) (hg : w.heap[g]? = some (.cells cs t fr))
    (hu : P.underlying ty = some d) (hd : (match d with | .struct _ | .array _ _ => true | _ => false) = true) (hi : (P.info? ty).map (·.size) = some cs.size)
    (h : N (.agg cs) w) : runsTo P o a w N := by
  unfold runsTo execOp
  simp only [ho, hx, Instr.loadAt, Instr.sureAddr, Sem.run_bind, Sem.run_pure, Result.andThen_ok, run_loadVar_row w g t ty cs fr d hg hu hd hi]
  exact h
theorem flow_step {X : Extra} {md : Region.Mode} {k : Nat} {ops : Array Oper} {Q : Act → Prop} {o : Oper} {rest : List Oper} {a : Act} {mA mB mC : Nat} (hsp : RowKit.Hid (∀ k, X.sp k = (k == mA || k == mB || k == mC))) (v : Value) (hk' : (k == mA || k == mB || k == mC) = false) (hw : Region.wanted o (yielded ops a.tmps) = true)
    (h : ∀ s w, X.R s w → runsTo P o a w (fun u w' => u = v ∧ X.R s w')) (hk : wpFlow P md ops X Q (k + 1) rest (a.put o.dst v)) : wpFlow P md ops X Q k (o :: rest) a := by
  have hs : X.sp k = false := by rw [hsp.out]; exact hk'
  refine ⟨v, ?_, ?_⟩
  · unfold Y; rw [if_neg (by simp [hs])]; unfold YieldsR; rw [if_pos hw]; exact h
  · unfold eff; rw [if_neg (by simp [hs])]; exact hk
theorem flow_sp {X : Extra} {md : Region.Mode} {k : Nat} {ops : Array Oper} {Q : Act → Prop} {o : Oper} {rest : List Oper} {a : Act} {mA mB mC : Nat} (hsp : RowKit.Hid (∀ k, X.sp k = (k == mA || k == mB || k == mC))) (hk' : (k == mA || k == mB || k == mC) = true)
    (h : YieldsS P md ops X k o a) (hk : wpFlow P md ops X Q (k + 1) rest a) : wpFlow P md ops X Q k (o :: rest) a := by
  have hs : X.sp k = true := by rw [hsp.out]; exact hk'
  refine ⟨undef, ?_, ?_⟩
  · unfold Y; rw [if_pos hs]; exact h
  · unfold eff; rw [if_pos hs]; exact hk
theorem flow_nil {X : Extra} {md : Region.Mode} {k : Nat} {ops : Array Oper} {Q : Act → Prop} {a : Act} (h : Q a) : wpFlow P md ops X Q k [] a := h
end
end FlowY
end Go.Proofs.YtboknfppecgjmaaGreat
