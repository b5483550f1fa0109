/- Part 1 of the proof's texts: FlowY, FlowA, StoreV, FlowB, FlowM, FlowQ. -/
import Derived.Laws.Rows
import Derived.Deep.MidRow
import Derived.Laws.Tables
import Derived.Test.YtboknfppecgjmaaGreatExa0
set_option maxHeartbeats 16000000
namespace Go.Proofs.YtboknfppecgjmaaGreat
set_option linter.unusedVariables false
set_option linter.unusedSimpArgs false
namespace FlowY
open Flow (runsTo bcell)
open FlowX
section
variable {P : Program}
abbrev sl (n b : Nat) : Value := .slice (some ⟨b, 0, none⟩) n n
abbrev St := Option Nat × Option (Nat × Bool)
def M (dA dB dC : Tmp) (nA nB : Nat) (val : Nat → Value) (s : St) (a : Act) : Act :=
  let a1 := match s.1 with | none => a | some b => a.put (some dA) (sl nA b)
  match s.2 with | none => a1 | some (b, false) => a1.put (some dB) (sl nB b) | some (b, true) => (a1.put (some dB) (sl nB b)).put (some dC) (val b)
def inv (mA mB mC : Nat) (listed : Array Bool) (s : St) : Prop :=
  s.1.isSome = listed.getD mA false ∧ s.2.isSome = listed.getD mB false ∧ ((s.2.map (·.2)).getD false) = listed.getD mC false
def fineB (ops : Array Oper) (n mA mB mC : Nat) (dA dB dC : Tmp) : Bool :=
  ((List.range ops.size).all fun j => j == mA || j == mB || j == mC || match ops[j]? with | some o => o.dst != some dA && o.dst != some dB && o.dst != some dC && (decide (n ≤ j) || (!(o.looksAt ops).contains dA && !(o.looksAt ops).contains dB && !(o.looksAt ops).contains dC)) | none => true) &&
  (match ops[mA]? with | some o => o.dst == some dA && o.guard.isNone && !(o.looksAt ops).contains dA && !(o.looksAt ops).contains dB && !(o.looksAt ops).contains dC | none => false) &&
  (match ops[mB]? with | some o => o.dst == some dB && o.guard.isNone && !(o.looksAt ops).contains dA && !(o.looksAt ops).contains dB && !(o.looksAt ops).contains dC | none => false) &&
  (match ops[mC]? with | some o => o.dst == some dC && o.guard.isNone && !(o.looksAt ops).contains dA && !(o.looksAt ops).contains dC && (o.after.toList.any fun e => Region.binds .any e && e.on == mB) | none => false) &&
  decide (mA ≠ mB) && decide (mA ≠ mC) && decide (mB ≠ mC) && decide (dA ≠ dB) && decide (dA ≠ dC) && decide (dB ≠ dC) && decide (mA < n) && decide (mB < n) && decide (mC < n)
theorem getD_other {listed : Array Bool} {i k : Nat} (h : i ≠ k) : (listed.setIfInBounds i true).getD k false = listed.getD k false := by
  simp [Array.getD_eq_getD_getElem?, Array.getElem?_setIfInBounds, h]
variable {dA dB dC : Tmp} {nA nB : Nat} {val : Nat → Value}
theorem M_put (s : St) (a : Act) {x : Option Tmp} (v : Value) (hA : x ≠ some dA) (hB : x ≠ some dB) (hC : x ≠ some dC) : M dA dB dC nA nB val s (a.put x v) = (M dA dB dC nA nB val s a).put x v := by
  have c : ∀ (a : Act) (d : Tmp) (u : Value), x ≠ some d → (a.put x v).put (some d) u = (a.put (some d) u).put x v := fun a d u h => (Act.put_comm a u v (fun e he hx => h (by rw [hx, he]))).symm
  obtain ⟨s1, s2⟩ := s
  cases s1 with
  | none =>
    cases s2 with
    | none => rfl
    | some p => obtain ⟨b, t⟩ := p; cases t <;> simp only [M, c _ _ _ hB, c _ _ _ hC]
  | some b1 =>
    cases s2 with
    | none => simp only [M, c _ _ _ hA]
    | some p => obtain ⟨b, t⟩ := p; cases t <;> simp only [M, c _ _ _ hA, c _ _ _ hB, c _ _ _ hC]
theorem M_exec {ops : Array Oper} (s : St) (a : Act) {o : Oper} (hsel : ∀ cs b, o.op ≠ .select cs b) (hA : dA ∉ o.looksAt ops) (hB : dB ∉ o.looksAt ops) (hC : dC ∉ o.looksAt ops) :
    execOp (M dA dB dC nA nB val s a).eval o = execOp a.eval o ∧ Region.wanted o (yielded ops (M dA dB dC nA nB val s a).tmps) = Region.wanted o (yielded ops a.tmps) := by
  have e : ∀ (a : Act) (d : Tmp) (u : Value), d ∉ o.looksAt ops → execOp (a.put (some d) u).eval o = execOp a.eval o := fun a d u h => execOp_put o hsel a (some d) u (fun e he => by cases he; exact h)
  have f : ∀ (a : Act) (d : Tmp) (u : Value), d ∉ o.looksAt ops → Region.wanted o (yielded ops (a.put (some d) u).tmps) = Region.wanted o (yielded ops a.tmps) := fun a d u h => wanted_put o a (some d) u (fun e he => by cases he; exact h)
  obtain ⟨s1, s2⟩ := s
  cases s1 with
  | none =>
    cases s2 with
    | none => exact ⟨rfl, rfl⟩
    | some p => obtain ⟨b, t⟩ := p; cases t <;> simp only [M, e _ _ _ hB, e _ _ _ hC, f _ _ _ hB, f _ _ _ hC, and_self]
  | some b1 =>
    cases s2 with
    | none => simp only [M, e _ _ _ hA, f _ _ _ hA, and_self]
    | some p => obtain ⟨b, t⟩ := p; cases t <;> simp only [M, e _ _ _ hA, e _ _ _ hB, e _ _ _ hC, f _ _ _ hA, f _ _ _ hB, f _ _ _ hC, and_self]
theorem wp_region_two {id : Nat} {Q : Exit → Act → World → Prop} {a : Act} {w : World} {l : List Oper} (n mA mB mC : Nat) (dA dB dC : Tmp) (nA nB : Nat) (zA zB : Array Value) (TA TB : TypeId) (val : Nat → Value)
    (hfine : fineB l.toArray n mA mB mC dA dB dC = true) (hm : P.follows .mixedOrders = true) (hB : Region.lexTailB .any l.toArray n = true)
    (h : ∀ X : Extra, RowKit.Hid (∀ s w', X.R s w' → ∀ bl o, bl < w.heap.size → w'.cell? ⟨bl, o, none⟩ = w.cell? ⟨bl, o, none⟩) → RowKit.Hid (∀ s w' w'', X.R s w' → RowKit.Below w'.heap.size w' w'' → X.R s w'') →
      RowKit.Hid (∀ s w', X.R s w' → ∀ bl, bl < w.heap.size → w'.heap[bl]? = w.heap[bl]?) →
      RowKit.Hid (∀ k, X.sp k = (k == mA || k == mB || k == mC)) →
      RowKit.Hid (∀ o a, l.toArray[mA]? = some o → (∀ w, (execOp a.eval o).run P w = .ok (.value (sl nA w.heap.size)) (w.alloc (.cells zA TA))) → YieldsS P .any l.toArray X mA o a) →
      RowKit.Hid (∀ o a, l.toArray[mB]? = some o → (∀ w, (execOp a.eval o).run P w = .ok (.value (sl nB w.heap.size)) (w.alloc (.cells zB TB))) → YieldsS P .any l.toArray X mB o a) →
      RowKit.Hid (∀ o a, l.toArray[mC]? = some o → (∀ b w, (execOp (a.put (some dB) (sl nB b)).eval o).run P w = .ok (.value (val b)) w) → YieldsS P .any l.toArray X mC o a) →
      wpFlow P .any l.toArray X (fun a' => ∀ bA bB w', RowKit.Below w.heap.size w w' → w.heap.size ≤ bA → w.heap.size ≤ bB → w'.heap[bA]? = some (.cells zA TA) → w'.heap[bB]? = some (.cells zB TB) →
        wpList P l.toArray Q (l.drop n) (((a'.put (some dA) (sl nA bA)).put (some dB) (sl nB bB)).put (some dC) (val bB)) w') 0 (l.take n) a) : (Code.region id l.toArray true).wp P Q a w := by
  have hlt := hB
  simp only [Region.lexTailB, Bool.and_eq_true, decide_eq_true_eq] at hlt
  have hsel := Region.noSelect_spec hlt.1.1.1.1
  simp only [fineB, Bool.and_eq_true, decide_eq_true_eq] at hfine
  obtain ⟨⟨⟨⟨⟨⟨⟨⟨⟨⟨⟨⟨f1, fA⟩, fB⟩, fC⟩, mAB⟩, mAC⟩, mBC⟩, dAB⟩, dAC⟩, dBC⟩, mAn⟩, mBn⟩, mCn⟩ := hfine
  let RR : St → World → Prop := fun s w' => RowKit.Below w.heap.size w w' ∧ (∀ b, s.1 = some b → w.heap.size ≤ b ∧ w'.heap[b]? = some (.cells zA TA)) ∧ (∀ b, s.2 = some b → w.heap.size ≤ b.1 ∧ w'.heap[b.1]? = some (.cells zB TB))
  let X : Extra := ⟨St, RR, M dA dB dC nA nB val, fun k => k == mA || k == mB || k == mC, inv mA mB mC⟩
  have ord : ∀ j o, l.toArray[j]? = some o → X.sp j = false → o.dst ≠ some dA ∧ o.dst ≠ some dB ∧ o.dst ≠ some dC ∧ (j < n → dA ∉ o.looksAt l.toArray ∧ dB ∉ o.looksAt l.toArray ∧ dC ∉ o.looksAt l.toArray) := by
    intro j o ho hs
    have hs' : (j == mA || j == mB || j == mC) = false := hs
    simp only [Bool.or_eq_false_iff] at hs'
    obtain ⟨⟨s1, s2⟩, s3⟩ := hs'
    have := List.all_eq_true.1 f1 j (List.mem_range.2 (Array.getElem?_eq_some_iff.1 ho).1)
    simp only [s1, s2, s3, ho, Bool.false_or, Bool.and_eq_true, Bool.or_eq_true, bne_iff_ne, ne_eq, decide_eq_true_eq, Bool.not_eq_true', List.contains_eq_mem, decide_eq_false_iff_not] at this
    exact ⟨this.1.1.1, this.1.1.2, this.1.2, fun hj => by rcases this.2 with h | h; · omega
                                                          · exact ⟨h.1.1, h.1.2, h.2⟩⟩
  have A : Apt .any l.toArray X n := by
    refine ⟨fun j o ho hs s a v => ?_, fun j o hj ho hs s a => ?_, fun i listed s hi hr hs hv => ?_⟩
    · obtain ⟨h1, h2, h3, _⟩ := ord j o ho hs
      exact M_put s a v h1 h2 h3
    · obtain ⟨_, _, _, h4⟩ := ord j o ho hs
      obtain ⟨k1, k2, k3⟩ := h4 hj
      exact M_exec s a (fun cs b => hsel j o cs b ho) k1 k2 k3
    · have hs' : (i == mA || i == mB || i == mC) = false := hs
      simp only [Bool.or_eq_false_iff, beq_eq_false_iff_ne] at hs'
      obtain ⟨v1, v2, v3⟩ := hv
      exact ⟨by rw [getD_other hs'.1.1]; exact v1, by rw [getD_other hs'.1.2]; exact v2, by rw [getD_other hs'.2]; exact v3⟩
  have alloc_keep : ∀ (w' : World) (o : Obj) (b : Nat) (z : Obj), w'.heap[b]? = some z → (w'.alloc o).heap[b]? = some z := by
    intro w' o b z hz
    show (w'.heap.push o)[b]? = _
    have hb := (Array.getElem?_eq_some_iff.1 hz).1
    rw [Array.getElem?_push, if_neg (by omega)]; exact hz
  have alloc_new : ∀ (w' : World) (o : Obj), (w'.alloc o).heap[w'.heap.size]? = some o := by
    intro w' o; show (w'.heap.push o)[w'.heap.size]? = _; simp
  have hcomm : ∀ (a' : Act) (d e : Tmp) (u v : Value), d ≠ e → (a'.put (some d) u).put (some e) v = (a'.put (some e) v).put (some d) u := fun a' d e u v hde => Act.put_comm a' u v (fun x hx hy => hde (by cases hx; cases hy; rfl))
  refine FlowX.wp_region_flow X n A ((none, none) : St) hm hB ?_ ?_ rfl ?_
  · exact ⟨by rw [getD_replicate_false]; rfl, by rw [getD_replicate_false]; rfl, by rw [getD_replicate_false]; rfl⟩
  · exact ⟨⟨rfl, rfl, rfl, Nat.le_refl _, fun _ _ => rfl⟩, (fun b hb => by cases hb), (fun b hb => by cases hb)⟩
  · have h1 := h X (fun s w' hw' bl o hbl => (bcell hw'.1).1 _ _ hbl)
      (fun s w' w'' hw' hb => ⟨hw'.1.trans (hb.mono hw'.1.size), fun b hs => ⟨(hw'.2.1 b hs).1, by
        have h2 := (hw'.2.1 b hs).2
        rw [hb.block b (Array.getElem?_eq_some_iff.1 h2).1]; exact h2⟩, fun b hs => ⟨(hw'.2.2 b hs).1, by
        have h2 := (hw'.2.2 b hs).2
        rw [hb.block b.1 (Array.getElem?_eq_some_iff.1 h2).1]; exact h2⟩⟩)
      (fun s w' hw' bl hbl => hw'.1.block bl hbl)
      (fun k => rfl) ?_ ?_ ?_
    · refine wpFlow_mono (fun a' hq listed s w' hall hv hR => ?_) _ _ _ h1
      obtain ⟨v1, v2, v3⟩ := hv
      rw [hall mA mAn] at v1
      rw [hall mB mBn] at v2
      rw [hall mC mCn] at v3
      obtain ⟨s1, s2⟩ := s
      obtain ⟨bA, rfl⟩ := Option.isSome_iff_exists.1 v1
      obtain ⟨⟨bB, t⟩, rfl⟩ := Option.isSome_iff_exists.1 v2
      have ht : t = true := v3
      subst ht
      exact hq bA bB w' hR.1 (hR.2.1 _ rfl).1 (hR.2.2 _ rfl).1 (hR.2.1 _ rfl).2 (hR.2.2 _ rfl).2
    · intro o a' ho hrun
      rw [ho] at fA
      simp only [Bool.and_eq_true, beq_iff_eq, Bool.not_eq_true', List.contains_eq_mem, decide_eq_false_iff_not, Option.isNone_iff_eq_none] at fA
      obtain ⟨⟨⟨⟨gd, gg⟩, g1⟩, g2⟩, g3⟩ := fA
      refine ⟨gg, fun listed s w' hr hv hR => ?_⟩
      have hun := (mem_ready.1 hr).1
      obtain ⟨v1, v2, v3⟩ := hv
      obtain ⟨s1, s2⟩ := s
      have hs1 : s1 = none := by
        have : s1.isSome = false := by rw [show s1.isSome = _ from v1]; exact getD_both hun
        simpa using this
      subst hs1
      unfold runsTo
      rw [show execOp (X.M (none, s2) a').eval o = execOp a'.eval o from (M_exec (nA := nA) (nB := nB) (val := val) (none, s2) a' (fun cs b => hsel mA o cs b ho) g1 g2 g3).1, hrun]
      refine ⟨(some w'.heap.size, s2), ⟨?_, ?_, ?_⟩, ⟨hR.1.alloc hR.1.size _, fun b hb => ?_, fun b hb => ⟨(hR.2.2 b hb).1, alloc_keep _ _ _ _ (hR.2.2 b hb).2⟩⟩, fun a2 => ?_⟩
      · rw [getD_self hun]; rfl
      · rw [getD_other mAB]; exact v2
      · rw [getD_other mAC]; exact v3
      · cases hb; exact ⟨hR.1.size, alloc_new _ _⟩
      · rw [gd]
        cases s2 with
        | none => rfl
        | some p =>
          obtain ⟨b, t⟩ := p
          cases t
          · show (a2.put (some dB) (sl nB b)).put (some dA) _ = (a2.put (some dA) _).put (some dB) (sl nB b)
            exact hcomm _ _ _ _ _ (Ne.symm dAB)
          · show ((a2.put (some dB) (sl nB b)).put (some dC) (val b)).put (some dA) _ = ((a2.put (some dA) _).put (some dB) (sl nB b)).put (some dC) (val b)
            rw [hcomm _ _ _ _ _ (Ne.symm dAC), hcomm _ _ _ _ _ (Ne.symm dAB)]
    · intro o a' ho hrun
      rw [ho] at fB
      simp only [Bool.and_eq_true, beq_iff_eq, Bool.not_eq_true', List.contains_eq_mem, decide_eq_false_iff_not, Option.isNone_iff_eq_none] at fB
      obtain ⟨⟨⟨⟨gd, gg⟩, g1⟩, g2⟩, g3⟩ := fB
      refine ⟨gg, fun listed s w' hr hv hR => ?_⟩
      have hun := (mem_ready.1 hr).1
      obtain ⟨v1, v2, v3⟩ := hv
      obtain ⟨s1, s2⟩ := s
      have hs2 : s2 = none := by
        have : s2.isSome = false := by rw [show s2.isSome = _ from v2]; exact getD_both hun
        simpa using this
      subst hs2
      unfold runsTo
      rw [show execOp (X.M (s1, none) a').eval o = execOp a'.eval o from (M_exec (nA := nA) (nB := nB) (val := val) (s1, none) a' (fun cs b => hsel mB o cs b ho) g1 g2 g3).1, hrun]
      refine ⟨(s1, some (w'.heap.size, false)), ⟨?_, ?_, ?_⟩, ⟨hR.1.alloc hR.1.size _, fun b hb => ⟨(hR.2.1 b hb).1, alloc_keep _ _ _ _ (hR.2.1 b hb).2⟩, fun b hb => ?_⟩, fun a2 => ?_⟩
      · rw [getD_other (Ne.symm mAB)]; exact v1
      · rw [getD_self hun]; rfl
      · rw [getD_other mBC]; exact v3
      · cases hb; exact ⟨hR.1.size, alloc_new _ _⟩
      · rw [gd]; cases s1 <;> rfl
    · intro o a' ho hrun
      rw [ho] at fC
      simp only [Bool.and_eq_true, beq_iff_eq, Bool.not_eq_true', List.contains_eq_mem, decide_eq_false_iff_not, Option.isNone_iff_eq_none] at fC
      obtain ⟨⟨⟨⟨gd, gg⟩, g1⟩, g3⟩, g4⟩ := fC
      refine ⟨gg, fun listed s w' hr hv hR => ?_⟩
      have hun := (mem_ready.1 hr).1
      obtain ⟨v1, v2, v3⟩ := hv
      obtain ⟨s1, s2⟩ := s
      obtain ⟨e, he, heb⟩ := List.any_eq_true.1 g4
      simp only [Bool.and_eq_true, beq_iff_eq] at heb
      have hlB : listed.getD mB false = true := by
        obtain ⟨_, o2, ho2, hall⟩ := mem_ready.1 hr
        rw [ho] at ho2
        cases ho2
        have := hall e (by simpa using he) heb.1
        rw [heb.2] at this; exact this
      have hs2 : s2.isSome = true := by rw [show s2.isSome = _ from v2]; exact hlB
      obtain ⟨⟨b, t⟩, rfl⟩ := Option.isSome_iff_exists.1 hs2
      have ht : t = false := by
        have : t = listed.getD mC false := v3
        rw [this]; exact getD_both hun
      subst ht
      have hx : execOp (X.M (s1, some (b, false)) a').eval o = execOp (a'.put (some dB) (sl nB b)).eval o := by
        cases s1 with
        | none => rfl
        | some b1 =>
          show execOp ((a'.put (some dA) (sl nA b1)).put (some dB) (sl nB b)).eval o = _
          rw [hcomm _ _ _ _ _ dAB]
          exact execOp_put o (fun cs b => hsel mC o cs b ho) _ (some dA) _ (fun e he => by cases he; exact g1)
      unfold runsTo
      rw [hx, hrun]
      refine ⟨(s1, some (b, true)), ⟨?_, ?_, ?_⟩, ⟨hR.1, hR.2.1, fun c hc => ?_⟩, fun a2 => ?_⟩
      · rw [getD_other (Ne.symm mAC)]; exact v1
      · rw [getD_other (Ne.symm mBC)]; exact v2
      · rw [getD_self hun]; rfl
      · cases hc; exact hR.2.2 (b, false) rfl
      · rw [gd]; cases s1 <;> rfl
theorem runsTo_load_row {o : Oper} {a : Act} {w : World} {N : Value → World → Prop} (ty : TypeId) (x : Operand) (ho : o.op = .load ty x)
    (g : Nat) (hx : a.eval x = .pointer (some ⟨g, 0, none⟩)) (t : TypeId) (cs : Array Value) (fr : Nat × Nat) (d : TypeDesc) (hg : w.heap[g]? = some (.cells cs t fr))
    (hu : P.underlying ty = some d) (hd : (match d with | .struct _ | .array _ _ => true | _ => false) = true) (hi : (P.info? ty).map (·.size) = some cs.size)
    (h : N (.agg cs) w) : runsTo P o a w N := by
  unfold runsTo execOp
  simp only [ho, hx, Instr.loadAt, Instr.sureAddr, Sem.run_bind, Sem.run_pure, Result.andThen_ok, run_loadVar_row w g t ty cs fr d hg hu hd hi]
  exact h
theorem flow_step {X : Extra} {md : Region.Mode} {k : Nat} {ops : Array Oper} {Q : Act → Prop} {o : Oper} {rest : List Oper} {a : Act} {mA mB mC : Nat} (hsp : RowKit.Hid (∀ k, X.sp k = (k == mA || k == mB || k == mC))) (v : Value) (hk' : (k == mA || k == mB || k == mC) = false) (hw : Region.wanted o (yielded ops a.tmps) = true)
    (h : ∀ s w, X.R s w → runsTo P o a w (fun u w' => u = v ∧ X.R s w')) (hk : wpFlow P md ops X Q (k + 1) rest (a.put o.dst v)) : wpFlow P md ops X Q k (o :: rest) a := by
  have hs : X.sp k = false := by rw [hsp.out]; exact hk'
  refine ⟨v, ?_, ?_⟩
  · unfold Y; rw [if_neg (by simp [hs])]; unfold YieldsR; rw [if_pos hw]; exact h
  · unfold eff; rw [if_neg (by simp [hs])]; exact hk
theorem flow_sp {X : Extra} {md : Region.Mode} {k : Nat} {ops : Array Oper} {Q : Act → Prop} {o : Oper} {rest : List Oper} {a : Act} {mA mB mC : Nat} (hsp : RowKit.Hid (∀ k, X.sp k = (k == mA || k == mB || k == mC))) (hk' : (k == mA || k == mB || k == mC) = true)
    (h : YieldsS P md ops X k o a) (hk : wpFlow P md ops X Q (k + 1) rest a) : wpFlow P md ops X Q k (o :: rest) a := by
  have hs : X.sp k = true := by rw [hsp.out]; exact hk'
  refine ⟨undef, ?_, ?_⟩
  · unfold Y; rw [if_pos hs]; exact h
  · unfold eff; rw [if_pos hs]; exact hk
theorem flow_nil {X : Extra} {md : Region.Mode} {k : Nat} {ops : Array Oper} {Q : Act → Prop} {a : Act} (h : Q a) : wpFlow P md ops X Q k [] a := h
end
end FlowY
end Go.Proofs.YtboknfppecgjmaaGreat
namespace Go.Proofs.YtboknfppecgjmaaGreat
set_option linter.unusedVariables false
set_option linter.unusedSimpArgs false
namespace FlowA
open Flow
section
variable {P : Program} {ops : Array Oper} {md : Region.Mode} {R : Option Nat → World → Prop} {m : Nat}
def YieldsR (P : Program) (ops : Array Oper) (R : Option Nat → World → Prop) (m i : Nat) (o : Oper) (v : Value) (a : Act) : Prop :=
  if i = m then v = undef else if Region.wanted o (yielded ops a.tmps) then ∀ s w, R s w → runsTo P o a w (fun u w' => u = v ∧ R s w') else v = undef
def wpFlow (P : Program) (ops : Array Oper) (R : Option Nat → World → Prop) (m : Nat) (Q : Act → Prop) : Nat → List Oper → Act → Prop
  | _, [], a => Q a
  | k, o :: rest, a => ∃ v, YieldsR P ops R m k o v a ∧ wpFlow P ops R m Q (k + 1) rest (a.put o.dst v)
def flOp (P : Program) (ops : Array Oper) (R : Option Nat → World → Prop) (m i : Nat) (K : Act → Prop) (a : Act) : Prop :=
  match ops[i]? with
  | none => K a
  | some o => ∃ v, YieldsR P ops R m i o v a ∧ K (a.put o.dst v)
def wpAnyL (P : Program) (md : Region.Mode) (ops : Array Oper) (R : Option Nat → World → Prop) (m n : Nat) (L : Array Bool → Act → Prop) : Nat → Array Bool → Act → Prop
  | 0, listed, a => L listed a
  | f + 1, listed, a =>
    Region.ready md ops listed ≠ [] ∧ ∀ i ∈ Region.ready md ops listed, i < n ∧ flOp P ops R m i (wpAnyL P md ops R m n L f (listed.setIfInBounds i true)) a
abbrev ptr (b : Nat) : Value := .pointer (some ⟨b, 0, none⟩)
def act (d : Tmp) (s : Option Nat) (a : Act) : Act := match s with | none => a | some b => a.put (some d) (ptr b)
structure Makes (P : Program) (ops : Array Oper) (R : Option Nat → World → Prop) (m n : Nat) (d : Tmp) (om : Oper) (ob : Obj) : Prop where
  at_ : ops[m]? = some om
  dst : om.dst = some d
  free : om.guard = none
  run : ∀ (a : Act) (w : World), (execOp a.eval om).run P w = .ok (.value (ptr w.heap.size)) (w.alloc ob)
  apart : ∀ j oj, j < n → j ≠ m → ops[j]? = some oj → om.apart ops oj = true
  lets : ∀ w, R none w → R (some w.heap.size) (w.alloc ob)
def apartB (ops : Array Oper) (m n : Nat) (om : Oper) : Bool := (List.range n).all fun j => j == m || match ops[j]? with | some oj => om.apart ops oj | none => true
theorem made_cells {w : World} {b : Nat} {zs : Array Value} {T : TypeId} (h : w.heap[b]? = some (.cells zs T)) : (∀ o, w.cell? ⟨b, o, none⟩ = zs[o]?) ∧ (∀ o, w.frozen? ⟨b, o, none⟩ = false) ∧ b < w.heap.size := by
  refine ⟨fun o => by simp [World.cell?, h], fun o => by simp [World.frozen?, h], (Array.getElem?_eq_some_iff.1 h).1⟩
end
end FlowA
end Go.Proofs.YtboknfppecgjmaaGreat
namespace Go.Proofs.YtboknfppecgjmaaGreat
set_option linter.unusedVariables false
set_option linter.unusedSimpArgs false
open Go.RowKit
def setL (cs : Array Value) : Nat → List Value → Array Value
  | _, [] => cs
  | o, v :: r => setL (cs.setIfInBounds o v) (o + 1) r
theorem setCells_heap (b : Nat) : ∀ (vs : List Value) (o : Nat) (w : World) (cs : Array Value) (T : TypeId), w.heap[b]? = some (.cells cs T) → (w.setCells b o vs).heap[b]? = some (.cells (setL cs o vs) T)
  | [], _, _, _, _, h => h
  | v :: r, o, w, cs, T, h => setCells_heap b r (o + 1) _ _ T (Go.heap_setCell_same w b o cs T v h)
theorem setCells_other (b k : Nat) (hk : k ≠ b) : ∀ (vs : List Value) (o : Nat) (w : World), (w.setCells b o vs).heap[k]? = w.heap[k]?
  | [], _, _ => rfl
  | v :: r, o, w => (setCells_other b k hk r (o + 1) _).trans (heap_setCell_other w _ k v hk)
theorem setCells_size (b : Nat) : ∀ (vs : List Value) (o : Nat) (w : World), (w.setCells b o vs).heap.size = w.heap.size
  | [], _, _ => rfl
  | v :: r, o, w => (setCells_size b r (o + 1) _).trans (by simp)
theorem setCells_os (b : Nat) : ∀ (vs : List Value) (o : Nat) (w : World), (w.setCells b o vs).os = w.os ∧ (w.setCells b o vs).tape = w.tape ∧ (w.setCells b o vs).output = w.output
  | [], _, _ => ⟨rfl, rfl, rfl⟩
  | v :: r, o, w => by
    obtain ⟨h1, h2, h3⟩ := setCells_os b r (o + 1) (w.setCell ⟨b, o, none⟩ v)
    exact ⟨h1, h2, h3⟩
structure Stored (b : Nat) (w w' : World) : Prop where
  other : ∀ k, k ≠ b → w'.heap[k]? = w.heap[k]?
  size : w'.heap.size = w.heap.size
  below : ∀ n, n ≤ b → Below n w w'
theorem stored_cells (b o : Nat) (vs : List Value) (w : World) : Stored b w (w.setCells b o vs) :=
  ⟨fun k hk => setCells_other b k hk vs o w, setCells_size b vs o w, fun n hn => ⟨(setCells_os b vs o w).1, (setCells_os b vs o w).2.1, (setCells_os b vs o w).2.2, by rw [setCells_size]; exact Nat.le_refl _, fun k hk => setCells_other b k (by omega) vs o w⟩⟩
theorem block_cells {w : World} {b : Nat} {cs : Array Value} {T : TypeId} (h : w.heap[b]? = some (.cells cs T)) : (∀ o, w.cell? ⟨b, o, none⟩ = cs[o]?) ∧ (∀ o, w.frozen? ⟨b, o, none⟩ = false) ∧ b < w.heap.size :=
  ⟨fun o => by simp [World.cell?, h], fun o => by simp [World.frozen?, h], (Array.getElem?_eq_some_iff.1 h).1⟩
theorem store4 {w : World} {b : Nat} {cs : Array Value} {T : TypeId} (h : w.heap[b]? = some (.cells cs T)) (o0 o1 o2 o3 : Nat) (p0 p1 p2 p3 : Value) (h1 : o1 = o0 + 1 := by rfl) (h2 : o2 = o0 + 2 := by rfl) (h3 : o3 = o0 + 3 := by rfl) :
    ∃ w', (((w.setCell ⟨b, o0, none⟩ p0).setCell ⟨b, o1, none⟩ p1).setCell ⟨b, o2, none⟩ p2).setCell ⟨b, o3, none⟩ p3 = w' ∧ w'.heap[b]? = some (.cells (setL cs o0 [p0, p1, p2, p3]) T) ∧ Stored b w w' := by
  subst h1 h2 h3
  exact ⟨_, rfl, setCells_heap b [p0, p1, p2, p3] o0 w cs T h, stored_cells b o0 [p0, p1, p2, p3] w⟩
end Go.Proofs.YtboknfppecgjmaaGreat
namespace Go.Proofs.YtboknfppecgjmaaGreat
set_option linter.unusedVariables false
set_option linter.unusedSimpArgs false
namespace FlowA
open Flow
section
variable {P : Program} {ops : Array Oper} {md : Region.Mode} {R : Option Nat → World → Prop} {m : Nat} {d : Tmp}
end
end FlowA
end Go.Proofs.YtboknfppecgjmaaGreat
namespace Go.Proofs.YtboknfppecgjmaaGreat
set_option linter.unusedVariables false
set_option linter.unusedSimpArgs false
namespace FlowM
open Flow
section
variable {P : Program} {ops : Array Oper} {md : Region.Mode} {R : Nat → World → Prop} {m q : Nat}
def YieldsR (P : Program) (ops : Array Oper) (R : Nat → World → Prop) (m q : Nat) (i : Nat) (o : Oper) (v : Value) (a : Act) : Prop :=
  if i = m then (if Region.wanted o (yielded ops a.tmps) then ∀ w, R 0 w → runsTo P o a w (fun u w' => u = v ∧ R 1 w') else v = undef ∧ ∀ w, R 0 w → R 1 w)
  else if i = q then (if Region.wanted o (yielded ops a.tmps) then ∀ w, R 1 w → runsTo P o a w (fun u w' => u = v ∧ R 2 w') else v = undef ∧ ∀ w, R 1 w → R 2 w)
  else if Region.wanted o (yielded ops a.tmps) then ∀ s w, R s w → runsTo P o a w (fun u w' => u = v ∧ R s w') else v = undef
theorem YieldsR.of_same {i : Nat} {o : Oper} {v : Value} {a a' : Act} (hy : YieldsR P ops R m q i o v a) (he : execOp a'.eval o = execOp a.eval o)
    (hw : Region.wanted o (yielded ops a'.tmps) = Region.wanted o (yielded ops a.tmps)) : YieldsR P ops R m q i o v a' := by
  unfold YieldsR runsTo at *
  rw [he, hw]
  exact hy
def wpFlow (P : Program) (ops : Array Oper) (R : Nat → World → Prop) (m q : Nat) (Q : Act → Prop) : Nat → List Oper → Act → Prop
  | _, [], a => Q a
  | k, o :: rest, a => ∃ v, YieldsR P ops R m q k o v a ∧ wpFlow P ops R m q Q (k + 1) rest (a.put o.dst v)
def flOp (P : Program) (ops : Array Oper) (R : Nat → World → Prop) (m q : Nat) (i : Nat) (K : Act → Prop) (a : Act) : Prop :=
  match ops[i]? with
  | none => K a
  | some o => ∃ v, YieldsR P ops R m q i o v a ∧ K (a.put o.dst v)
theorem flOp_mono {i : Nat} {a : Act} {K K' : Act → Prop} (h : ∀ a, K a → K' a) (hh : flOp P ops R m q i K a) : flOp P ops R m q i K' a := by
  unfold flOp at *
  split at hh
  · exact h _ hh
  · obtain ⟨v, hy, hk⟩ := hh; exact ⟨v, hy, h _ hk⟩
theorem flOp_put {i j : Nat} {oi oj : Oper} {v : Value} (hj : ops[j]? = some oj) (hap : oi.apart ops oj = true)
    (hsi : ∀ cs b, oi.op ≠ .select cs b) (hsj : ∀ cs b, oj.op ≠ .select cs b) {K : Act → Prop} {a : Act}
    (hy : YieldsR P ops R m q i oi v a) (h : flOp P ops R m q j K (a.put oi.dst v)) :
    flOp P ops R m q j (fun a' => YieldsR P ops R m q i oi v a' ∧ K (a'.put oi.dst v)) a := by
  obtain ⟨h1, h2, h3⟩ := Oper.apart_spec hap
  unfold flOp at *
  simp only [hj] at *
  obtain ⟨u, hu, hk⟩ := h
  refine ⟨u, hu.of_same (execOp_put oj hsj a oi.dst v h1).symm (wanted_put oj a oi.dst v h1).symm, hy.of_same (execOp_put oi hsi a oj.dst u h3) (wanted_put oi a oj.dst u h3), ?_⟩
  rw [← Act.put_comm a v u h2]; exact hk
def wpAnyL (P : Program) (md : Region.Mode) (ops : Array Oper) (R : Nat → World → Prop) (m q : Nat) (n : Nat) (L : Array Bool → Act → Prop) : Nat → Array Bool → Act → Prop
  | 0, listed, a => L listed a
  | f + 1, listed, a =>
    Region.ready md ops listed ≠ [] ∧ ∀ i ∈ Region.ready md ops listed, i < n ∧ flOp P ops R m q i (wpAnyL P md ops R m q n L f (listed.setIfInBounds i true)) a
def stg (m q : Nat) (listed : Array Bool) : Nat := (listed.getD m false).toNat + (listed.getD q false).toNat
theorem wpOp_of_flOp {i s : Nat} {a : Act} {w : World} {K : Act → Prop} {K' : Act → World → Prop} {Q' : Exit → Act → World → Prop} (hio : i < ops.size) (hm : i = m → s = 0) (hq : i = q → i ≠ m → s = 1) (hR : R s w)
    (h : ∀ a w, R (if i = m ∨ i = q then s + 1 else s) w → K a → K' a w) (hh : flOp P ops R m q i K a) : wpOp P ops Q' i K' a w := by
  unfold flOp at hh
  unfold wpOp
  split
  · rename_i ho; rw [Array.getElem?_eq_getElem hio] at ho; cases ho
  · rename_i o ho
    simp only [ho] at hh
    obtain ⟨v, hy, hk⟩ := hh
    unfold YieldsR at hy
    by_cases h1 : i = m
    · have hs := hm h1
      subst hs
      rw [if_pos (.inl h1)] at h
      rw [if_pos h1] at hy
      split
      · rename_i hw
        rw [if_pos hw] at hy
        exact .inl (wp_of_runsTo (fun u w' ⟨hu, hr⟩ => by subst hu; exact h _ _ hr hk) (hy w hR))
      · rename_i hw
        rw [if_neg hw] at hy
        obtain ⟨hv, hr⟩ := hy
        subst hv
        exact h _ _ (hr w hR) hk
    · rw [if_neg h1] at hy
      by_cases h2 : i = q
      · have hs := hq h2 h1
        subst hs
        rw [if_pos (.inr h2)] at h
        rw [if_pos h2] at hy
        split
        · rename_i hw
          rw [if_pos hw] at hy
          exact .inl (wp_of_runsTo (fun u w' ⟨hu, hr⟩ => by subst hu; exact h _ _ hr hk) (hy w hR))
        · rename_i hw
          rw [if_neg hw] at hy
          obtain ⟨hv, hr⟩ := hy
          subst hv
          exact h _ _ (hr w hR) hk
      · rw [if_neg h2] at hy
        rw [if_neg (by rintro (h | h) <;> contradiction)] at h
        split
        · rename_i hw
          rw [if_pos hw] at hy
          exact .inl (wp_of_runsTo (fun u w' ⟨hu, hr⟩ => by subst hu; exact h _ _ hr hk) (hy s w hR))
        · rename_i hw
          rw [if_neg hw] at hy
          subst hy
          exact h _ _ hR hk
theorem getD_other {listed : Array Bool} {i k : Nat} (h : i ≠ k) : (listed.setIfInBounds i true).getD k false = listed.getD k false := by
  simp [Array.getD_eq_getD_getElem?, Array.getElem?_setIfInBounds, h]
theorem getD_self {listed : Array Bool} {i : Nat} (h : i < listed.size) : (listed.setIfInBounds i true).getD i false = true := by
  simp [Array.getD_eq_getD_getElem?, Array.getElem?_setIfInBounds, h]
def pathB (ops : Array Oper) : List Nat → Bool
  | [] => true
  | [_] => true
  | i :: j :: r => (match ops[i]? with | some o => o.after.toList.any fun e => Region.binds .any e && e.on == j | none => false) && pathB ops (j :: r)
theorem path_edge {i j : Nat} {r : List Nat} (h : pathB ops (i :: j :: r) = true) : (∃ o, ops[i]? = some o ∧ ∃ e ∈ o.after, Region.binds .any e = true ∧ e.on = j) ∧ pathB ops (j :: r) = true := by
  simp only [pathB, Bool.and_eq_true] at h
  refine ⟨?_, h.2⟩
  cases ho : ops[i]? with
  | none => rw [ho] at h; simp at h
  | some o =>
    rw [ho] at h
    obtain ⟨e, he, hb⟩ := List.any_eq_true.1 h.1
    simp only [Bool.and_eq_true, beq_iff_eq] at hb
    exact ⟨o, rfl, e, by simpa using he, hb.1, hb.2⟩
theorem path_listed {n : Nat} {listed : Array Bool} (inv : HeadInv .any ops n listed) : ∀ (r : List Nat) (i k : Nat), pathB ops (i :: r) = true → (i :: r).getLast? = some k → listed.getD i false = true → listed.getD k false = true
  | [], i, k, _, hl, h => by simp at hl; subst hl; exact h
  | j :: r, i, k, hp, hl, h => by
    obtain ⟨⟨o, ho, e, he, hb, hon⟩, hp'⟩ := path_edge hp
    refine path_listed inv r j k hp' (by rw [← hl]; simp) ?_
    have := inv.closed i o ho h e he hb
    rw [hon] at this
    exact this
theorem path_ready {n : Nat} {listed : Array Bool} (inv : HeadInv .any ops n listed) {i j k : Nat} {r : List Nat} (hp : pathB ops (i :: j :: r) = true) (hl : (j :: r).getLast? = some k) (hi : i ∈ Region.ready .any ops listed) : listed.getD k false = true := by
  obtain ⟨⟨o, ho, e, he, hb, hon⟩, hp'⟩ := path_edge hp
  obtain ⟨_, o', ho', hall⟩ := mem_ready.1 hi
  rw [ho] at ho'
  cases ho'
  have h1 := hall e he hb
  rw [hon] at h1
  exact path_listed inv r j k hp' hl h1
theorem wpAny_of_head {n g : Nat} {j : Nat} {r : List Nat} (hmq : m ≠ q) (hp : pathB ops (q :: j :: r) = true) (hpl : (j :: r).getLast? = some m) (hn : n < ops.size) {L : Array Bool → Act → Prop} {Q' : Exit → Act → World → Prop}
    (hL : ∀ listed a w, R (stg m q listed) w → L listed a → wpAny P .any ops Q' g listed a w) :
    ∀ (f : Nat) (listed : Array Bool) (a : Act) (w : World), HeadInv .any ops n listed → R (stg m q listed) w → wpAnyL P .any ops R m q n L f listed a → wpAny P .any ops Q' (f + g) listed a w
  | 0, listed, a, w, _, hR, h => by rw [Nat.zero_add]; exact hL _ _ _ hR h
  | f + 1, listed, a, w, inv, hR, h => by
    rw [show f + 1 + g = (f + g) + 1 by omega]
    refine ⟨fun h0 => absurd h0 h.1, fun i hi => ?_⟩
    have hun := (mem_ready.1 hi).1
    have hun' := getD_both hun
    have hin := (h.2 i hi).1
    have hsz : i < listed.size := by rw [inv.size]; omega
    have hpq : listed.getD q false = true → listed.getD m false = true := path_listed inv (j :: r) q m hp (by rw [← hpl]; simp)
    refine wpOp_of_flOp (s := stg m q listed) (Nat.lt_trans hin hn) (fun h1 => ?_) (fun h1 h2 => ?_) hR (fun a' w' hR' h' => ?_) (h.2 i hi).2
    · subst h1
      have hqf : listed.getD q false = false := by
        cases hq : listed.getD q false
        · rfl
        · rw [hpq hq] at hun'; cases hun'
      unfold stg
      rw [hun', hqf]; rfl
    · subst h1
      have hm := path_ready inv hp hpl hi
      unfold stg
      rw [hm, hun']; rfl
    · refine wpAny_of_head hmq hp hpl hn hL f _ a' w' (inv.set hi hin) ?_ h'
      have e : stg m q (listed.setIfInBounds i true) = if i = m ∨ i = q then stg m q listed + 1 else stg m q listed := by
        unfold stg
        by_cases h1 : i = m
        · rw [if_pos (.inl h1)]
          subst h1
          rw [getD_self hsz, getD_other hmq, hun']
          simp; omega
        · by_cases h2 : i = q
          · rw [if_pos (.inr h2)]
            subst h2
            rw [getD_self hsz, getD_other h1, hun']
            simp
          · rw [if_neg (by rintro (h | h) <;> contradiction), getD_other h1, getD_other h2]
      rw [e]
      exact hR'
theorem wpAnyL_first {n i : Nat} {oi : Oper} {v : Value} {L : Array Bool → Act → Prop} (hi : ops[i]? = some oi) (hsel : ∀ (j : Nat) (o : Oper) cs b, ops[j]? = some o → o.op ≠ .select cs b)
    (hs : Region.sinkB md ops n = true) (hc : Region.chainB md ops n = true) (hn : n < ops.size) (hin : i < n)
    (hdone : ∀ listed a, L listed a → ∀ j ∈ Region.ready md ops listed, n ≤ j) :
    ∀ (f : Nat) (listed : Array Bool) (a : Act), HeadInv md ops n listed →
      (∀ j oj, ops[j]? = some oj → j ≠ i → listed.getD j true = false → (∀ e ∈ oj.after, Region.binds md e = true → e.on ≠ i) → oi.apart ops oj = true) →
      i ∈ Region.ready md ops listed → YieldsR P ops R m q i oi v a →
      wpAnyL P md ops R m q n L f (listed.setIfInBounds i true) (a.put oi.dst v) → wpAnyL P md ops R m q n L (f + 1) listed a := by
  intro f
  induction f with
  | zero =>
    intro listed a inv _ hr hy H
    have hun := (mem_ready.1 hr).1
    refine ⟨fun h => (by rw [h] at hr; cases hr), fun j hj => ?_⟩
    have hjn : j < n := by
      rcases Nat.lt_or_ge j n with h | h
      · exact h
      · exact absurd hj (tail_waits hs hc hn inv _ i rfl hin hun j h)
    refine ⟨hjn, ?_⟩
    by_cases hji : j = i
    · subst hji; unfold flOp; simp only [hi]; exact ⟨v, hy, H⟩
    · have := hdone _ _ H j (ready_mono hj hji)
      omega
  | succ f ih =>
    intro listed a inv hfree hr hy H
    have hun := (mem_ready.1 hr).1
    refine ⟨fun h => (by rw [h] at hr; cases hr), fun j hj => ?_⟩
    have hjn : j < n := by
      rcases Nat.lt_or_ge j n with h | h
      · exact h
      · exact absurd hj (tail_waits hs hc hn inv _ i rfl hin hun j h)
    refine ⟨hjn, ?_⟩
    by_cases hji : j = i
    · subst hji; unfold flOp; simp only [hi]; exact ⟨v, hy, H⟩
    · have h1 := (H.2 j (ready_mono hj hji)).2
      obtain ⟨hjun, oj, hoj, hall⟩ := mem_ready.1 hj
      have hnot : ∀ e ∈ oj.after, Region.binds md e = true → e.on ≠ i := fun e he hb heq => by
        have h1 := hall e he hb
        rw [heq, getD_both hun] at h1
        cases h1
      have h2 := flOp_put hoj (hfree j oj hoj hji hjun hnot) (fun cs b => hsel i oi cs b hi) (fun cs b => hsel j oj cs b hoj) hy h1
      have hfree' : ∀ k ok, ops[k]? = some ok → k ≠ i → (listed.setIfInBounds j true).getD k true = false →
          (∀ e ∈ ok.after, Region.binds md e = true → e.on ≠ i) → oi.apart ops ok = true := fun k ok hk hki hun hno => by
        refine hfree k ok hk hki ?_ hno
        by_cases hjk : j = k
        · subst hjk; exact hjun
        · rw [getD_set_ne true hjk] at hun; exact hun
      refine flOp_mono (fun a' h3 => ih (listed.setIfInBounds j true) a' (inv.set hj hjn) hfree' (ready_mono hr (Ne.symm hji)) h3.1 ?_) h2
      rw [Array.setIfInBounds_comm _ _ hji]
      exact h3.2
theorem wpAnyL_lex {n g : Nat} {Lq : Act → Prop} (hsel : Region.noSelect ops = true) (hs : Region.sinkB md ops n = true) (hc : Region.chainB md ops n = true) (hn : n < ops.size) (hm : m < n) (hq : q < n) :
    ∀ (l : List Oper) (k : Nat) (listed : Array Bool) (a : Act), (∀ j, j < l.length → l[j]? = ops[k + j]?) → k + l.length = n → HeadInv md ops n listed → (m < k → listed.getD m false = true) → (q < k → listed.getD q false = true) →
    Region.lexHead md ops g l.length k listed = true → wpFlow P ops R m q Lq k l a →
    wpAnyL P md ops R m q n (fun listed' a' => Region.seqB md ops g n listed' = true ∧ listed'.getD m false = true ∧ listed'.getD q false = true ∧ Lq a') l.length listed a
  | [], k, listed, a, _, hk, _, hz, hy, hB, h => by
    have : k = n := by simpa using hk
    subst this
    exact ⟨by simpa [Region.lexHead] using hB, hz hm, hy hq, h⟩
  | o :: l, k, listed, a, hl, hk, inv, hz, hzq, hB, h => by
    have h0 : ops[k]? = some o := by simpa using (hl 0 (by simp)).symm
    simp only [List.length_cons, Region.lexHead, Bool.and_eq_true] at hB
    obtain ⟨⟨hr, hf⟩, hB'⟩ := hB
    have hkn : k < n := by simp only [List.length_cons] at hk; omega
    have hr' : k ∈ Region.ready md ops listed := by simpa using hr
    have hsz : k < listed.size := by rw [inv.size]; omega
    obtain ⟨v, hy, hK⟩ := h
    exact wpAnyL_first h0 (Region.noSelect_spec hsel) hs hc hn hkn (fun listed' a' hL => seqB_ready hL.1) l.length listed a inv (Region.free_spec h0 hf) hr' hy
      (wpAnyL_lex hsel hs hc hn hm hq l (k + 1) _ _ (fun j hj => by have := hl (j + 1) (by simp; omega); simpa [Nat.add_assoc, Nat.add_comm 1 j] using this) (by simp only [List.length_cons] at hk; omega) (inv.set hr' hkn)
        (fun hmk => by
          by_cases h : k = m
          · subst h; exact getD_self hsz
          · rw [getD_other h]; exact hz (by omega))
        (fun hmk => by
          by_cases h : k = q
          · subst h; exact getD_self hsz
          · rw [getD_other h]; exact hzq (by omega)) hB' hK)
theorem wp_region_two {id : Nat} {Q : Exit → Act → World → Prop} {a : Act} {w : World} {l : List Oper} (R : Nat → World → Prop) (m q n j : Nat) (r : List Nat) (hmq : m ≠ q) (hmn : m < n) (hqn : q < n) (hp : pathB l.toArray (q :: j :: r) = true) (hpl : (j :: r).getLast? = some m)
    (hm : P.follows .mixedOrders = true) (hB : Region.lexTailB .any l.toArray n = true) (hR : R 0 { w with drawn := w.drawn + 1 })
    (h : wpFlow P l.toArray R m q (fun a' => ∀ w', R 2 w' → wpList P l.toArray Q (l.drop n) a' w') 0 (l.take n) a) : (Code.region id l.toArray true).wp P Q a w := by
  simp only [Region.lexTailB, Bool.and_eq_true, decide_eq_true_eq] at hB
  obtain ⟨⟨⟨⟨hsel, hn⟩, hs⟩, hc⟩, hlex⟩ := hB
  have hn' : n < l.length := by simpa using hn
  have htl : (l.take n).length = n := by simp; omega
  have hdl : (l.drop n).length = l.toArray.size - n := by simp
  have inv0 : HeadInv .any l.toArray n (Array.replicate l.toArray.size false) :=
    ⟨by simp, fun j oj _ hl => (by rw [getD_replicate_false] at hl; cases hl), fun t _ ht => getD_in (by simpa using ht) (getD_replicate_false _ _)⟩
  refine wp_region_any hm ?_
  have key := wpAnyL_lex (P := P) (R := R) (m := m) (q := q) (g := l.toArray.size - n) (md := .any) hsel hs hc hn hmn hqn (l.take n) 0 (Array.replicate l.toArray.size false) a
    (fun j hj => by rw [List.getElem?_take, if_pos (by omega)]; simp) (by omega) inv0 (fun h => absurd h (by omega)) (fun h => absurd h (by omega)) (by rw [htl]; exact hlex) h
  rw [htl] at key
  have h2 := wpAny_of_head (P := P) (R := R) (m := m) (q := q) (ops := l.toArray) (n := n) (g := l.toArray.size - n) (Q' := Q) hmq hp hpl hn
    (L := fun listed' a' => Region.seqB .any l.toArray (l.toArray.size - n) n listed' = true ∧ listed'.getD m false = true ∧ listed'.getD q false = true ∧ ∀ w', R 2 w' → wpList P l.toArray Q (l.drop n) a' w')
    (fun listed' a' w' hR' hL => by
      have hst : stg m q listed' = 2 := by unfold stg; rw [hL.2.1, hL.2.2.1]; rfl
      rw [hst] at hR'
      have := wpAny_of_seq (P := P) (md := .any) (ops := l.toArray) (Q' := Q) (l.drop n) n listed' a' w' (fun j => by simp) (by rw [hdl]; exact hL.1) (hL.2.2.2 w' hR')
      rwa [hdl] at this) n _ _ { w with drawn := w.drawn + 1 } inv0 (by
        have : stg m q (Array.replicate l.toArray.size false) = 0 := by unfold stg; rw [getD_replicate_false, getD_replicate_false]; rfl
        rw [this]; exact hR) key
  have : n + (l.toArray.size - n) = l.toArray.size := by omega
  rwa [this] at h2
theorem flow_step {k : Nat} {ops : Array Oper} {Q : Act → Prop} {o : Oper} {rest : List Oper} {a : Act} (v : Value) (hkm : (k == m) = false) (hkq : (k == q) = false) (hw : Region.wanted o (yielded ops a.tmps) = true)
    (h : ∀ s w, R s w → runsTo P o a w (fun u w' => u = v ∧ R s w')) (hk : wpFlow P ops R m q Q (k + 1) rest (a.put o.dst v)) : wpFlow P ops R m q Q k (o :: rest) a :=
  ⟨v, by unfold YieldsR; rw [if_neg (by simpa using hkm), if_neg (by simpa using hkq), if_pos hw]; exact h, hk⟩
theorem flow_skip {k : Nat} {ops : Array Oper} {Q : Act → Prop} {o : Oper} {rest : List Oper} {a : Act} (hkm : (k == m) = false) (hkq : (k == q) = false) (hw : Region.wanted o (yielded ops a.tmps) = false)
    (hk : wpFlow P ops R m q Q (k + 1) rest (a.put o.dst undef)) : wpFlow P ops R m q Q k (o :: rest) a :=
  ⟨undef, by unfold YieldsR; rw [if_neg (by simpa using hkm), if_neg (by simpa using hkq), if_neg (by rw [hw]; simp)], hk⟩
theorem flow_one {k : Nat} {ops : Array Oper} {Q : Act → Prop} {o : Oper} {rest : List Oper} {a : Act} (v : Value) (hkm : (k == m) = true) (hw : Region.wanted o (yielded ops a.tmps) = true)
    (h : ∀ w, R 0 w → runsTo P o a w (fun u w' => u = v ∧ R 1 w')) (hk : wpFlow P ops R m q Q (k + 1) rest (a.put o.dst v)) : wpFlow P ops R m q Q k (o :: rest) a :=
  ⟨v, by unfold YieldsR; rw [if_pos (by simpa using hkm), if_pos hw]; exact h, hk⟩
theorem flow_one_no {k : Nat} {ops : Array Oper} {Q : Act → Prop} {o : Oper} {rest : List Oper} {a : Act} (hkm : (k == m) = true) (hw : Region.wanted o (yielded ops a.tmps) = false)
    (h : ∀ w, R 0 w → R 1 w) (hk : wpFlow P ops R m q Q (k + 1) rest (a.put o.dst undef)) : wpFlow P ops R m q Q k (o :: rest) a :=
  ⟨undef, by unfold YieldsR; rw [if_pos (by simpa using hkm), if_neg (by rw [hw]; simp)]; exact ⟨rfl, h⟩, hk⟩
theorem flow_two {k : Nat} {ops : Array Oper} {Q : Act → Prop} {o : Oper} {rest : List Oper} {a : Act} (v : Value) (hkm : (k == m) = false) (hkq : (k == q) = true) (hw : Region.wanted o (yielded ops a.tmps) = true)
    (h : ∀ w, R 1 w → runsTo P o a w (fun u w' => u = v ∧ R 2 w')) (hk : wpFlow P ops R m q Q (k + 1) rest (a.put o.dst v)) : wpFlow P ops R m q Q k (o :: rest) a :=
  ⟨v, by unfold YieldsR; rw [if_neg (by simpa using hkm), if_pos (by simpa using hkq), if_pos hw]; exact h, hk⟩
theorem flow_two_no {k : Nat} {ops : Array Oper} {Q : Act → Prop} {o : Oper} {rest : List Oper} {a : Act} (hkm : (k == m) = false) (hkq : (k == q) = true) (hw : Region.wanted o (yielded ops a.tmps) = false)
    (h : ∀ w, R 1 w → R 2 w) (hk : wpFlow P ops R m q Q (k + 1) rest (a.put o.dst undef)) : wpFlow P ops R m q Q k (o :: rest) a :=
  ⟨undef, by unfold YieldsR; rw [if_neg (by simpa using hkm), if_pos (by simpa using hkq), if_neg (by rw [hw]; simp)]; exact ⟨rfl, h⟩, hk⟩
theorem flow_nil {k : Nat} {ops : Array Oper} {Q : Act → Prop} {a : Act} (h : Q a) : wpFlow P ops R m q Q k [] a := h
end
end FlowM
end Go.Proofs.YtboknfppecgjmaaGreat
namespace Go.Proofs.YtboknfppecgjmaaGreat
set_option linter.unusedVariables false
set_option linter.unusedSimpArgs false
namespace FlowQ
open Flow (runsTo bcell)
open FlowX
open FlowY (sl getD_other)
section
variable {P : Program} {d : Tmp} {nA : Nat}
def M (d : Tmp) (nA : Nat) (s : Option Nat) (a : Act) : Act := match s with | none => a | some b => a.put (some d) (sl nA b)
def fineB (ops : Array Oper) (n m : Nat) (d : Tmp) : Bool :=
  ((List.range ops.size).all fun j => j == m || match ops[j]? with | some o => o.dst != some d && (decide (n ≤ j) || !(o.looksAt ops).contains d) | none => true) &&
  (match ops[m]? with | some o => o.dst == some d && o.guard.isNone && !(o.looksAt ops).contains d | none => false) && decide (m < n)
theorem wp_region_slice {id : Nat} {Q : Exit → Act → World → Prop} {a : Act} {w : World} {l : List Oper} (n m : Nat) (d : Tmp) (nA : Nat) (zA : Array Value) (TA : TypeId)
    (hfine : fineB l.toArray n m d = true) (hm : P.follows .mixedOrders = true) (hB : Region.lexTailB .any l.toArray n = true)
    (h : ∀ X : Extra, RowKit.Hid (∀ s w', X.R s w' → ∀ bl o, bl < w.heap.size → w'.cell? ⟨bl, o, none⟩ = w.cell? ⟨bl, o, none⟩) → RowKit.Hid (∀ s w' w'', X.R s w' → RowKit.Below w'.heap.size w' w'' → X.R s w'') →
      RowKit.Hid (∀ s w', X.R s w' → ∀ bl, bl < w.heap.size → w'.heap[bl]? = w.heap[bl]?) →
      RowKit.Hid (∀ k, X.sp k = (k == m)) →
      RowKit.Hid (∀ o a, l.toArray[m]? = some o → (∀ w, (execOp a.eval o).run P w = .ok (.value (sl nA w.heap.size)) (w.alloc (.cells zA TA))) → YieldsS P .any l.toArray X m o a) →
      wpFlow P .any l.toArray X (fun a' => ∀ b w', RowKit.Below w.heap.size w w' → w.heap.size ≤ b → w'.heap[b]? = some (.cells zA TA) → wpList P l.toArray Q (l.drop n) (a'.put (some d) (sl nA b)) w') 0 (l.take n) a) : (Code.region id l.toArray true).wp P Q a w := by
  have hlt := hB
  simp only [Region.lexTailB, Bool.and_eq_true, decide_eq_true_eq] at hlt
  have hsel := Region.noSelect_spec hlt.1.1.1.1
  simp only [fineB, Bool.and_eq_true, decide_eq_true_eq] at hfine
  obtain ⟨⟨f1, fA⟩, mn⟩ := hfine
  let RR : Option Nat → World → Prop := fun s w' => RowKit.Below w.heap.size w w' ∧ ∀ b, s = some b → w.heap.size ≤ b ∧ w'.heap[b]? = some (.cells zA TA)
  let X : Extra := ⟨Option Nat, RR, M d nA, fun k => k == m, fun listed s => s.isSome = listed.getD m false⟩
  have ord : ∀ j o, l.toArray[j]? = some o → X.sp j = false → o.dst ≠ some d ∧ (j < n → d ∉ o.looksAt l.toArray) := by
    intro j o ho hs
    have hs' : (j == m) = false := hs
    have := List.all_eq_true.1 f1 j (List.mem_range.2 (Array.getElem?_eq_some_iff.1 ho).1)
    simp only [hs', ho, Bool.false_or, Bool.and_eq_true, Bool.or_eq_true, bne_iff_ne, ne_eq, decide_eq_true_eq, Bool.not_eq_true', List.contains_eq_mem, decide_eq_false_iff_not] at this
    exact ⟨this.1, fun hj => this.2.resolve_left (by omega)⟩
  have A : Apt .any l.toArray X n := by
    refine ⟨fun j o ho hs s a v => ?_, fun j o hj ho hs s a => ?_, fun i listed s hi hr hs hv => ?_⟩
    · obtain ⟨h1, _⟩ := ord j o ho hs
      cases s with
      | none => rfl
      | some b =>
        show (a.put o.dst v).put (some d) (sl nA b) = (a.put (some d) (sl nA b)).put o.dst v
        exact (Act.put_comm a (sl nA b) v (fun e he hx => h1 (by rw [hx, he]))).symm
    · obtain ⟨_, h4⟩ := ord j o ho hs
      have k1 := h4 hj
      cases s with
      | none => exact ⟨rfl, rfl⟩
      | some b => exact ⟨execOp_put o (fun cs b => hsel j o cs b ho) a (some d) _ (fun e he => by cases he; exact k1), wanted_put o a (some d) _ (fun e he => by cases he; exact k1)⟩
    · have hs' : (i == m) = false := hs
      simp only [beq_eq_false_iff_ne] at hs'
      have hv' : s.isSome = listed.getD m false := hv
      show s.isSome = _
      rw [getD_other hs']; exact hv'
  have alloc_new : ∀ (w' : World) (o : Obj), (w'.alloc o).heap[w'.heap.size]? = some o := by
    intro w' o; show (w'.heap.push o)[w'.heap.size]? = _; simp
  refine FlowX.wp_region_flow X n A (none : Option Nat) hm hB ?_ ?_ rfl ?_
  · show (none : Option Nat).isSome = _
    rw [getD_replicate_false]; rfl
  · exact ⟨⟨rfl, rfl, rfl, Nat.le_refl _, fun _ _ => rfl⟩, (fun b hb => by cases hb)⟩
  · have h1 := h X (fun s w' hw' bl o hbl => (bcell hw'.1).1 _ _ hbl)
      (fun s w' w'' hw' hb => ⟨hw'.1.trans (hb.mono hw'.1.size), fun b hs => ⟨(hw'.2 b hs).1, by
        have h2 := (hw'.2 b hs).2
        rw [hb.block b (Array.getElem?_eq_some_iff.1 h2).1]; exact h2⟩⟩)
      (fun s w' hw' bl hbl => hw'.1.block bl hbl)
      (fun k => rfl) ?_
    · refine wpFlow_mono (fun a' hq listed s w' hall hv hR => ?_) _ _ _ h1
      have v1 : Option.isSome s = listed.getD m false := hv
      rw [hall m mn] at v1
      obtain ⟨b, rfl⟩ := Option.isSome_iff_exists.1 v1
      exact hq b w' hR.1 (hR.2 _ rfl).1 (hR.2 _ rfl).2
    · intro o a' ho hrun
      rw [ho] at fA
      simp only [Bool.and_eq_true, beq_iff_eq, Bool.not_eq_true', List.contains_eq_mem, decide_eq_false_iff_not, Option.isNone_iff_eq_none] at fA
      obtain ⟨⟨gd, gg⟩, g1⟩ := fA
      refine ⟨gg, fun listed s w' hr hv hR => ?_⟩
      have hun := (mem_ready.1 hr).1
      have hs1 : s = none := by
        have : Option.isSome s = false := by rw [show Option.isSome s = _ from hv]; exact getD_both hun
        simpa using this
      subst hs1
      unfold runsTo
      rw [show execOp (X.M none a').eval o = execOp a'.eval o from rfl, hrun]
      refine ⟨some w'.heap.size, ?_, ⟨hR.1.alloc hR.1.size _, fun b hb => ?_⟩, fun a2 => ?_⟩
      · show (some w'.heap.size).isSome = _
        rw [getD_self hun]; rfl
      · cases hb; exact ⟨hR.1.size, alloc_new _ _⟩
      · rw [gd]; rfl
theorem flow_step {X : Extra} {md : Region.Mode} {k : Nat} {ops : Array Oper} {Q : Act → Prop} {o : Oper} {rest : List Oper} {a : Act} {m : Nat} (hsp : RowKit.Hid (∀ k, X.sp k = (k == m))) (v : Value) (hk' : (k == m) = false) (hw : Region.wanted o (yielded ops a.tmps) = true)
    (h : ∀ s w, X.R s w → runsTo P o a w (fun u w' => u = v ∧ X.R s w')) (hk : wpFlow P md ops X Q (k + 1) rest (a.put o.dst v)) : wpFlow P md ops X Q k (o :: rest) a := by
  have hs : X.sp k = false := by rw [hsp.out]; exact hk'
  refine ⟨v, ?_, ?_⟩
  · unfold Y; rw [if_neg (by simp [hs])]; unfold YieldsR; rw [if_pos hw]; exact h
  · unfold eff; rw [if_neg (by simp [hs])]; exact hk
theorem flow_sp {X : Extra} {md : Region.Mode} {k : Nat} {ops : Array Oper} {Q : Act → Prop} {o : Oper} {rest : List Oper} {a : Act} {m : Nat} (hsp : RowKit.Hid (∀ k, X.sp k = (k == m))) (hk' : (k == m) = true)
    (h : YieldsS P md ops X k o a) (hk : wpFlow P md ops X Q (k + 1) rest a) : wpFlow P md ops X Q k (o :: rest) a := by
  have hs : X.sp k = true := by rw [hsp.out]; exact hk'
  refine ⟨undef, ?_, ?_⟩
  · unfold Y; rw [if_pos hs]; exact h
  · unfold eff; rw [if_pos hs]; exact hk
theorem flow_nil {X : Extra} {md : Region.Mode} {k : Nat} {ops : Array Oper} {Q : Act → Prop} {a : Act} (h : Q a) : wpFlow P md ops X Q k [] a := h
end
end FlowQ
end Go.Proofs.YtboknfppecgjmaaGreat
