/- The reference's Un computes what package vbits computes. -/
import Derived.Test.YtboknfppecgjmaaRefUnB
import Derived.Test.YtboknfppecgjmaaPlainL
import Derived.Test.YtboknfppecgjmaaUn
import Derived.Test.YtboknfppecgjmaaExSpec
namespace Go.Proofs.Ytboknfppecgjmaa
set_option linter.unusedVariables false
set_option linter.unusedSimpArgs false
open Go.RowKit Go.Shelf
theorem word_of_small {ty : Int} {a : V} (h : Vb.is ty a = true) (ht : ty ≠ 128) : a = V.word a.a := by
  obtain ⟨h0, _, h2, h3, h4⟩ := is_parts h
  have e : ∀ z : BitVec 32, z &&& ~~~0#32 = 0#32 → z = 0#32 := fun z hz => (bv_all z).symm.trans hz
  have ho : (Vb.ones ty).b = 0#32 ∧ (Vb.ones ty).c = 0#32 ∧ (Vb.ones ty).d = 0#32 := by
    rcases isType_cases h0 with rfl | rfl | rfl | rfl | rfl
    · exact ⟨rfl, rfl, rfl⟩
    · exact ⟨rfl, rfl, rfl⟩
    · exact ⟨rfl, rfl, rfl⟩
    · exact ⟨rfl, rfl, rfl⟩
    · exact absurd rfl ht
  rw [ho.1] at h2; rw [ho.2.1] at h3; rw [ho.2.2] at h4
  exact ext4 rfl (e _ h2) (e _ h3) (e _ h4)
theorem isUn_small {op p to off : Int} (h : Vb.isUn op p to off = true) (ho : op = 2 ∨ op = 3) : (p = 1 ∨ p = 8 ∨ p = 16) ∧ to = 32 := by
  unfold Vb.isUn at h
  simp only at h
  split at h
  · cases h
  · have h1 : ¬ op = 1 := by omega
    (try rw [if_neg h1] at h)
    (try rw [if_pos ho] at h)
    simp only [Bool.and_eq_true, Bool.or_eq_true, beq_iff_eq] at h
    omega
theorem isUn_fill {p to off : Int} (h : Vb.isUn 6 p to off = true) : p = 1 := by
  unfold Vb.isUn at h
  simp only [show ¬ ((6 : Int) = 1) by decide, show ¬ ((6 : Int) = 2 ∨ (6 : Int) = 3) by decide, show ¬ ((6 : Int) = 4) by decide, show ¬ ((6 : Int) = 5) by decide, if_false, if_true] at h
  split at h
  · cases h
  · simp only [Bool.and_eq_true, beq_iff_eq] at h
    exact h.1
theorem same_small {p : Int} {a : V} (h : Vb.is p a = true) (hp : p = 1 ∨ p = 8 ∨ p = 16) : a.and (Vb.ones 32) = a := by
  rw [word_of_small h (by omega), ones_32]
  simp [V.and, V.map2, V.word, bv_all]
theorem bit_test (x : BitVec 32) (k : Nat) : (x >>> k) &&& 1#32 = 1#32 ↔ x.getLsbD k = true := by
  constructor
  · intro h
    have := congrArg (fun z => z.getLsbD 0) h
    simpa using this
  · intro h
    apply BitVec.eq_of_getLsbD_eq; intro i hi
    simp only [BitVec.getLsbD_and, BitVec.getLsbD_ushiftRight, BitVec.getLsbD_one]
    by_cases h0 : i = 0
    · subst h0; simp [h]
    · simp [h0]
theorem bit_mask (x : BitVec 32) (k : Nat) (hk : k < 32) (m : BitVec 32) (hm : m = 1#32 <<< k) : x &&& m ≠ 0 ↔ x.getLsbD k = true := by
  subst hm
  have hb : ∀ i, i < 32 → (1#32 <<< k).getLsbD i = decide (i = k) := by
    intro i hi
    simp only [BitVec.getLsbD_shiftLeft, BitVec.getLsbD_one, hi, decide_true, Bool.true_and]
    by_cases h : i = k
    · subst h; simp
    · have : ¬ i - k = 0 ∨ i < k := by omega
      rcases this with h1 | h1 <;> simp [h, h1]
  constructor
  · intro h
    cases hx : x.getLsbD k
    · exfalso
      apply h
      apply BitVec.eq_of_getLsbD_eq; intro i hi
      rw [BitVec.getLsbD_and, hb i hi]
      by_cases hik : i = k
      · subst hik; simp [hx]
      · simp [hik]
    · rfl
  · intro hx h
    have := congrArg (fun z => z.getLsbD k) h
    simp only [BitVec.getLsbD_and, hb k hk, hx] at this
    simp at this
theorem sext_eq {p : Int} {a : V} (h : Vb.is p a = true) (n : Nat) (hp : (p = 1 ∧ n = 1) ∨ (p = 8 ∧ n = 8) ∨ (p = 16 ∧ n = 16)) (x : V) (to off : Int) : Vb.unOp 3 ⟨x, a, p, to, off⟩ = V.word (Rf.signed a.a n) := by
  have hw := word_of_small h (by omega)
  show Vb.Unary.sext ⟨x, a, p, to, off⟩ = _
  unfold Vb.Unary.sext Rf.signed
  simp only
  rcases hp with ⟨rfl, rfl⟩ | ⟨rfl, rfl⟩ | ⟨rfl, rfl⟩
  · have t1 := bit_test a.a 0
    have t2 := bit_mask a.a 0 (by omega) ((Vb.ones 1).a &&& ~~~((Vb.ones 1).a >>> 1)) (by decide)
    by_cases hb : a.a.getLsbD 0 = true
    · rw [if_pos (t2.2 hb), if_pos (t1.2 hb)]
      rw [hw, ones_32, ones_1]
      simp [V.or, V.without, V.map2, V.word]
    · rw [if_neg (fun h => hb (t2.1 h)), if_neg (fun h => hb (t1.1 h))]
      exact hw
  · have t1 := bit_test a.a 7
    have t2 := bit_mask a.a 7 (by omega) ((Vb.ones 8).a &&& ~~~((Vb.ones 8).a >>> 1)) (by decide)
    by_cases hb : a.a.getLsbD 7 = true
    · rw [if_pos (t2.2 hb), if_pos (t1.2 hb)]
      rw [hw, ones_32, ones_8]
      simp [V.or, V.without, V.map2, V.word]
    · rw [if_neg (fun h => hb (t2.1 h)), if_neg (fun h => hb (t1.1 h))]
      exact hw
  · have t1 := bit_test a.a 15
    have t2 := bit_mask a.a 15 (by omega) ((Vb.ones 16).a &&& ~~~((Vb.ones 16).a >>> 1)) (by decide)
    by_cases hb : a.a.getLsbD 15 = true
    · rw [if_pos (t2.2 hb), if_pos (t1.2 hb)]
      rw [hw, ones_32, ones_16]
      simp [V.or, V.without, V.map2, V.word]
    · rw [if_neg (fun h => hb (t2.1 h)), if_neg (fun h => hb (t1.1 h))]
      exact hw
theorem runx_c (op p to off : Int) (x a : V) (w : World) : Calls Try.prog 36 #[iv op, iv p, iv to, iv off, vv x, vv a] w fun e w' => e = .returned (.tuple #[vv (Vb.un op p to off x a).1, iv (Vb.un op p to off x a).2]) ∧ Below w.heap.size w w' := by
  have no : ∀ (h : Vb.isUn op p to off = false ∨ Vb.is p x = false ∨ Vb.is p a = false), Vb.un op p to off x a = (V.zero, 1) := by
    intro h
    unfold Vb.un
    rcases h with h | h | h <;> rw [h] <;> simp
  by_cases h1 : Rf.exUn op p to off = 0
  · have hun : Vb.isUn op p to off = false := by
      cases h : Vb.isUn op p to off
      · rfl
      · exact absurd h1 ((exUn_iff _ _ _ _).2 h)
    rw [no (.inl hun)]
    exact run_e1 op p to off x a (by simpa using h1) w
  have hun := (exUn_iff _ _ _ _).1 h1
  have h1' : (Rf.exUn op p to off != 0) = true := by simpa using h1
  cases hx : Vb.is p x
  · rw [no (.inr (.inl hx))]
    exact run_e2 op p to off x a h1' hx w
  cases ha : Vb.is p a
  · rw [no (.inr (.inr ha))]
    exact run_e3 op p to off x a h1' hx ha w
  rw [un_fine hun hx ha]
  obtain ⟨hl, hu⟩ := isUn_range hun
  rcases (show op = 1 ∨ op = 2 ∨ op = 3 ∨ op = 4 ∨ op = 5 ∨ op = 6 ∨ op = 7 ∨ op = 8 ∨ op = 9 ∨ op = 10 ∨ op = 11 ∨ op = 12 ∨ op = 13 by omega) with rfl | rfl | rfl | rfl | rfl | rfl | rfl | rfl | rfl | rfl | rfl | rfl | rfl
  · exact run_1 1 p to off x a h1' hx ha (.inl rfl) w
  · obtain ⟨hp, rfl⟩ := isUn_small hun (.inl rfl)
    have hr : Vb.unOp 2 ⟨x, a, p, 32, off⟩ = a := same_small ha hp
    rw [hr]
    exact run_1 2 p 32 off x a h1' hx ha (.inr rfl) w
  · obtain ⟨hp, _⟩ := isUn_small hun (.inr rfl)
    rcases hp with rfl | rfl | rfl
    · rw [sext_eq ha 1 (by omega)]; exact run_3_1 to off x a h1' hx ha w
    · rw [sext_eq ha 8 (by omega)]; exact run_3_8 to off x a h1' hx ha w
    · rw [sext_eq ha 16 (by omega)]; exact run_3_16 to off x a h1' hx ha w
  · exact run_4 p to off x a h1' hx ha w
  · cases hd : Rf.undecided x a
    · have hr : Vb.unOp 5 ⟨x, a, p, to, off⟩ = V.word 0#32 := by
        show Vb.one (Rf.undecided x a) = _
        rw [hd]; rfl
      rw [hr]; exact run_5f p to off x a h1' hx ha hd w
    · have hr : Vb.unOp 5 ⟨x, a, p, to, off⟩ = V.word 1#32 := by
        show Vb.one (Rf.undecided x a) = _
        rw [hd]; rfl
      rw [hr]; exact run_5t p to off x a h1' hx ha hd w
  · have hp := isUn_fill hun
    have h01 : a = V.zero ∨ a = V.word 1#32 := is_one (by rw [hp] at ha; exact ha)
    by_cases hz : a.a = 0#32
    · have hr : Vb.unOp 6 ⟨x, a, p, to, off⟩ = V.zero := by
        show Vb.Unary.fill ⟨x, a, p, to, off⟩ = _
        unfold Vb.Unary.fill
        have : ¬ a.a = 1 := by rw [hz]; decide
        simp only [this, if_false]
      rw [hr]; exact run_6z p to off x a h1' hx ha (decide_eq_true hz) w
    · have hr : Vb.unOp 6 ⟨x, a, p, to, off⟩ = Vb.ones to := by
        show Vb.Unary.fill ⟨x, a, p, to, off⟩ = _
        rcases h01 with h | h
        · exact absurd (by rw [h]; rfl) hz
        · unfold Vb.Unary.fill
          have : a.a = 1 := by rw [h]; rfl
          simp only [this, if_true]
      rw [hr]; exact run_6n p to off x a h1' hx ha (decide_eq_false hz) w
  · exact run_7 p to off x a h1' hx ha w
  · have hr : Vb.unOp 8 ⟨x, a, p, to, off⟩ = Rf.lanesTo x a 8 16 := (lanesOf_eq x a (.inl rfl)).symm
    rw [hr]; exact run_8 p to off x a h1' hx ha w
  · have hr : Vb.unOp 9 ⟨x, a, p, to, off⟩ = Rf.lanesTo x a 16 8 := (lanesOf_eq x a (.inr (.inl rfl))).symm
    rw [hr]; exact run_9 p to off x a h1' hx ha w
  · have hr : Vb.unOp 10 ⟨x, a, p, to, off⟩ = Rf.lanesTo x a 32 4 := (lanesOf_eq x a (.inr (.inr rfl))).symm
    rw [hr]; exact run_10 p to off x a h1' hx ha w
  · exact run_11 p to off x a h1' hx ha w
  · obtain ⟨h0, h3⟩ := isUn_off hun
    rcases (show off = 0 ∨ off = 1 ∨ off = 2 ∨ off = 3 by omega) with rfl | rfl | rfl | rfl
    · exact run_12_0 p to x a h1' hx ha w
    · exact run_12_1 p to x a h1' hx ha w
    · exact run_12_2 p to x a h1' hx ha w
    · exact run_12_3 p to x a h1' hx ha w
  · have hr : Vb.unOp 13 ⟨x, a, p, to, off⟩ = V.word (Rf.maskTo a 16) := by
      rw [rmask_eq a 16 (by omega)]; rfl
    rw [hr]; exact run_13 p to off x a h1' hx ha w
end Go.Proofs.Ytboknfppecgjmaa
