/- Part 22 of the proof's texts: R12. -/
import Derived.Test.YtboknfppecgjmaaGreatExa2
import Derived.Test.YtboknfppecgjmaaGreatExa16
import Derived.Test.YtboknfppecgjmaaGreatExa21
set_option maxHeartbeats 16000000
namespace Go.Proofs.YtboknfppecgjmaaGreat
set_option linter.unusedVariables false
set_option linter.unusedSimpArgs false
open Go.RowKit Go.Shelf
theorem wordv_c (x : BitVec 32) (w : World) : Calls Tryz.prog 46 #[uv x] w fun e w' => e = .returned (vv (V.word x)) ∧ Below w.heap.size w w' := by
  go_enter Tryz.func46, Tryz.ntmps46
  go_wp2
  refine Flow.bodyPost_k rfl (fun K hK => ?_)
  simp only [results, Tryz.results46]
  go_simp
  refine hK _ ⟨?_, ?_⟩
  · rfl
  · (repeat (first | exact Below.refl _ _ | refine Below.setCell ?_ (by first | omega | (simp <;> omega)) _ | refine Below.alloc ?_ (by first | omega | (simp <;> omega)) _ | refine Below.drew ?_ | refine Below.trans ?_ (Below.mono (by assumption) (by first | omega | (simp <;> omega)))))
theorem one12_c (b : Bool) (w : World) : Calls Tryz.prog 48 #[.bool b] w fun e w' => e = .returned (vv (Vb.one b)) ∧ Below w.heap.size w w' := by
  cases b
  · go_enter Tryz.func48, Tryz.ntmps48
    go_wp2_with fail
    (refine (wordv_c 0#32 _ ).mono ?_; rintro e u1 ⟨rfl, hb⟩; obtain ⟨hc, hf⟩ := Flow.bcell hb; have hz := hb.size; (try simp only [World.size_alloc, World.size_setCell, World.size_drew] at hz); obtain z0 := Flow.zs1 (show w.heap.size + 1 ≤ u1.heap.size by omega))
    go_wp2_with fail
    refine Flow.bodyPost_k rfl (fun K hK => ?_)
    simp only [results, Tryz.results48]
    go_simp
    refine hK _ ⟨?_, ?_⟩
    · rfl
    · (repeat (first | exact Below.refl _ _ | refine Below.setCell ?_ (by first | omega | (simp <;> omega)) _ | refine Below.alloc ?_ (by first | omega | (simp <;> omega)) _ | refine Below.drew ?_ | refine Below.trans ?_ (Below.mono (by assumption) (by first | omega | (simp <;> omega)))))
  · go_enter Tryz.func48, Tryz.ntmps48
    go_wp2_with fail
    (refine (wordv_c 1#32 _ ).mono ?_; rintro e u1 ⟨rfl, hb⟩; obtain ⟨hc, hf⟩ := Flow.bcell hb; have hz := hb.size; (try simp only [World.size_alloc, World.size_setCell, World.size_drew] at hz); obtain z0 := Flow.zs1 (show w.heap.size + 1 ≤ u1.heap.size by omega))
    go_wp2_with fail
    refine Flow.bodyPost_k rfl (fun K hK => ?_)
    simp only [results, Tryz.results48]
    go_simp
    refine hK _ ⟨?_, ?_⟩
    · rfl
    · (repeat (first | exact Below.refl _ _ | refine Below.setCell ?_ (by first | omega | (simp <;> omega)) _ | refine Below.alloc ?_ (by first | omega | (simp <;> omega)) _ | refine Below.drew ?_ | refine Below.trans ?_ (Below.mono (by assumption) (by first | omega | (simp <;> omega)))))
def V.neg (x : V) : V := ⟨~~~x.a, ~~~x.b, ~~~x.c, ~~~x.d⟩
set_option maxRecDepth 100000 in
theorem negated_c (x : V) (w : World) : Calls Tryz.prog 45 #[vv x] w fun e w' => e = .returned (vv (V.neg x)) ∧ Below w.heap.size w w' := by
  go_enter Tryz.func45, Tryz.ntmps45
  go_wp2
  refine Flow.bodyPost_k rfl (fun K hK => ?_)
  simp only [results, Tryz.results45]
  go_simp
  refine hK _ ⟨?_, ?_⟩
  · rfl
  · (repeat (first | exact Below.refl _ _ | refine Below.setCell ?_ (by first | omega | (simp <;> omega)) _ | refine Below.alloc ?_ (by first | omega | (simp <;> omega)) _ | refine Below.drew ?_ | refine Below.trans ?_ (Below.mono (by assumption) (by first | omega | (simp <;> omega)))))
theorem constant_c (p : Int) (w : World) : Calls Tryz.prog 94 #[iv p] w fun e w' => e = .returned (atk p) ∧ Below w.heap.size w w' := by
  go_enter Tryz.func94, Tryz.ntmps94
  go_wp2
  refine Flow.bodyPost_k rfl (fun K hK => ?_)
  simp only [results, Tryz.results94]
  go_simp
  refine hK _ ⟨?_, ?_⟩
  · rfl
  · (repeat (first | exact Below.refl _ _ | refine Below.setCell ?_ (by first | omega | (simp <;> omega)) _ | refine Below.alloc ?_ (by first | omega | (simp <;> omega)) _ | refine Below.drew ?_ | refine Below.trans ?_ (Below.mono (by assumption) (by first | omega | (simp <;> omega)))))
theorem second12_c (op ty : Int) (w : World) : Calls Tryz.prog 54 #[iv op, iv ty] w fun e w' => e = .returned (iv (Rf.secTy op ty)) ∧ Below w.heap.size w w' := by
  by_cases h : op = 30
  · subst h
    go_enter Tryz.func54, Tryz.ntmps54
    go_wp2
    go_ret
    exact ⟨rfl, by (repeat (first | exact Below.refl _ _ | refine Below.setCell ?_ (by first | omega | (simp <;> omega)) _ | refine Below.alloc ?_ (by first | omega | (simp <;> omega)) _ | refine Below.drew ?_ | refine Below.trans ?_ (Below.mono (by assumption) (by first | omega | (simp <;> omega)))))⟩
  · have hb : (op == 30) = false := by simpa using h
    have HV := Lib.hid (show Rf.secTy op ty = ty from if_neg h)
    clear h
    go_enter Tryz.func54, Tryz.ntmps54
    go_wp2
    go_ret
    exact ⟨by rw [HV.out]; rfl, by (repeat (first | exact Below.refl _ _ | refine Below.setCell ?_ (by first | omega | (simp <;> omega)) _ | refine Below.alloc ?_ (by first | omega | (simp <;> omega)) _ | refine Below.drew ?_ | refine Below.trans ?_ (Below.mono (by assumption) (by first | omega | (simp <;> omega)))))⟩
theorem wrap_i8 (n : Int) : IntKind.i8.wrap n = (n + 128) % 256 - 128 := by
  simp [IntKind.wrap, IntKind.bits, IntKind.signed]
  split <;> omega
theorem wrap_i16 (n : Int) : IntKind.i16.wrap n = (n + 32768) % 65536 - 32768 := by
  simp [IntKind.wrap, IntKind.bits, IntKind.signed]
  split <;> omega
theorem shift_bit (x : BitVec 32) (k : Nat) : (x >>> k) &&& 1#32 = 1#32 ↔ x.toNat / 2 ^ k % 2 = 1 := by
  constructor
  · intro h
    have h2 := congrArg BitVec.toNat h
    rw [BitVec.toNat_and, BitVec.toNat_ushiftRight, Nat.shiftRight_eq_div_pow] at h2
    have e : (1#32).toNat = 2 ^ 1 - 1 := rfl
    rw [e, Nat.and_two_pow_sub_one_eq_mod] at h2
    simpa using h2
  · intro h
    apply BitVec.eq_of_toNat_eq
    rw [BitVec.toNat_and, BitVec.toNat_ushiftRight, Nat.shiftRight_eq_div_pow]
    have e : (1#32).toNat = 2 ^ 1 - 1 := rfl
    rw [e, Nat.and_two_pow_sub_one_eq_mod]
    simpa using h
theorem or_high (x m : BitVec 32) (h : x &&& m = 0#32) : (x ||| m).toNat = (x.toNat + m.toNat) % 2 ^ 32 := by
  rw [← BitVec.add_eq_or_of_and_eq_zero _ _ h, BitVec.toNat_add]
theorem sgn1 (x : BitVec 32) (h : x.toNat < 2) : -U x % 4294967296 = U (Rf.signed x 1) := by
  rcases (show x = 0#32 ∨ x = 1#32 from (show x.toNat = 0 ∨ x.toNat = 1 by omega).imp (fun e => BitVec.eq_of_toNat_eq e) (fun e => BitVec.eq_of_toNat_eq e)) with rfl | rfl
  · decide
  · decide
theorem sgn8 (x : BitVec 32) (h : x.toNat < 256) : wrap32 (IntKind.i8.wrap (U x)) % 4294967296 = U (Rf.signed x 8) := by
  rw [wrap_i8]
  unfold wrap32 Rf.signed
  by_cases hb : x.toNat / 2 ^ 7 % 2 = 1
  · rw [if_pos ((shift_bit x 7).2 hb)]
    have hz : x &&& (4294967295#32 <<< 8) = 0#32 := (bv_low8 x).2 h
    unfold U
    rw [or_high _ _ hz, show (4294967295#32 <<< 8).toNat = 4294967040 from rfl]
    omega
  · rw [if_neg (fun h => hb ((shift_bit x 7).1 h))]
    unfold U
    omega
theorem sgn16 (x : BitVec 32) (h : x.toNat < 65536) : wrap32 (IntKind.i16.wrap (U x)) % 4294967296 = U (Rf.signed x 16) := by
  rw [wrap_i16]
  unfold wrap32 Rf.signed
  by_cases hb : x.toNat / 2 ^ 15 % 2 = 1
  · rw [if_pos ((shift_bit x 15).2 hb)]
    have hz : x &&& (4294967295#32 <<< 16) = 0#32 := (bv_low16 x).2 h
    unfold U
    rw [or_high _ _ hz, show (4294967295#32 <<< 16).toNat = 4294901760 from rfl]
    omega
  · rw [if_neg (fun h => hb ((shift_bit x 15).1 h))]
    unfold U
    omega
theorem sign1_c (x : BitVec 32) (h : x.toNat < 2) (w : World) : Calls Tryz.prog 47 #[iv (1 : Int), uv x] w fun e w' => e = .returned (uv (Rf.signed x 1)) ∧ Below w.heap.size w w' := by
  have HV := Lib.hid (sgn1 x h)
  clear h
  go_enter Tryz.func47, Tryz.ntmps47
  go_wp2
  go_ret
  exact ⟨ret_lit HV.out, by (repeat (first | exact Below.refl _ _ | refine Below.setCell ?_ (by first | omega | (simp <;> omega)) _ | refine Below.alloc ?_ (by first | omega | (simp <;> omega)) _ | refine Below.drew ?_ | refine Below.trans ?_ (Below.mono (by assumption) (by first | omega | (simp <;> omega)))))⟩
theorem sign8_c (x : BitVec 32) (h : x.toNat < 256) (w : World) : Calls Tryz.prog 47 #[iv (8 : Int), uv x] w fun e w' => e = .returned (uv (Rf.signed x 8)) ∧ Below w.heap.size w w' := by
  have HV := Lib.hid (sgn8 x h)
  clear h
  go_enter Tryz.func47, Tryz.ntmps47
  go_wp2
  go_ret
  exact ⟨ret_lit HV.out, by (repeat (first | exact Below.refl _ _ | refine Below.setCell ?_ (by first | omega | (simp <;> omega)) _ | refine Below.alloc ?_ (by first | omega | (simp <;> omega)) _ | refine Below.drew ?_ | refine Below.trans ?_ (Below.mono (by assumption) (by first | omega | (simp <;> omega)))))⟩
theorem sign16_c (x : BitVec 32) (h : x.toNat < 65536) (w : World) : Calls Tryz.prog 47 #[iv (16 : Int), uv x] w fun e w' => e = .returned (uv (Rf.signed x 16)) ∧ Below w.heap.size w w' := by
  have HV := Lib.hid (sgn16 x h)
  clear h
  go_enter Tryz.func47, Tryz.ntmps47
  go_wp2
  go_ret
  exact ⟨ret_lit HV.out, by (repeat (first | exact Below.refl _ _ | refine Below.setCell ?_ (by first | omega | (simp <;> omega)) _ | refine Below.alloc ?_ (by first | omega | (simp <;> omega)) _ | refine Below.drew ?_ | refine Below.trans ?_ (Below.mono (by assumption) (by first | omega | (simp <;> omega)))))⟩
theorem clip1_c (x : V) (w : World) : Calls Tryz.prog 44 #[iv (1 : Int), vv x] w fun e w' => e = .returned (vv (V.word (x.a &&& 1#32))) ∧ Below w.heap.size w w' := by
  go_enter Tryz.func44, Tryz.ntmps44
  go_wp2_with fail
  (refine (wordv_c (x.a &&& 1#32) _ ).mono ?_; rintro e u1 ⟨rfl, hb⟩; obtain ⟨hc, hf⟩ := Flow.bcell hb; have hz := hb.size; (try simp only [World.size_alloc, World.size_setCell, World.size_drew] at hz); obtain ⟨z0, z1⟩ := Flow.zs2 (show w.heap.size + 2 ≤ u1.heap.size by omega))
  go_wp2_with fail
  refine Flow.bodyPost_k rfl (fun K hK => ?_)
  simp only [results, Tryz.results44]
  go_simp
  refine hK _ ⟨?_, ?_⟩
  · rfl
  · (repeat (first | exact Below.refl _ _ | refine Below.setCell ?_ (by first | omega | (simp <;> omega)) _ | refine Below.alloc ?_ (by first | omega | (simp <;> omega)) _ | refine Below.drew ?_ | refine Below.trans ?_ (Below.mono (by assumption) (by first | omega | (simp <;> omega)))))
theorem clip8_c (x : V) (w : World) : Calls Tryz.prog 44 #[iv (8 : Int), vv x] w fun e w' => e = .returned (vv (V.word (x.a &&& 255#32))) ∧ Below w.heap.size w w' := by
  go_enter Tryz.func44, Tryz.ntmps44
  go_wp2_with fail
  (refine (wordv_c (x.a &&& 255#32) _ ).mono ?_; rintro e u1 ⟨rfl, hb⟩; obtain ⟨hc, hf⟩ := Flow.bcell hb; have hz := hb.size; (try simp only [World.size_alloc, World.size_setCell, World.size_drew] at hz); obtain ⟨z0, z1⟩ := Flow.zs2 (show w.heap.size + 2 ≤ u1.heap.size by omega))
  go_wp2_with fail
  refine Flow.bodyPost_k rfl (fun K hK => ?_)
  simp only [results, Tryz.results44]
  go_simp
  refine hK _ ⟨?_, ?_⟩
  · rfl
  · (repeat (first | exact Below.refl _ _ | refine Below.setCell ?_ (by first | omega | (simp <;> omega)) _ | refine Below.alloc ?_ (by first | omega | (simp <;> omega)) _ | refine Below.drew ?_ | refine Below.trans ?_ (Below.mono (by assumption) (by first | omega | (simp <;> omega)))))
theorem clip16_c (x : V) (w : World) : Calls Tryz.prog 44 #[iv (16 : Int), vv x] w fun e w' => e = .returned (vv (V.word (x.a &&& 65535#32))) ∧ Below w.heap.size w w' := by
  go_enter Tryz.func44, Tryz.ntmps44
  go_wp2_with fail
  (refine (wordv_c (x.a &&& 65535#32) _ ).mono ?_; rintro e u1 ⟨rfl, hb⟩; obtain ⟨hc, hf⟩ := Flow.bcell hb; have hz := hb.size; (try simp only [World.size_alloc, World.size_setCell, World.size_drew] at hz); obtain ⟨z0, z1⟩ := Flow.zs2 (show w.heap.size + 2 ≤ u1.heap.size by omega))
  go_wp2_with fail
  refine Flow.bodyPost_k rfl (fun K hK => ?_)
  simp only [results, Tryz.results44]
  go_simp
  refine hK _ ⟨?_, ?_⟩
  · rfl
  · (repeat (first | exact Below.refl _ _ | refine Below.setCell ?_ (by first | omega | (simp <;> omega)) _ | refine Below.alloc ?_ (by first | omega | (simp <;> omega)) _ | refine Below.drew ?_ | refine Below.trans ?_ (Below.mono (by assumption) (by first | omega | (simp <;> omega)))))
theorem clip32_c (x : V) (w : World) : Calls Tryz.prog 44 #[iv (32 : Int), vv x] w fun e w' => e = .returned (vv (V.word x.a)) ∧ Below w.heap.size w w' := by
  go_enter Tryz.func44, Tryz.ntmps44
  go_wp2_with fail
  (refine (wordv_c (x.a) _ ).mono ?_; rintro e u1 ⟨rfl, hb⟩; obtain ⟨hc, hf⟩ := Flow.bcell hb; have hz := hb.size; (try simp only [World.size_alloc, World.size_setCell, World.size_drew] at hz); obtain ⟨z0, z1⟩ := Flow.zs2 (show w.heap.size + 2 ≤ u1.heap.size by omega))
  go_wp2_with fail
  refine Flow.bodyPost_k rfl (fun K hK => ?_)
  simp only [results, Tryz.results44]
  go_simp
  refine hK _ ⟨?_, ?_⟩
  · rfl
  · (repeat (first | exact Below.refl _ _ | refine Below.setCell ?_ (by first | omega | (simp <;> omega)) _ | refine Below.alloc ?_ (by first | omega | (simp <;> omega)) _ | refine Below.drew ?_ | refine Below.trans ?_ (Below.mono (by assumption) (by first | omega | (simp <;> omega)))))
theorem clip128_c (x : V) (w : World) : Calls Tryz.prog 44 #[iv (128 : Int), vv x] w fun e w' => e = .returned (vv (x)) ∧ Below w.heap.size w w' := by
  go_enter Tryz.func44, Tryz.ntmps44
  go_wp2_with fail
  refine Flow.bodyPost_k rfl (fun K hK => ?_)
  simp only [results, Tryz.results44]
  go_simp
  refine hK _ ⟨?_, ?_⟩
  · rfl
  · (repeat (first | exact Below.refl _ _ | refine Below.setCell ?_ (by first | omega | (simp <;> omega)) _ | refine Below.alloc ?_ (by first | omega | (simp <;> omega)) _ | refine Below.drew ?_ | refine Below.trans ?_ (Below.mono (by assumption) (by first | omega | (simp <;> omega)))))
theorem clipn_c (ty : Int) (x : V) (e1 : (ty == 1) = false) (e8 : (ty == 8) = false) (e16 : (ty == 16) = false) (e32 : (ty == 32) = false) (e128 : (ty == 128) = false) (w : World) : Calls Tryz.prog 44 #[iv ty, vv x] w fun e w' => e = .returned (vv V.zero) ∧ Below w.heap.size w w' := by
  go_enter Tryz.func44, Tryz.ntmps44
  go_wp2_with fail
  refine Flow.bodyPost_k rfl (fun K hK => ?_)
  simp only [results, Tryz.results44]
  go_simp
  refine hK _ ⟨?_, ?_⟩
  · rfl
  · (repeat (first | exact Below.refl _ _ | refine Below.setCell ?_ (by first | omega | (simp <;> omega)) _ | refine Below.alloc ?_ (by first | omega | (simp <;> omega)) _ | refine Below.drew ?_ | refine Below.trans ?_ (Below.mono (by assumption) (by first | omega | (simp <;> omega)))))
theorem clip_c (ty : Int) (x : V) (w : World) : Calls Tryz.prog 44 #[iv ty, vv x] w fun e w' => e = .returned (vv (x.and (Vb.ones ty))) ∧ Below w.heap.size w w' := by
  have z : ∀ z : BitVec 32, z &&& 0#32 = 0#32 := fun z => by simp
  by_cases k1 : ty = 1
  · subst k1
    rw [ones_1, show x.and ⟨1#32, 0#32, 0#32, 0#32⟩ = V.word (x.a &&& 1#32) from ext4 rfl (z _) (z _) (z _)]
    exact clip1_c x w
  by_cases k8 : ty = 8
  · subst k8
    rw [ones_8, show x.and ⟨255#32, 0#32, 0#32, 0#32⟩ = V.word (x.a &&& 255#32) from ext4 rfl (z _) (z _) (z _)]
    exact clip8_c x w
  by_cases k16 : ty = 16
  · subst k16
    rw [ones_16, show x.and ⟨65535#32, 0#32, 0#32, 0#32⟩ = V.word (x.a &&& 65535#32) from ext4 rfl (z _) (z _) (z _)]
    exact clip16_c x w
  by_cases k32 : ty = 32
  · subst k32
    rw [ones_32, show x.and ⟨4294967295#32, 0#32, 0#32, 0#32⟩ = V.word x.a from ext4 (bv_all _) (z _) (z _) (z _)]
    exact clip32_c x w
  by_cases k128 : ty = 128
  · subst k128
    rw [ones_128, show x.and ⟨4294967295#32, 4294967295#32, 4294967295#32, 4294967295#32⟩ = x from ext4 (bv_all _) (bv_all _) (bv_all _) (bv_all _)]
    exact clip128_c x w
  rw [ones_other k1 k8 k16 k32 k128, show x.and V.zero = V.zero from ext4 (z _) (z _) (z _) (z _)]
  exact clipn_c ty x (by simpa using k1) (by simpa using k8) (by simpa using k16) (by simpa using k32) (by simpa using k128) w
set_option maxRecDepth 100000 in
theorem isUn12_w (op p to off r : Int) (hr : Hid (Rf.exUn op p to off = r)) (c1 c2 : Bool) (h1 : (r == to) = c1) (h2 : (to != 0) = c2) (w : World) : Calls Tryz.prog 43 #[iv op, iv p, iv to, iv off] w fun e w' => e = .returned (.bool (c1 && c2)) ∧ Below w.heap.size w w' := by
  cases c1
  all_goals
    cases c2
    all_goals
      go_enter Tryz.func43, Tryz.ntmps43
      go_wp2_with fail
      (refine (constant_c p _ ).mono ?_; rintro e u1 ⟨rfl, hb⟩; obtain ⟨hc, hf⟩ := Flow.bcell hb; have hz := hb.size; (try simp only [World.size_alloc, World.size_setCell, World.size_drew] at hz))
      go_wp2_with fail
      refine (exkun_c op p to off _ 0 _ _ (by go_simp) (by go_simp) (by go_simp) (by go_simp) (by go_simp) (by go_simp)).mono ?_
      rw [hr.out]
      rintro e u2 ⟨rfl, hb⟩
      obtain ⟨hc, hf⟩ := Flow.bcell hb
      have hz := hb.size
      simp only [World.size_alloc] at hz
      go_wp2_with fail
      go_ret
      exact ⟨rfl, by (repeat (first | exact Below.refl _ _ | refine Below.setCell ?_ (by first | omega | (simp <;> omega)) _ | refine Below.alloc ?_ (by first | omega | (simp <;> omega)) _ | refine Below.drew ?_ | refine Below.trans ?_ (Below.mono (by assumption) (by first | omega | (simp <;> omega)))))⟩
theorem isUn12_c (op p to off : Int) (w : World) : Calls Tryz.prog 43 #[iv op, iv p, iv to, iv off] w fun e w' => e = .returned (.bool (Vb.isUn op p to off)) ∧ Below w.heap.size w w' := by
  have h := exUn_iff op p to off
  have hv : Rf.exUn op p to off = to ∨ Rf.exUn op p to off = 0 := by
    unfold Rf.exUn
    split
    · exact .inl rfl
    · exact .inr rfl
  have e : Vb.isUn op p to off = ((Rf.exUn op p to off == to) && (to != 0)) := by
    rw [Bool.eq_iff_iff, ← h]
    simp only [Bool.and_eq_true, beq_iff_eq, bne_iff_ne]
    constructor
    · intro h0
      rcases hv with h1 | h1
      · exact ⟨h1, by rw [← h1]; exact h0⟩
      · exact absurd h1 h0
    · rintro ⟨h1, h2⟩
      rw [h1]; exact h2
  rw [e]
  exact isUn12_w op p to off _ (Lib.hid rfl) _ _ rfl rfl w
theorem result12_t (op ty : Int) (k1 : decide ((14 : Int) ≤ op) = true) (k2 : decide (op ≤ (19 : Int)) = true) (w : World) : Calls Tryz.prog 111 #[iv op, iv ty] w fun e w' => e = .returned (iv 1) ∧ Below w.heap.size w w' := by
  go_enter Tryz.func111, Tryz.ntmps111
  go_wp2
  go_ret
  exact ⟨rfl, by (repeat (first | exact Below.refl _ _ | refine Below.setCell ?_ (by first | omega | (simp <;> omega)) _ | refine Below.alloc ?_ (by first | omega | (simp <;> omega)) _ | refine Below.drew ?_ | refine Below.trans ?_ (Below.mono (by assumption) (by first | omega | (simp <;> omega)))))⟩
theorem result12_f (op ty : Int) (c : Bool) (k1 : decide ((14 : Int) ≤ op) = c) (k2 : c = true → decide (op ≤ (19 : Int)) = false) (w : World) : Calls Tryz.prog 111 #[iv op, iv ty] w fun e w' => e = .returned (iv ty) ∧ Below w.heap.size w w' := by
  cases c
  · clear k2
    go_enter Tryz.func111, Tryz.ntmps111
    go_wp2
    go_ret
    exact ⟨rfl, by (repeat (first | exact Below.refl _ _ | refine Below.setCell ?_ (by first | omega | (simp <;> omega)) _ | refine Below.alloc ?_ (by first | omega | (simp <;> omega)) _ | refine Below.drew ?_ | refine Below.trans ?_ (Below.mono (by assumption) (by first | omega | (simp <;> omega)))))⟩
  · have k3 := k2 rfl
    clear k2
    go_enter Tryz.func111, Tryz.ntmps111
    go_wp2
    go_ret
    exact ⟨rfl, by (repeat (first | exact Below.refl _ _ | refine Below.setCell ?_ (by first | omega | (simp <;> omega)) _ | refine Below.alloc ?_ (by first | omega | (simp <;> omega)) _ | refine Below.drew ?_ | refine Below.trans ?_ (Below.mono (by assumption) (by first | omega | (simp <;> omega)))))⟩
def Rf.resTy (op ty : Int) : Int := if 14 ≤ op ∧ op ≤ 19 then 1 else ty
theorem result12_c (op ty : Int) (w : World) : Calls Tryz.prog 111 #[iv op, iv ty] w fun e w' => e = .returned (iv (Rf.resTy op ty)) ∧ Below w.heap.size w w' := by
  by_cases h : 14 ≤ op ∧ op ≤ 19
  · rw [show Rf.resTy op ty = 1 from if_pos h]
    exact result12_t op ty (decide_eq_true h.1) (decide_eq_true h.2) w
  · rw [show Rf.resTy op ty = ty from if_neg h]
    exact result12_f op ty _ rfl (fun h1 => decide_eq_false (fun h2 => h ⟨of_decide_eq_true h1, h2⟩)) w
set_option maxRecDepth 100000 in
theorem isBin12_w (op ty off to r : Int) (hto : Hid (∀ w, Calls Tryz.prog 111 #[iv op, iv ty] w fun e w' => e = .returned (iv to) ∧ Below w.heap.size w w')) (hr : Hid (Rf.exBin op ty (Rf.secTy op ty) to off = r)) (c1 c2 : Bool) (h1 : (r == to) = c1) (h2 : (to != 0) = c2) (w : World) : Calls Tryz.prog 53 #[iv op, iv ty, iv off] w fun e w' => e = .returned (.bool (c1 && c2)) ∧ Below w.heap.size w w' := by
  cases c1
  all_goals
    cases c2
    all_goals
      go_enter Tryz.func53, Tryz.ntmps53
      go_wp2_with fail
      refine (hto.out _).mono ?_
      rintro e u0 ⟨rfl, hb⟩
      obtain ⟨hc, hf⟩ := Flow.bcell hb
      have hz := hb.size
      go_wp2_with fail
      (refine (constant_c ty _ ).mono ?_; rintro e u1 ⟨rfl, hb⟩; obtain ⟨hc, hf⟩ := Flow.bcell hb; have hz := hb.size; (try simp only [World.size_alloc, World.size_setCell, World.size_drew] at hz))
      go_wp2_with fail
      (refine (second12_c _ _ _).mono ?_; rintro e u3 ⟨rfl, hb⟩; obtain ⟨hc, hf⟩ := Flow.bcell hb; have hz := hb.size; (try simp only [World.size_alloc, World.size_setCell, World.size_drew] at hz))
      go_wp2_with fail
      (refine (constant_c (Rf.secTy op ty) _ ).mono ?_; rintro e u4 ⟨rfl, hb⟩; obtain ⟨hc, hf⟩ := Flow.bcell hb; have hz := hb.size; (try simp only [World.size_alloc, World.size_setCell, World.size_drew] at hz))
      go_wp2_with fail
      refine (exkbin_c op ty (Rf.secTy op ty) to off _ 0 _ _ ⟨by go_simp, by go_simp, by go_simp, by go_simp, by go_simp, by go_simp, by go_simp, by go_simp, by go_simp, by go_simp, by go_simp, by go_simp⟩).mono ?_
      rw [hr.out]
      rintro e u2 ⟨rfl, hb⟩
      obtain ⟨hc, hf⟩ := Flow.bcell hb
      have hz := hb.size
      simp only [World.size_alloc] at hz
      go_wp2_with fail
      go_ret
      exact ⟨rfl, by (repeat (first | exact Below.refl _ _ | refine Below.setCell ?_ (by first | omega | (simp <;> omega)) _ | refine Below.alloc ?_ (by first | omega | (simp <;> omega)) _ | refine Below.drew ?_ | refine Below.trans ?_ (Below.mono (by assumption) (by first | omega | (simp <;> omega)))))⟩
theorem isBin12_c (op ty off : Int) (w : World) : Calls Tryz.prog 53 #[iv op, iv ty, iv off] w fun e w' => e = .returned (.bool (decide (Vb.second op ty off ≠ 0))) ∧ Below w.heap.size w w' := by
  have h := exBin_iff op ty (Rf.resTy op ty) off (by unfold Rf.resTy; split <;> simp)
  have hc : (if op = 14 ∨ op = 15 ∨ (16 ≤ op ∧ op ≤ 19) then Rf.resTy op ty = 1 else Rf.resTy op ty = ty) := by
    unfold Rf.resTy
    by_cases hc : 14 ≤ op ∧ op ≤ 19
    · rw [if_pos (by omega), if_pos hc]
    · rw [if_neg (by omega), if_neg hc]
  have hv : Rf.exBin op ty (Rf.secTy op ty) (Rf.resTy op ty) off = Rf.resTy op ty ∨ Rf.exBin op ty (Rf.secTy op ty) (Rf.resTy op ty) off = 0 := by
    unfold Rf.exBin
    split
    · exact .inl rfl
    · exact .inr rfl
  have e : decide (Vb.second op ty off ≠ 0) = ((Rf.exBin op ty (Rf.secTy op ty) (Rf.resTy op ty) off == Rf.resTy op ty) && (Rf.resTy op ty != 0)) := by
    rw [Bool.eq_iff_iff, decide_eq_true_eq]
    have h' : Rf.exBin op ty (Rf.secTy op ty) (Rf.resTy op ty) off ≠ 0 ↔ Vb.second op ty off ≠ 0 := ⟨fun x => (h.1 x).1, fun x => h.2 ⟨x, hc⟩⟩
    rw [← h']
    simp only [Bool.and_eq_true, beq_iff_eq, bne_iff_ne]
    constructor
    · intro h0
      rcases hv with h1 | h1
      · exact ⟨h1, by rw [← h1]; exact h0⟩
      · exact absurd h1 h0
    · rintro ⟨h1, h2⟩
      rw [h1]; exact h2
  rw [e]
  exact isBin12_w op ty off _ _ (Lib.hid (fun w => result12_c op ty w)) (Lib.hid rfl) _ _ rfl rfl w
end Go.Proofs.YtboknfppecgjmaaGreat
