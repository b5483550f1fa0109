/- Which expressions there are, by the reference candlingref10: plain functions. No program is in sight here. -/
import Derived.Test.YtboknfppecgjmaaGreatPlainC
namespace Go.Proofs.YtboknfppecgjmaaGreat
set_option linter.unusedVariables false
set_option linter.unusedSimpArgs false
namespace Rf
def unary (op from_ to : Int) : Bool :=
  if op = 1 then from_ == to && from_ != 0
  else if op = 2 ∨ op = 3 then (from_ == 1 || from_ == 8 || from_ == 16) && to == 32
  else if op = 4 then from_ == 32 && (to == 8 || to == 16)
  else if op = 5 then from_ != 0 && to == 1
  else if op = 6 then from_ == 1 && storable to
  else if op = 7 then from_ == 32 && to == 32
  else if op = 8 ∨ op = 9 ∨ op = 10 then from_ == 128 && to == 128
  else if op = 11 then from_ == 32 && to == 128
  else if op = 12 ∨ op = 13 then from_ == 128 && to == 32
  else false
def areTwo (p q u v : Int) : Bool := p == u && q == v
def sameTwo (p q : Int) : Bool := p != 0 && q != 0 && q == p
def binary (op p q to : Int) : Bool :=
  if (1 ≤ op ∧ op ≤ 7) ∨ (11 ≤ op ∧ op ≤ 13) then areTwo p q 32 32 && to == 32
  else if 8 ≤ op ∧ op ≤ 10 then sameTwo p q && to == p
  else if op = 14 ∨ op = 15 then sameTwo p q && to == 1
  else if 16 ≤ op ∧ op ≤ 19 then areTwo p q 32 32 && to == 1
  else if 20 ≤ op ∧ op ≤ 29 then areTwo p q 128 128 && to == 128
  else if op = 30 then areTwo p q 128 32 && to == 128
  else false
def word (is : Bool) (off : Int) : Bool := off == 0 || (is && decide (0 < off) && decide (off ≤ 3))
/-- The type of a temporary of that type: 0 if it is none. -/
def tmpTy (ty : Int) : Int := if bytes ty = 0 then 0 else ty
def exUn (op from_ to off : Int) : Int := if unary op (tmpTy from_) to && word (op == 12) off then to else 0
def exBin (op p q to off : Int) : Int := if binary op (tmpTy p) (tmpTy q) to && word (op == 30) off then to else 0
end Rf

theorem tmpTy_eq (ty : Int) : Rf.tmpTy ty = if Vb.isType ty = true then ty else 0 := by
  unfold Rf.tmpTy
  by_cases h : Vb.isType ty = true
  · rw [if_neg (fun e => by rw [bytes_iff] at e; rw [e] at h; cases h), if_pos h]
  · rw [if_pos ((bytes_iff ty).2 (by simpa using h)), if_neg h]
theorem bytes_pos (ty : Int) : 0 < Rf.bytes ty ↔ Vb.isType ty = true := by
  have h0 : 0 ≤ Rf.bytes ty := by unfold Rf.bytes; repeat (split; omega); omega
  have h1 := bytes_iff ty
  constructor
  · intro h; by_cases h2 : Vb.isType ty = true
    · exact h2
    · have := h1.2 (by simpa using h2); omega
  · intro h; rcases Int.lt_or_eq_of_le h0 with h2 | h2
    · exact h2
    · have := h1.1 h2.symm; rw [this] at h; cases h
theorem isType_cases {ty : Int} (h : Vb.isType ty = true) : ty = 1 ∨ ty = 8 ∨ ty = 16 ∨ ty = 32 ∨ ty = 128 := (isType_iff ty).1 h
theorem bool_eq {a b : Bool} (h : a = true ↔ b = true) : a = b := Bool.eq_iff_iff.2 h
/-- A unary expression is one that package vbits takes. -/
theorem exUn_iff (op from_ to off : Int) : Rf.exUn op from_ to off ≠ 0 ↔ Vb.isUn op from_ to off = true := by
  have hst : Rf.storable to = (to != 1 && Vb.isType to) := by
    unfold Rf.storable
    congr 1
    exact bool_eq (by rw [decide_eq_true_eq]; exact bytes_pos to)
  have t1 := isType_iff from_
  have t2 := isType_iff to
  unfold Rf.exUn Vb.isUn
  rw [tmpTy_eq]
  generalize hf : Vb.isType from_ = f at *
  generalize ht : Vb.isType to = t at *
  cases f
  · have n1 : ¬ (from_ = 1 ∨ from_ = 8 ∨ from_ = 16 ∨ from_ = 32 ∨ from_ = 128) := fun h => by have := t1.2 h; cases this
    have hu : Rf.unary op 0 to = false := by
      unfold Rf.unary
      by_cases h1 : op = 1
      · subst h1; simp
      · simp [h1]
    simp [hu]
  · have n1 := t1.1 rfl
    cases t
    · have n2 : ¬ (to = 1 ∨ to = 8 ∨ to = 16 ∨ to = 32 ∨ to = 128) := fun h => by have := t2.2 h; cases this
      simp only [if_true, Bool.not_true, Bool.not_false, Bool.false_or, Bool.true_or, if_true]
      have hu : Rf.unary op from_ to = false := by
        unfold Rf.unary
        rw [hst]
        simp
        grind
      simp [hu]
    · have n2 := t2.1 rfl
      simp only [if_true, Bool.not_true, Bool.false_or]
      have hto : to ≠ 0 := by omega
      have e1 : ((if (Rf.unary op from_ to && Rf.word (op == 12) off) = true then to else 0) ≠ 0) ↔ (Rf.unary op from_ to && Rf.word (op == 12) off) = true := by
        by_cases h : (Rf.unary op from_ to && Rf.word (op == 12) off) = true
        · simp [h, hto]
        · simp [h]
      rw [e1]
      unfold Rf.unary Rf.word
      rw [hst]
      by_cases ho : off = 0
      · subst ho
        simp
        grind
      · by_cases h12 : op = 12
        · subst h12
          simp [ho]
          omega
        · simp [ho, h12]
/-- The second operand's type, by the reference. -/
def Rf.secTy (op ty : Int) : Int := if op = 30 then 32 else ty
theorem exBin_iff (op ty to off : Int) (hto : to = ty ∨ to = 1) : Rf.exBin op ty (Rf.secTy op ty) to off ≠ 0 ↔
    Vb.second op ty off ≠ 0 ∧ (if op = 14 ∨ op = 15 ∨ (16 ≤ op ∧ op ≤ 19) then to = 1 else to = ty) := by
  have t1 := isType_iff ty
  have t32 : Vb.isType 32 = true := (isType_iff 32).2 (by simp)
  unfold Rf.exBin Vb.second Rf.secTy
  rw [tmpTy_eq, tmpTy_eq]
  by_cases h30 : op = 30
  · subst h30
    simp only [if_true, t32]
    generalize hf : Vb.isType ty = f at *
    cases f
    · have n1 : ¬ (ty = 1 ∨ ty = 8 ∨ ty = 16 ∨ ty = 32 ∨ ty = 128) := fun h => by have := t1.2 h; cases this
      simp [Rf.binary, Rf.areTwo]
      grind
    · have n1 := t1.1 rfl
      simp [Rf.binary, Rf.areTwo, Rf.word]
      grind
  · simp only [h30, if_false]
    generalize hf : Vb.isType ty = f at *
    cases f
    · have n1 : ¬ (ty = 1 ∨ ty = 8 ∨ ty = 16 ∨ ty = 32 ∨ ty = 128) := fun h => by have := t1.2 h; cases this
      simp [Rf.binary, Rf.areTwo, Rf.sameTwo, h30]
      grind
    · have n1 := t1.1 rfl
      simp [Rf.binary, Rf.areTwo, Rf.sameTwo, Rf.word, h30]
      grind
theorem second_sec {op ty off : Int} (h : Vb.second op ty off ≠ 0) : Vb.second op ty off = Rf.secTy op ty := by
  unfold Rf.secTy
  by_cases h30 : op = 30
  · subst h30
    rw [if_pos rfl]
    unfold Vb.second at *
    simp only at *
    split
    · rfl
    · rename_i hc
      rw [if_neg hc] at h
      exfalso
      by_cases ho : off ≠ 0
      · rw [if_pos ho] at h; exact h rfl
      · rw [if_neg ho] at h; simp at h
  · rw [if_neg h30]
    rcases second_ty h30 ty off with h1 | h1
    · exact absurd h1 h
    · exact h1
end Go.Proofs.YtboknfppecgjmaaGreat
