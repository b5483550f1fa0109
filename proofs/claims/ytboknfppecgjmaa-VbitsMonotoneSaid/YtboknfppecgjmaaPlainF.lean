/- Plain laws for VbitsOblivious: an operation with its operands, as the law asks for it. -/
import Derived.Test.YtboknfppecgjmaaPlainE
import Derived.Test.YtboknfppecgjmaaExSpec
import Derived.Test.YtboknfppecgjmaaAsk
namespace Go.Proofs.Ytboknfppecgjmaa
set_option linter.unusedVariables false
set_option linter.unusedSimpArgs false

/-- What Ask.shadow computes; s is the list of words that S is. -/
def Ask.sh (q : Ask) (s : List (BitVec 32)) : V × Int :=
  if q.kind = 0 then Vb.un q.op q.from_ q.to q.off q.x q.a
  else if q.kind = 1 then Vb.bin q.op q.from_ q.off q.x q.a q.y q.b
  else if q.kind = 2 then Vb.mux q.from_ q.c q.d q.x q.a q.y q.b
  else (V.word (Vb.call q.op s).1, (Vb.call q.op s).2)
/-- What Ask.result computes; n is the length of L. -/
def Ask.res (q : Ask) (n : Nat) : Int :=
  if q.kind = 0 then Rf.exUn q.op q.from_ q.to q.off
  else if q.kind = 1 then (if Rf.exBin q.op q.from_ q.sec q.from_ q.off ≠ 0 then Rf.exBin q.op q.from_ q.sec q.from_ q.off else Rf.exBin q.op q.from_ q.sec 1 q.off)
  else if q.kind = 2 then Rf.tmpTy q.from_
  else if q.kind = 3 then (if (q.op == 1 && ((n : Int) == 4)) || (q.op == 2 && ((n : Int) == 5)) then 32 else 0)
  else 0
/-- What Ask.fits computes; n is the length of L, m that of S. -/
def Ask.fit (q : Ask) (n m : Nat) : Bool :=
  if q.res n = 0 then false
  else if q.kind = 3 then (m : Int) == (n : Int)
  else Vb.is q.from_ q.x && Vb.is q.from_ q.a && (q.kind == 0 || (Vb.is q.sec q.y && Vb.is q.sec q.b && (q.kind == 1 || (Vb.is 1 q.c && Vb.is 1 q.d))))

theorem sec_eq {q : Ask} (hk : q.kind = 1) : q.sec = Rf.secTy q.op q.from_ := by
  unfold Ask.sec Rf.secTy
  simp [hk]
theorem sec_ne {q : Ask} (hk : q.kind ≠ 1) : q.sec = q.from_ := by
  unfold Ask.sec
  simp [hk]
inductive Ask.Fits (q : Ask) (n m : Nat) : Prop
  | un (hk : q.kind = 0) (h : Vb.isUn q.op q.from_ q.to q.off = true) (hx : Vb.is q.from_ q.x = true) (ha : Vb.is q.from_ q.a = true)
  | bin (hk : q.kind = 1) (h : Vb.second q.op q.from_ q.off ≠ 0) (hsec : Vb.second q.op q.from_ q.off = q.sec) (hx : Vb.is q.from_ q.x = true) (ha : Vb.is q.from_ q.a = true) (hy : Vb.is q.sec q.y = true) (hb : Vb.is q.sec q.b = true)
  | mux (hk : q.kind = 2) (ht : Vb.isType q.from_ = true) (hsec : q.sec = q.from_) (hx : Vb.is q.from_ q.x = true) (ha : Vb.is q.from_ q.a = true) (hy : Vb.is q.from_ q.y = true) (hb : Vb.is q.from_ q.b = true) (hc : Vb.is 1 q.c = true) (hd : Vb.is 1 q.d = true)
  | call (hk : q.kind = 3) (h : (q.op = 1 ∧ n = 4) ∨ (q.op = 2 ∧ n = 5)) (hm : m = n)
theorem fit_cases {q : Ask} {n m : Nat} (h : q.fit n m = true) : q.Fits n m := by
  unfold Ask.fit at h
  split at h
  · cases h
  rename_i hr
  unfold Ask.res at hr
  by_cases h0 : q.kind = 0
  · simp only [h0, if_true, show ¬ ((0 : Int) = 3) by decide, if_false, beq_self_eq_true, Bool.true_or, Bool.and_true, Bool.and_eq_true] at hr h
    exact .un h0 ((exUn_iff _ _ _ _).1 hr) h.1 h.2
  by_cases h1 : q.kind = 1
  · simp only [h1, if_true, show ¬ ((1 : Int) = 3) by decide, show ¬ ((1 : Int) = 0) by decide, show ((1 : Int) == 0) = false by decide, if_false, beq_self_eq_true, Bool.true_or, Bool.and_true, Bool.false_or, Bool.and_eq_true] at hr h
    have hs : Vb.second q.op q.from_ q.off ≠ 0 := by
      rw [sec_eq h1] at hr
      split at hr
      · exact ((exBin_iff _ _ _ _ (.inl rfl)).1 hr).1
      · exact ((exBin_iff _ _ _ _ (.inr rfl)).1 hr).1
    exact .bin h1 hs (by rw [sec_eq h1]; exact second_sec hs) h.1.1 h.1.2 h.2.1 h.2.2
  by_cases h2 : q.kind = 2
  · have hs := sec_ne (q := q) (by rw [h2]; decide)
    rw [hs] at h
    simp only [h2, if_true, show ¬ ((2 : Int) = 3) by decide, show ¬ ((2 : Int) = 0) by decide, show ¬ ((2 : Int) = 1) by decide, show ((2 : Int) == 0) = false by decide, show ((2 : Int) == 1) = false by decide, if_false, beq_self_eq_true, Bool.true_or, Bool.and_true, Bool.false_or, Bool.and_eq_true] at hr h
    have ht : Vb.isType q.from_ = true := by
      rw [tmpTy_eq] at hr
      by_cases ht : Vb.isType q.from_ = true
      · exact ht
      · rw [if_neg ht] at hr; exact absurd rfl hr
    exact .mux h2 ht hs h.1.1 h.1.2 h.2.1.1 h.2.1.2 h.2.2.1 h.2.2.2
  by_cases h3 : q.kind = 3
  · simp only [h3, if_true, show ¬ ((3 : Int) = 0) by decide, show ¬ ((3 : Int) = 1) by decide, show ¬ ((3 : Int) = 2) by decide, if_false, beq_iff_eq] at hr h
    have hm : m = n := by omega
    refine .call h3 ?_ hm
    split at hr
    · rename_i hc
      simp only [Bool.or_eq_true, Bool.and_eq_true, beq_iff_eq] at hc
      omega
    · exact absurd rfl hr
  · simp only [h0, h1, h2, h3, if_false] at hr
    exact absurd trivial hr

theorem is_type {ty : Int} {x : V} (h : Vb.is ty x = true) : Vb.isType ty = true := (is_parts h).1
theorem un_fine {op from_ to off : Int} {x a : V} (h : Vb.isUn op from_ to off = true) (hx : Vb.is from_ x = true) (ha : Vb.is from_ a = true) : Vb.un op from_ to off x a = (Vb.unOp op ⟨x, a, from_, to, off⟩, 0) := by
  unfold Vb.un
  rw [h, hx, ha]
  rfl
theorem mux_fine {ty : Int} {c d x a y b : V} (h1 : Vb.is ty x = true) (h2 : Vb.is ty a = true) (h3 : Vb.is ty y = true) (h4 : Vb.is ty b = true) (h5 : Vb.is 1 c = true) (h6 : Vb.is 1 d = true) :
    Vb.mux ty c d x a y b = if d.a = 1#32 then (((x.xor y).or a).or b, 0) else if c.a = 1#32 then (a, 0) else (b, 0) := by
  unfold Vb.mux
  rw [h1, h2, h3, h4, h5, h6]
  simp
theorem is_one {x : V} (h : Vb.is 1 x = true) : x = V.zero ∨ x = V.word 1#32 := by
  obtain ⟨_, h1, h2, h3, h4⟩ := is_parts h
  obtain ⟨p, q, r, s⟩ := x
  simp only [ones_1] at h1 h2 h3 h4
  have e : ∀ z : BitVec 32, z &&& ~~~0#32 = 0#32 → z = 0#32 := fun z hz => (bv_all z).symm.trans hz
  obtain rfl := e q h2
  obtain rfl := e r h3
  obtain rfl := e s h4
  have hp : p.toNat < 2 := (bv_low1 p).1 (by simpa using h1)
  have : p = 0#32 ∨ p = 1#32 := by
    rcases (show p.toNat = 0 ∨ p.toNat = 1 by omega) with h | h
    · exact .inl (BitVec.eq_of_toNat_eq h)
    · exact .inr (BitVec.eq_of_toNat_eq h)
  rcases this with rfl | rfl
  · exact .inl rfl
  · exact .inr rfl
theorem fill_zero {ty : Int} {x p : V} (h : Vb.is ty x = true) : Vb.fill ty x V.zero p = x := by
  obtain ⟨_, h1, h2, h3, h4⟩ := is_parts h
  have w : ∀ m x b : BitVec 32, x &&& ~~~m = 0#32 → ((x &&& ~~~0#32) ||| (b &&& 0#32)) &&& m = x := by
    intro m x b hm
    apply BitVec.eq_of_getLsbD_eq; intro i hi
    have hb := congrArg (fun z => z.getLsbD i) hm
    simp only [BitVec.getLsbD_and, BitVec.getLsbD_or, BitVec.getLsbD_not, hi, decide_true, Bool.true_and, BitVec.getLsbD_zero] at hb ⊢
    cases hx : x.getLsbD i <;> cases hmm : m.getLsbD i <;> simp_all
  exact ext4 (w _ _ _ h1) (w _ _ _ h2) (w _ _ _ h3) (w _ _ _ h4)
theorem xor_ag {x x' a y y' b : BitVec 32} (hx : Ag x x' a) (hy : Ag y y' b) : ((x ^^^ y) ||| a) ||| b = ((x' ^^^ y') ||| a) ||| b := by
  apply BitVec.eq_of_getLsbD_eq; intro i hi
  have p := hx.bit i hi
  have q := hy.bit i hi
  simp only [BitVec.getLsbD_or, BitVec.getLsbD_xor]
  rcases p with p | p
  · simp [p]
  · rcases q with q | q
    · simp [q]
    · rw [p, q]
theorem mux_other {ty : Int} {c d x a y b p q t : V} (h1 : Vb.is ty x = true) (h2 : Vb.is ty a = true) (h3 : Vb.is ty y = true) (h4 : Vb.is ty b = true) (h5 : Vb.is 1 c = true) (h6 : Vb.is 1 d = true) :
    Vb.mux ty (Vb.fill 1 c d t) d (Vb.fill ty x a p) a (Vb.fill ty y b q) b = Vb.mux ty c d x a y b := by
  have ht := is_type h1
  rw [mux_fine h1 h2 h3 h4 h5 h6, mux_fine (fill_is ht) h2 (fill_is ht) h4 (fill_is rfl) h6]
  have gx := fill_ag (a := a) (b := p) h1
  have gy := fill_ag (a := b) (b := q) h3
  rcases is_one h6 with rfl | rfl
  · rw [fill_zero h5]
    rfl
  · have hw : (V.word 1#32).a = 1#32 := rfl
    simp only [hw, if_true]
    congr 1
    exact ext4 (xor_ag gx.fa gy.fa).symm (xor_ag gx.fb gy.fb).symm (xor_ag gx.fc gy.fc).symm (xor_ag gx.fd gy.fd).symm

/-- The question with other values of undefined bits. -/
def Ask.other (q : Ask) : Ask := { q with c := Vb.fill 1 q.c q.d q.t, x := Vb.fill q.from_ q.x q.a q.p, y := Vb.fill q.sec q.y q.b q.q }
/-- The question without undefined bits; v is the new list. -/
def Ask.none_ (q : Ask) (v : Value) : Ask := { q with a := V.zero, b := V.zero, d := V.zero, s := v }
theorem call_fine {op : Int} {s : List (BitVec 32)} {n : Nat} (h : (op = 1 ∧ n = 4) ∨ (op = 2 ∧ n = 5)) (hs : s.length = n) : (Vb.call op s).2 = 0 := by
  unfold Vb.call
  subst hs
  rcases h with ⟨rfl, h⟩ | ⟨rfl, h⟩
  · rw [if_pos ⟨rfl, h⟩]
  · rw [if_neg (by rintro ⟨h, _⟩; revert h; decide), if_pos ⟨rfl, h⟩]
theorem sh_ok {q : Ask} {n m : Nat} {s : List (BitVec 32)} (h : q.Fits n m) (hs : s.length = m) : (q.sh s).2 = 0 := by
  unfold Ask.sh
  cases h with
  | un hk h hx ha => rw [if_pos hk, un_fine h hx ha]
  | bin hk h hsec hx ha hy hb => rw [if_neg (by omega), if_pos hk, bin_fine h hx ha (by rw [hsec]; exact hy) (by rw [hsec]; exact hb)]
  | mux hk ht hsec hx ha hy hb hc hd =>
    rw [if_neg (by omega), if_neg (by omega), if_pos hk, mux_fine hx ha hy hb hc hd]
    repeat' split
    all_goals rfl
  | call hk h hm =>
    rw [if_neg (by omega), if_neg (by omega), if_neg (by omega)]
    exact call_fine h (by omega)
theorem sh_other {q : Ask} {n m : Nat} {s : List (BitVec 32)} (h : q.Fits n m) : q.other.sh s = q.sh s := by
  unfold Ask.sh Ask.other
  cases h with
  | un hk h hx ha => simp only [hk, if_true]; rw [un_fine h hx ha, un_fine h (fill_is (is_type hx)) ha, unOp_ok _ _ _ _ (fill_ag hx)]
  | bin hk h hsec hx ha hy hb =>
    simp only [hk, if_true, show ¬ ((1 : Int) = 0) by decide, if_false]
    rw [bin_fine h hx ha (by rw [hsec]; exact hy) (by rw [hsec]; exact hb), bin_fine h (fill_is (is_type hx)) ha (by rw [hsec]; exact fill_is (is_type hy)) (by rw [hsec]; exact hb), binOp_ok _ _ _ (fill_ag hx) (fill_ag hy)]
  | mux hk ht hsec hx ha hy hb hc hd =>
    simp only [hk, if_true, show ¬ ((2 : Int) = 0) by decide, show ¬ ((2 : Int) = 1) by decide, if_false]
    rw [hsec]
    exact mux_other hx ha hy hb hc hd
  | call hk h hm => simp only [hk, show ¬ ((3 : Int) = 0) by decide, show ¬ ((3 : Int) = 1) by decide, show ¬ ((3 : Int) = 2) by decide, if_false]
theorem sh_none {q : Ask} {n m : Nat} (v : Value) (h : q.Fits n m) : (q.none_ v).sh (List.replicate m 0#32) = (V.zero, 0) := by
  unfold Ask.sh Ask.none_
  cases h with
  | un hk h hx ha => simp only [hk, if_true]; rw [un_fine h hx (is_zero (is_type hx)), unOp_z]
  | bin hk h hsec hx ha hy hb =>
    simp only [hk, if_true, show ¬ ((1 : Int) = 0) by decide, if_false]
    rw [bin_fine h hx (is_zero (is_type hx)) (by rw [hsec]; exact hy) (by rw [hsec]; exact is_zero (is_type hb)), binOp_z]
  | mux hk ht hsec hx ha hy hb hc hd =>
    simp only [hk, if_true, show ¬ ((2 : Int) = 0) by decide, show ¬ ((2 : Int) = 1) by decide, if_false]
    rw [mux_fine hx (is_zero (is_type hx)) hy (is_zero (is_type hx)) hc (is_zero rfl)]
    simp only [show V.zero.a = 1#32 ↔ False by decide, if_false]
    split <;> rfl
  | call hk h hm =>
    simp only [hk, show ¬ ((3 : Int) = 0) by decide, show ¬ ((3 : Int) = 1) by decide, show ¬ ((3 : Int) = 2) by decide, if_false]
    rw [call_z, call_fine h (by simp; omega)]
    rfl
end Go.Proofs.Ytboknfppecgjmaa
