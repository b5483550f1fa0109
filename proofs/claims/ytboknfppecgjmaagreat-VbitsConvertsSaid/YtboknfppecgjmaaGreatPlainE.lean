/- Plain laws for VbitsOblivious: operands without undefined bits have a result without undefined bits. -/
import Derived.Test.YtboknfppecgjmaaGreatPlainD
namespace Go.Proofs.YtboknfppecgjmaaGreat
set_option linter.unusedVariables false
set_option linter.unusedSimpArgs false
def LaneZ (f : BitVec 32 → BitVec 32 → BitVec 32 → BitVec 32 → BitVec 32) : Prop := ∀ x y, f x 0#32 y 0#32 = 0#32
theorem some_zero : Vb.some 0#32 = 0#32 := by decide
theorem added_z : LaneZ Vb.added := by
  intro x y
  unfold Vb.added
  simp [bv_all]
theorem subtracted_z : LaneZ Vb.subtracted := by
  intro x y
  unfold Vb.subtracted
  simp [bv_all]
theorem equal_z : LaneZ Vb.equal := by
  intro x y
  unfold Vb.equal
  split
  · rw [BitVec.or_self]; exact some_zero
  · rfl
theorem unLane_z : LaneZ Vb.unLane := by
  intro x y
  unfold Vb.unLane
  split
  · exact some_zero
  · rfl
theorem lanesFrom_z {f : BitVec 32 → BitVec 32 → BitVec 32 → BitVec 32 → BitVec 32} (hf : LaneZ f) (width : Nat) (x y : BitVec 32) : ∀ (n at_ : Nat) (acc : BitVec 32), Vb.lanesFrom width f x 0#32 y 0#32 n at_ acc = acc
  | 0, _, _ => rfl
  | n + 1, at_, acc => by
    simp only [Vb.lanesFrom]
    have e : ∀ m : BitVec 32, (0#32 &&& m) >>> at_ = 0#32 := fun m => by simp
    rw [e, hf]
    have e2 : ∀ m : BitVec 32, acc ||| ((0#32 <<< at_) &&& m) = acc := fun m => by simp
    rw [e2]
    exact lanesFrom_z hf width x y n _ _
theorem each_z {f : BitVec 32 → BitVec 32 → BitVec 32 → BitVec 32 → BitVec 32} (hf : LaneZ f) (width : Nat) (x y : V) : Vb.each width x V.zero y V.zero f = V.zero := by
  simp only [Vb.each, Vb.eachWord, V.zero, lanesFrom_z hf]
  rfl
theorem get_z (i : Nat) : V.zero.get i = 0#32 := by
  unfold V.get V.zero
  repeat' split
  all_goals rfl
theorem mask_z : ∀ n, Vb.maskTo V.zero n = 0#32
  | 0 => rfl
  | n + 1 => by
    simp only [Vb.maskTo, get_z, mask_z n]
    simp
theorem unOp_z (op from_ to off : Int) (x : V) : Vb.unOp op ⟨x, V.zero, from_, to, off⟩ = V.zero := by
  have l : ∀ w, Vb.Unary.lanes ⟨x, V.zero, from_, to, off⟩ w = V.zero := fun w => each_z unLane_z w x V.zero
  have h1 : Vb.Unary.not ⟨x, V.zero, from_, to, off⟩ = V.zero := rfl
  have h2 : Vb.Unary.same ⟨x, V.zero, from_, to, off⟩ = V.zero := by simp [Vb.Unary.same, V.and, V.map2, V.zero]
  have h3 : Vb.Unary.sext ⟨x, V.zero, from_, to, off⟩ = V.zero := by simp [Vb.Unary.sext, V.zero]
  have h4 : Vb.Unary.nz ⟨x, V.zero, from_, to, off⟩ = V.zero := by simp [Vb.Unary.nz, V.isZero, Vb.one]
  have h5 : Vb.Unary.fill ⟨x, V.zero, from_, to, off⟩ = V.zero := by simp [Vb.Unary.fill, V.zero]
  have h6 : Vb.Unary.left ⟨x, V.zero, from_, to, off⟩ = V.zero := by simp [Vb.Unary.left, V.zero, V.word, Vb.left]
  have h7 : Vb.Unary.splat ⟨x, V.zero, from_, to, off⟩ = V.zero := rfl
  have h8 : Vb.Unary.word ⟨x, V.zero, from_, to, off⟩ = V.zero := by simp only [Vb.Unary.word, get_z]; rfl
  have h9 : Vb.Unary.mask ⟨x, V.zero, from_, to, off⟩ = V.zero := by simp only [Vb.Unary.mask, mask_z]; rfl
  unfold Vb.unOp
  simp only [h1, h2, h3, h4, h5, h6, h7, h8, h9, l, ite_self]
theorem set_z (i : Nat) : V.zero.set i 0#32 = V.zero := by
  simp [V.set, V.zero]
theorem binOp_z (op ty off : Int) (x y : V) : Vb.binOp ⟨op, ty, off, x, V.zero, y, V.zero⟩ = V.zero := by
  have l : ∀ w f, LaneZ f → Vb.Binary.lane ⟨op, ty, off, x, V.zero, y, V.zero⟩ w f = V.zero := fun w f hf => each_z hf w x y
  have h1 : Vb.Binary.mul ⟨op, ty, off, x, V.zero, y, V.zero⟩ = V.zero := by simp [Vb.Binary.mul, V.zero, V.word, Vb.left]
  have h2 : Vb.Binary.any ⟨op, ty, off, x, V.zero, y, V.zero⟩ = V.zero := by simp [Vb.Binary.any, V.zero, V.word, Vb.some]
  have h3 : Vb.Binary.and ⟨op, ty, off, x, V.zero, y, V.zero⟩ = V.zero := by simp [Vb.Binary.and, V.and, V.or, V.map2, V.zero]
  have h4 : Vb.Binary.or ⟨op, ty, off, x, V.zero, y, V.zero⟩ = V.zero := by simp [Vb.Binary.or, V.and, V.or, V.without, V.map2, V.zero]
  have h5 : Vb.Binary.xor ⟨op, ty, off, x, V.zero, y, V.zero⟩ = V.zero := by simp [Vb.Binary.xor, V.or, V.map2, V.zero]
  have h6 : Vb.Binary.shift ⟨op, ty, off, x, V.zero, y, V.zero⟩ = V.zero := by
    simp [Vb.Binary.shift, V.zero, V.word, Vb.some]
  have h7 : Vb.Binary.same ⟨op, ty, off, x, V.zero, y, V.zero⟩ = V.zero := by simp [Vb.Binary.same, V.or, V.map2, V.zero, V.isZero, Vb.one]
  have h8 : Vb.Binary.less ⟨op, ty, off, x, V.zero, y, V.zero⟩ = V.zero := by
    simp [Vb.Binary.less, V.zero, Vb.least, Vb.greatest, Vb.one, bv_all]
  have h9 : Vb.Binary.shuf ⟨op, ty, off, x, V.zero, y, V.zero⟩ = V.zero := by
    have e : ∀ i, Vb.shufByte V.zero y V.zero i = 0#32 := fun i => by simp [Vb.shufByte, get_z]
    simp only [Vb.Binary.shuf, V.gen, Vb.shufWord, e]
    rfl
  have h10 : Vb.Binary.put ⟨op, ty, off, x, V.zero, y, V.zero⟩ = V.zero := set_z _
  unfold Vb.binOp
  simp only [h1, h2, h3, h4, h5, h6, h7, h8, h9, h10, l _ _ added_z, l _ _ subtracted_z, l _ _ equal_z, ite_self]
theorem is_zero {ty : Int} (h : Vb.isType ty = true) : Vb.is ty V.zero = true := is_mk h (by simp [V.zero]) (by simp [V.zero]) (by simp [V.zero]) (by simp [V.zero])
theorem call_z (op : Int) (n : Nat) : (Vb.call op (List.replicate n 0#32)).1 = 0#32 := by
  have e : (List.replicate n 0#32).all (· == 0) = true := by simp
  unfold Vb.call
  rw [e]
  repeat' split
  all_goals first | rfl | (rename_i h; exact absurd rfl h)
theorem is_type {ty : Int} {x : V} (h : Vb.is ty x = true) : Vb.isType ty = true := (is_parts h).1
theorem un_fine {op from_ to off : Int} {x a : V} (h : Vb.isUn op from_ to off = true) (hx : Vb.is from_ x = true) (ha : Vb.is from_ a = true) : Vb.un op from_ to off x a = (Vb.unOp op ⟨x, a, from_, to, off⟩, 0) := by
  unfold Vb.un
  rw [h, hx, ha]
  rfl
theorem mux_fine {ty : Int} {c d x a y b : V} (h1 : Vb.is ty x = true) (h2 : Vb.is ty a = true) (h3 : Vb.is ty y = true) (h4 : Vb.is ty b = true) (h5 : Vb.is 1 c = true) (h6 : Vb.is 1 d = true) :
    Vb.mux ty c d x a y b = if d.a = 1#32 then (((x.xor y).or a).or b, 0) else if c.a = 1#32 then (a, 0) else (b, 0) := by
  unfold Vb.mux
  rw [h1, h2, h3, h4, h5, h6]
  simp
theorem is_one {x : V} (h : Vb.is 1 x = true) : x = V.zero ∨ x = V.word 1#32 := by
  obtain ⟨_, h1, h2, h3, h4⟩ := is_parts h
  obtain ⟨p, q, r, s⟩ := x
  simp only [ones_1] at h1 h2 h3 h4
  have e : ∀ z : BitVec 32, z &&& ~~~0#32 = 0#32 → z = 0#32 := fun z hz => (bv_all z).symm.trans hz
  obtain rfl := e q h2
  obtain rfl := e r h3
  obtain rfl := e s h4
  have hp : p.toNat < 2 := (bv_low1 p).1 (by simpa using h1)
  have : p = 0#32 ∨ p = 1#32 := by
    rcases (show p.toNat = 0 ∨ p.toNat = 1 by omega) with h | h
    · exact .inl (BitVec.eq_of_toNat_eq h)
    · exact .inr (BitVec.eq_of_toNat_eq h)
  rcases this with rfl | rfl
  · exact .inl rfl
  · exact .inr rfl
end Go.Proofs.YtboknfppecgjmaaGreat
