/- Part 41 of the proof's texts: ExactG, Pairs, FillA. -/
import Derived.Deep.MidRow
import Derived.Test.YtboknfppecgjmaaGreatExa1
import Derived.Test.YtboknfppecgjmaaGreatExa37
import Derived.Test.YtboknfppecgjmaaGreatExa40
set_option maxHeartbeats 16000000
namespace Go.Proofs.YtboknfppecgjmaaGreat
set_option linter.unusedVariables false
set_option linter.unusedSimpArgs false
open Go.RowKit Go.Shelf
structure YS where
  f : V
  d : V
  b : Bool
def YS.next (s : YS) (z : V) : YS := ⟨bif s.b then s.f else z, Rf.gone s.d (bif s.b then s.f else z) z, true⟩
def YS.ans (s : YS) (sh z : V) : Bool := Rf.left24 sh (s.next z).d
theorem ans_false {s : YS} {sh z : V} (h : s.ans sh z = false) : sh.and ((s.next z).d.xor V.all) = V.zero := by
  unfold YS.ans Rf.left24 at h
  simpa using h
def within (x y : V) : Prop := ∀ j t, j < 4 → t < 32 → (x.get j).getLsbD t = true → (y.get j).getLsbD t = true
theorem within_gone (d f z : V) : within d (Rf.gone d f z) := by
  intro j t _ _ h
  unfold Rf.gone
  rw [or_get, BitVec.getLsbD_or, h, Bool.true_or]
theorem within_new (d f z : V) : within (f.xor z) (Rf.gone d f z) := by
  intro j t _ _ h
  unfold Rf.gone
  rw [or_get, BitVec.getLsbD_or, h, Bool.or_true]
theorem within.trans {x y z : V} (h : within x y) (g : within y z) : within x z := fun j t hj ht hx => g j t hj ht (h j t hj ht hx)
abbrev Tri := Bool × V × V
structure YS.Vis (q : Ask) (s : YS) (T : List Tri) : Prop where
  none : s.b = false → T = []
  all : ∀ k p r, (k, p, r) ∈ T → within (s.f.xor (q.fil k p r)) s.d
theorem YS.Vis.next {q : Ask} {s : YS} {T : List Tri} (h : s.Vis q T) (k : Bool) (p r : V) : (s.next (q.fil k p r)).Vis q ((k, p, r) :: T) := by
  refine ⟨(fun h => by cases h), fun k' p' r' ht => ?_⟩
  unfold YS.next
  rcases List.mem_cons.1 ht with ht | ht
  · cases ht
    exact within_new _ _ _
  · cases hb : s.b
    · rw [h.none hb] at ht
      cases ht
    · exact (h.all k' p' r' ht).trans (within_gone _ _ _)
theorem bit_of_end {s d : V} (h : within s d) : s.and (d.xor V.all) = V.zero := by
  have w : ∀ j, j < 4 → (s.and (d.xor V.all)).get j = 0#32 := by
    intro j hj
    apply BitVec.eq_of_getLsbD_eq; intro t ht
    have h1 := h j t hj ht
    rw [and_get, xor_get, all_get]
    have h2 : (4294967295#32).getLsbD t = true := by
      rw [show (4294967295#32) = BitVec.allOnes 32 by decide, BitVec.getLsbD_allOnes]
      exact decide_eq_true ht
    simp only [BitVec.getLsbD_and, BitVec.getLsbD_xor, h2, BitVec.getLsbD_zero]
    revert h1
    generalize (s.get j).getLsbD t = u
    generalize (d.get j).getLsbD t = v
    revert u v; decide
  exact ext4 (w 0 (by omega)) (w 1 (by omega)) (w 2 (by omega)) (w 3 (by omega))
theorem exact_end {q : Ask} {n m : Nat} {s : List (BitVec 32)} (h : q.Fits n m) (hE : q.kind = 0 ∨ (q.kind = 1 ∧ Rf.exactB q.op q.b) ∨ q.kind = 2) {σ : YS} {T : List Tri} (hv : σ.Vis q T)
    (hT : ∀ k p r, Raw q.x q.a q.y q.b p r → (k, p, r) ∈ T) : (q.sh s).1.and (σ.d.xor V.all) = V.zero := by
  refine bit_of_end fun j t hj ht hb => ?_
  obtain ⟨k1, p1, r1, k2, p2, r2, h1, h2, hd⟩ := exact_law h hE hj ht hb
  have w1 := hv.all k1 p1 r1 (hT _ _ _ h1) j t hj ht
  have w2 := hv.all k2 p2 r2 (hT _ _ _ h2) j t hj ht
  rw [xor_get, BitVec.getLsbD_xor] at w1 w2
  revert hd w1 w2
  generalize ((q.fil k1 p1 r1).get j).getLsbD t = u
  generalize ((q.fil k2 p2 r2).get j).getLsbD t = v
  generalize (σ.f.get j).getLsbD t = f
  generalize (σ.d.get j).getLsbD t = d
  revert u v f d; decide
/-! ### which fillings have been visited -/
def bitOf (a : V) (i : Nat) : Bool := (a.get (i / 32)).getLsbD (i % 32)
structure CovB (a b : V) (T : List Tri) (k : Bool) (p r : V) (j : Nat) : Prop where
  base : (k, p, r) ∈ T
  x : ∀ i, i < j → bitOf a i = true → (k, p.xor (V.bit i), r) ∈ T
  y : ∀ i, i < j → bitOf b i = true → (k, p, r.xor (V.bit i)) ∈ T
theorem CovB.sub {a b : V} {T T' : List Tri} {k : Bool} {p r : V} {j : Nat} (h : CovB a b T k p r j) (hs : T ⊆ T') : CovB a b T' k p r j :=
  ⟨hs h.base, fun i hi hb => hs (h.x i hi hb), fun i hi hb => hs (h.y i hi hb)⟩
theorem CovB.start {a b : V} (T : List Tri) (k : Bool) (p r : V) : CovB a b ((k, p, r) :: T) k p r 0 := ⟨by simp, fun i hi => by omega, fun i hi => by omega⟩
theorem CovB.step {a b : V} {T T' : List Tri} {k : Bool} {p r : V} {j : Nat} (h : CovB a b T k p r j) (hs : T ⊆ T') (hx : bitOf a j = true → (k, p.xor (V.bit j), r) ∈ T') (hy : bitOf b j = true → (k, p, r.xor (V.bit j)) ∈ T') : CovB a b T' k p r (j + 1) := by
  refine ⟨hs h.base, fun i hi hb => ?_, fun i hi hb => ?_⟩
  · by_cases e : i = j
    · subst e; exact hx hb
    · exact hs (h.x i (by omega) hb)
  · by_cases e : i = j
    · subst e; exact hy hb
    · exact hs (h.y i (by omega) hb)
def Cov1 (L : List (V × V)) (a b : V) (T : List Tri) (n : Nat) : Prop := ∀ m p r, m < n → L[m]? = some (p, r) → ∀ k, CovB a b T k p r 128
def Cov2 (a b : V) (T : List Tri) (p r : V) (c : Nat) : Prop := ∀ k : Bool, k.toNat < c → CovB a b T k p r 128
theorem Cov1.sub {L : List (V × V)} {a b : V} {T T' : List Tri} {n : Nat} (h : Cov1 L a b T n) (hs : T ⊆ T') : Cov1 L a b T' n := fun m p r hm hp k => (h m p r hm hp k).sub hs
theorem Cov2.sub {a b : V} {T T' : List Tri} {p r : V} {c : Nat} (h : Cov2 a b T p r c) (hs : T ⊆ T') : Cov2 a b T' p r c := fun k hk => (h k hk).sub hs
theorem Cov1.zero (L : List (V × V)) (a b : V) (T : List Tri) : Cov1 L a b T 0 := fun m p r hm => by omega
theorem Cov2.zero (a b : V) (T : List Tri) (p r : V) : Cov2 a b T p r 0 := fun k hk => by omega
theorem Cov1.step {L : List (V × V)} {a b : V} {T : List Tri} {n : Nat} {p r : V} (h : Cov1 L a b T n) (hp : L[n]? = some (p, r)) (g : Cov2 a b T p r 2) : Cov1 L a b T (n + 1) := by
  intro m p' r' hm hp' k
  by_cases e : m = n
  · subst e
    rw [hp] at hp'
    cases hp'
    exact g k (by cases k <;> decide)
  · exact h m p' r' (by omega) hp' k
theorem Cov2.step {a b : V} {T : List Tri} {p r : V} {c : Nat} (h : Cov2 a b T p r c) (hc : c < 2) (g : CovB a b T (decide (c = 1)) p r 128) : Cov2 a b T p r (c + 1) := by
  intro k hk
  by_cases e : k.toNat = c
  · have : k = decide (c = 1) := by subst e; cases k <;> rfl
    rw [this]; exact g
  · exact h k (by omega)
theorem cov_all {x a y b : V} {T : List Tri} (h : Cov1 (rawPairs x a y b) a b T 19) (k : Bool) (p r : V) (hr : Raw x a y b p r) : (k, p, r) ∈ T := by
  have at_ : ∀ p r, (p, r) ∈ rawPairs x a y b → CovB a b T k p r 128 := by
    intro p r hm
    obtain ⟨n, hn⟩ := List.mem_iff_getElem?.1 hm
    have hlt : n < 19 := (List.getElem?_eq_some_iff.1 hn).1
    exact h n p r hlt hn k
  cases hr with
  | base p r hm => exact (at_ p r hm).base
  | flipx p r hm i hi hb => exact (at_ p r hm).x i hi hb
  | flipy p r hm i hi hb => exact (at_ p r hm).y i hi hb
/-! ### the closure's calls -/
structure RT (nQ nS nF : Nat) (q : Ask) (sh : V) (W0 : World) (σ : YS) (W : World) : Prop where
  low : Below nF W0 W
  st : EX nQ nS nF q sh σ.f σ.d σ.b W
theorem RT.size {nQ nS nF : Nat} {q : Ask} {sh : V} {W0 W : World} {σ : YS} (h : RT nQ nS nF q sh W0 σ W) : nF + 1 + 1 < W.heap.size := (Array.getElem?_eq_some_iff.1 h.st.D).1
theorem RT.step {nQ nS nF B : Nat} (g1 : nQ < nF) (g2 : nS < nF) {q : Ask} {sh : V} {W0 W W' : World} {σ : YS} (h : RT nQ nS nF q sh W0 σ W) (hb : Below B W W') (hB : nF + 1 + 1 < B) : RT nQ nS nF q sh W0 σ W' :=
  ⟨h.low.trans (hb.mono (by omega)), ⟨(hb.block _ (by omega)).trans h.st.Q, (hb.block _ (by omega)).trans h.st.S, (hb.block _ (by omega)).trans h.st.F, (hb.block _ (by omega)).trans h.st.N, (hb.block _ (by omega)).trans h.st.D⟩⟩
abbrev YieldC (nQ nS nF : Nat) (q : Ask) (sh : V) (W0 : World) (σ : YS) (k : Bool) (p r : V) (W : World) : Prop :=
  Calls Tryz.prog 28 #[vv (Vb.one k), vv p, vv r, .pointer (some ⟨nQ, 0, none⟩), .pointer (some ⟨nF + 1, 0, none⟩), .pointer (some ⟨nF, 0, none⟩), .pointer (some ⟨nF + 1 + 1, 0, none⟩), .pointer (some ⟨nS, 0, none⟩)] W
    fun e W' => e = .returned (.bool (σ.ans sh (q.fil k p r))) ∧ RT nQ nS nF q sh W0 (σ.next (q.fil k p r)) W' ∧ Kept nF W W'
theorem yield_c {nQ nS nF : Nat} (g1 : nQ < nF) (g2 : nS < nF) {q : Ask} {sh : V} {W0 : World} (HV : Hid (∀ k p r W', Below nF W0 W' → FilC q (Vb.one k) p r (q.fil k p r) W')) (σ : YS) (k : Bool) (p r : V) (W : World) (h : RT nQ nS nF q sh W0 σ W) : YieldC nQ nS nF q sh W0 σ k p r W := by
  have hz := h.size
  have HV' : Hid (∀ W', Below W.heap.size W W' → FilC q (Vb.one k) p r (q.fil k p r) W') := Lib.hid fun W' hb => HV.out k p r W' (h.low.trans (hb.mono (by omega)))
  obtain ⟨f, d, b⟩ := σ
  cases b
  · refine (yield_f q nQ nS nF g1 g2 sh f d (q.fil k p r) (Vb.one k) p r W h.st HV').mono ?_
    rintro e W' ⟨rfl, h2, h3⟩
    exact ⟨rfl, ⟨h.low.trans h3.below, h2⟩, h3⟩
  · refine (yield_t q nQ nS nF g1 g2 sh f d (q.fil k p r) (Vb.one k) p r W h.st HV').mono ?_
    rintro e W' ⟨rfl, h2, h3⟩
    exact ⟨rfl, ⟨h.low.trans h3.below, h2⟩, h3⟩
end Go.Proofs.YtboknfppecgjmaaGreat
namespace Go.Proofs.YtboknfppecgjmaaGreat
set_option linter.unusedVariables false
set_option linter.unusedSimpArgs false
open Go.RowKit Go.Shelf
def c4 (v : V) : List Value := [uv v.a, uv v.b, uv v.c, uv v.d]
def c8 (t : V × V) : List Value := [uv t.1.a, uv t.1.b, uv t.1.c, uv t.1.d, uv t.2.a, uv t.2.b, uv t.2.c, uv t.2.d]
def pcells (L : List (V × V)) : List Value := L.flatMap c8
theorem pcells_append (L M : List (V × V)) : pcells (L ++ M) = pcells L ++ pcells M := by simp [pcells]
theorem pcells_cons (t : V × V) (L : List (V × V)) : pcells (t :: L) = c8 t ++ pcells L := rfl
theorem pcells_get : ∀ (L : List (V × V)) (i : Nat) (t : V × V), L[i]? = some t → ∀ (j : Nat) (u : Value), (c8 t)[j]? = some u → (pcells L)[i * 8 + j]? = some u
  | [], i, t, h, j, u, _ => by simp at h
  | s :: L, 0, t, h, j, u, hu => by
    have hs : s = t := by simpa using h
    subst hs
    have hj : j < (c8 s).length := (List.getElem?_eq_some_iff.1 hu).1
    rw [pcells_cons, Nat.zero_mul, Nat.zero_add, List.getElem?_append_left hj, hu]
  | s :: L, i + 1, t, h, j, u, hu => by
    have h' : L[i]? = some t := by simpa using h
    rw [pcells_cons, List.getElem?_append_right (by show 8 ≤ _; omega)]
    have e : (i + 1) * 8 + j - (c8 s).length = i * 8 + j := by show (i + 1) * 8 + j - 8 = _; omega
    rw [e]
    exact pcells_get L i t h' j u hu
theorem c8_one (t : V × V) : ∀ u ∈ c8 t, u.oneCell' = true := by
  intro u hu
  simp only [c8, List.mem_cons, List.not_mem_nil, or_false] at hu
  rcases hu with rfl | rfl | rfl | rfl | rfl | rfl | rfl | rfl <;> rfl
theorem pcells_one : ∀ (L : List (V × V)), ∀ u ∈ pcells L, u.oneCell' = true := by
  intro L u hu
  obtain ⟨t, _, ht⟩ := List.mem_flatMap.1 hu
  exact c8_one t u ht
theorem range_of {W : World} {g : Nat} {cs : Array Value} {T : TypeId} {o : Nat} {xs : List Value} (h : W.heap[g]? = some (.cells cs T)) (hx : ∀ j u, xs[j]? = some u → cs[o + j]? = some u) : W.rangeAt g o xs := by
  intro j u hj
  rw [(block_cells h).1]
  exact hx j u hj
structure Row8 (g : Nat) (L : List (V × V)) (W : World) : Prop where
  blk : ∃ cur, W.heap[g]? = some (.cells cur 98) ∧ cur.toList.take (L.length * 8) = pcells L
theorem Row8.lt {g : Nat} {L : List (V × V)} {W : World} (h : Row8 g L W) : g < W.heap.size := by
  obtain ⟨cur, h1, _⟩ := h.blk
  exact (Array.getElem?_eq_some_iff.1 h1).1
theorem Row8.block {g : Nat} {L : List (V × V)} {W W' : World} (h : Row8 g L W) (e : W'.heap[g]? = W.heap[g]?) : Row8 g L W' := by
  obtain ⟨cur, h1, h2⟩ := h.blk
  exact ⟨cur, e.trans h1, h2⟩
theorem Row8.range {g : Nat} {L : List (V × V)} {W : World} (h : Row8 g L W) {i : Nat} {t : V × V} (hi : L[i]? = some t) : W.rangeAt g (i * 8) (c8 t) := by
  obtain ⟨cur, h1, h2⟩ := h.blk
  have hlt : i < L.length := (List.getElem?_eq_some_iff.1 hi).1
  refine range_of h1 fun j u hu => ?_
  have hj : j < 8 := (List.getElem?_eq_some_iff.1 hu).1
  have h3 := pcells_get L i t hi j u hu
  rw [← h2, List.getElem?_take, if_pos (by omega)] at h3
  simpa using h3
theorem own_row8 {w : World} {base n : Nat} {v : Value} {L : List (V × V)} (h : w.ownsRow base 98 8 v n (pcells L)) (hL : L.length = n) (hn : 0 < n) : ∃ g cp, v = .slice (some ⟨g, 0, none⟩) n cp ∧ base ≤ g ∧ n ≤ cp ∧ cp ≤ maxLen ∧ Row8 g L w := by
  obtain ⟨_, h0 | ⟨g, cp, cur, h2, hg, hh, h3, h4, _, h5⟩⟩ := h
  · omega
  · exact ⟨g, cp, h2, hg, h3, h4, cur, hh, by rw [hL]; exact h5⟩
theorem own_ne {w : World} {base size n b : Nat} {e T : TypeId} {v : Value} {xs : List Value} {c : Array Value} (h : w.ownsRow base e size v n xs) (hb : w.heap[b]? = some (.cells c T)) (hne : T ≠ e) : some b ≠ v.ownBlock := by
  obtain ⟨_, ⟨rfl, _⟩ | ⟨g, cp, cur, rfl, _, hh, _⟩⟩ := h
  · intro h; cases h
  · intro h
    have : b = g := by simpa [Value.ownBlock] using h
    subst this
    rw [hb] at hh
    simp only [Option.some.injEq, Obj.cells.injEq] at hh
    exact hne hh.2.1
def base4 (i : Nat) : V := match i with | 0 => V.zero | 1 => V.all | 2 => V.top | _ => V.all.xor V.top
def pairs16 : List (V × V) := bases.flatMap fun p => bases.map fun r => (p, r)
theorem pairs16_step (i j : Nat) (hi : i < 4) (hj : j < 4) : pairs16.take (4 * i + j + 1) = pairs16.take (4 * i + j) ++ [(base4 i, base4 j)] := by
  match i, hi, j, hj with
  | 0, _, 0, _ => rfl
  | 0, _, 1, _ => rfl
  | 0, _, 2, _ => rfl
  | 0, _, 3, _ => rfl
  | 1, _, 0, _ => rfl
  | 1, _, 1, _ => rfl
  | 1, _, 2, _ => rfl
  | 1, _, 3, _ => rfl
  | 2, _, 0, _ => rfl
  | 2, _, 1, _ => rfl
  | 2, _, 2, _ => rfl
  | 2, _, 3, _ => rfl
  | 3, _, 0, _ => rfl
  | 3, _, 1, _ => rfl
  | 3, _, 2, _ => rfl
  | 3, _, 3, _ => rfl
theorem rawPairs_eq (x a y b : V) : rawPairs x a y b = pairs16 ++ [(y, x), (y.or b, x.or a), (y.and (V.all.xor b), x.and (V.all.xor a))] := rfl
theorem bases_range {W : World} {g : Nat} {cs : Array Value} {T : TypeId} (h : W.heap[g]? = some (.cells cs T)) (hcs : cs = (c4 V.zero ++ c4 V.all ++ c4 V.top ++ c4 (V.all.xor V.top)).toArray) (i : Nat) (hi : i < 4) : W.rangeAt g (i * 4) (c4 (base4 i)) := by
  refine range_of h fun j u hu => ?_
  subst hcs
  have hj : j < 4 := (List.getElem?_eq_some_iff.1 hu).1
  rw [← hu]
  match i, hi, j, hj with
  | 0, _, 0, _ => rfl
  | 0, _, 1, _ => rfl
  | 0, _, 2, _ => rfl
  | 0, _, 3, _ => rfl
  | 1, _, 0, _ => rfl
  | 1, _, 1, _ => rfl
  | 1, _, 2, _ => rfl
  | 1, _, 3, _ => rfl
  | 2, _, 0, _ => rfl
  | 2, _, 1, _ => rfl
  | 2, _, 2, _ => rfl
  | 2, _, 3, _ => rfl
  | 3, _, 0, _ => rfl
  | 3, _, 1, _ => rfl
  | 3, _, 2, _ => rfl
  | 3, _, 3, _ => rfl
theorem kept_block {nF b : Nat} {W W' : World} (h : Kept nF W W') (hb : b < W.heap.size) (hF : nF + 1 + 1 < b) : W'.heap[b]? = W.heap[b]? := h.other b hb (by omega) (by omega) (by omega)
end Go.Proofs.YtboknfppecgjmaaGreat
namespace Go.Proofs.YtboknfppecgjmaaGreat
set_option linter.unusedVariables false
set_option linter.unusedSimpArgs false
open Go.RowKit Go.Shelf
theorem info_v2 : (Tryz.prog.info? 98).map (fun i => (i.zero, i.size, i.bytes)) = some (some (.agg #[.int .u32 0, .int .u32 0, .int .u32 0, .int .u32 0, .int .u32 0, .int .u32 0, .int .u32 0, .int .u32 0]), 8, 32) := by kernel_rfl
theorem ones_all (w : World) : Calls Tryz.prog 17 #[.int .i64 128] w fun e w' => e = .returned (vv V.all) ∧ Below w.heap.size w w' := rones_c 128 w
theorem v_k (c : Nat) (hc : c < 2) (x : BitVec 32) (hx : x.toNat = c) (w : World) : Calls Tryz.prog 20 #[uv x] w fun e w' => e = .returned (vv (Vb.one (decide (c = 1)))) ∧ Below w.heap.size w w' := by
  have h : x = BitVec.ofNat 32 c := BitVec.eq_of_toNat_eq (by rw [hx, BitVec.toNat_ofNat]; omega)
  subst h
  clear hx
  match c, hc with
  | 0, _ => exact v_c 0#32 w
  | 1, _ => exact v_c 1#32 w
theorem set_word (z : V) (i : Nat) (hi : i < 4) (x : BitVec 32) : (#[uv z.a, uv z.b, uv z.c, uv z.d] : Array Value).setIfInBounds i (uv x) = #[uv (z.set i x).a, uv (z.set i x).b, uv (z.set i x).c, uv (z.set i x).d] := by
  match i, hi with
  | 0, _ => rfl
  | 1, _ => rfl
  | 2, _ => rfl
  | 3, _ => rfl
theorem new_row {W : World} {b : Nat} {cs : Array Value} {T : TypeId} {xs : List Value} (hb : b = W.heap.size) (hx : cs.toList = xs) : ∀ j u, xs[j]? = some u → (W.alloc (.cells cs T)).cell? ((⟨b, 0, none⟩ : Addr).add j) = some u := by
  intro j u hj
  subst hb hx
  rw [Addr.add_mid, (block_cells (heap_alloc_new W (.cells cs T))).1, Nat.zero_add]
  simpa using hj
theorem own_gr2 {wr w' : World} {base : Nat} {e : TypeId} {size : Nat} {v : Value} {n : Nat} {xs : List Value} {o1 o2 : Obj} (hsz : base ≤ wr.heap.size) (hown : wr.ownsRow base e size v n xs) (hg : ((wr.alloc o1).alloc o2).grownBy w' v.ownBlock) : Below base wr w' := by
  refine (((Below.refl base wr).alloc hsz o1).alloc (by simp; omega) o2).grown hg (by simp; omega) ?_
  exact fun k hk => (hown.lt k hk).1
theorem own_keep {w w' : World} {base : Nat} {e : TypeId} {size : Nat} {v : Value} {n : Nat} {xs : List Value} (h : w.ownsRow base e size v n xs) (hb : Below w.heap.size w w') : w'.ownsRow base e size v n xs := by
  obtain ⟨h1, h0 | ⟨g, cap, cur, h2, hg, hh, r⟩⟩ := h
  · exact ⟨h1, .inl h0⟩
  · exact ⟨h1, .inr ⟨g, cap, cur, h2, hg, (hb.block g (Array.getElem?_eq_some_iff.1 hh).1).trans hh, r⟩⟩
theorem row_news {W : World} {b : Nat} {cs : Array Value} {T : TypeId} {xs : List Value} (h : W.heap[b]? = some (.cells cs T)) (hx : cs.toList = xs) : ∀ j u, xs[j]? = some u → W.cell? ((⟨b, 0, none⟩ : Addr).add j) = some u := by
  intro j u hj
  subst hx
  rw [Addr.add_mid, (block_cells h).1, Nat.zero_add]
  simpa using hj
def pairs3 (q : Ask) : List (V × V) := [(q.y, q.x), (q.y.or q.b, q.x.or q.a), (q.y.and (V.all.xor q.b), q.x.and (V.all.xor q.a))]
theorem bit_and (a : V) (j : Nat) (hj : j < 128) : (V.bit j).and a = V.zero ↔ bitOf a j = false := by
  have hb : ∀ t, t < 32 → (bitw (j % 32)).getLsbD t = decide (t = j % 32) := fun t ht => bitw_bit _ _ ht
  constructor
  · intro h
    have h1 := congrArg (fun v => (v.get (j / 32)).getLsbD (j % 32)) h
    simp only [and_get, get_z, BitVec.getLsbD_and, BitVec.getLsbD_zero] at h1
    rw [bit_get j (j / 32) hj (by omega), if_pos rfl, hb _ (by omega)] at h1
    simpa [bitOf] using h1
  · intro h
    have w : ∀ i, i < 4 → ((V.bit j).and a).get i = 0#32 := by
      intro i hi
      rw [and_get, bit_get j i hj hi]
      by_cases e : i = j / 32
      · rw [if_pos e]
        subst e
        apply BitVec.eq_of_getLsbD_eq; intro t ht
        rw [BitVec.getLsbD_and, hb t ht, BitVec.getLsbD_zero]
        by_cases e2 : t = j % 32
        · subst e2
          unfold bitOf at h
          rw [h, Bool.and_false]
        · simp [e2]
      · rw [if_neg e, BitVec.zero_and]
    exact ext4 (w 0 (by omega)) (w 1 (by omega)) (w 2 (by omega)) (w 3 (by omega))
theorem bit_cells (j : Nat) (hj : j < 128) : (([uv 0#32, uv 0#32, uv 0#32, uv 0#32] : List Value).set (j / 32) (uv (1#32 <<< (j % 32)))).toArray = #[uv (V.bit j).a, uv (V.bit j).b, uv (V.bit j).c, uv (V.bit j).d] := by
  have h := set_word V.zero (j / 32) (by omega) (bitw (j % 32))
  rw [List.setIfInBounds_toArray] at h
  exact h
section
variable {nQ nS nF : Nat} {q : Ask} {sh : V} {W0 : World}
theorem stages (g1 : nQ < nF) (g2 : nS < nF) (HV : Hid (∀ k p r W', Below nF W0 W' → FilC q (Vb.one k) p r (q.fil k p r) W')) (St : Nat → YS) (w : World) (h0 : RT nQ nS nF q sh W0 (St 0) w) :
    ∃ R : Nat → World → Prop, R 0 { w with drawn := w.drawn + 1 } ∧
      Hid (∀ s w', R s w' → ∀ b o, nF + 1 + 1 < b → b < w.heap.size → w'.cell? ⟨b, o, none⟩ = w.cell? ⟨b, o, none⟩) ∧
      Hid (∀ s w' w'', R s w' → Below w'.heap.size w' w'' → R s w'') ∧
      Hid (∀ s w', R s w' → Kept nF w w' ∧ RT nQ nS nF q sh W0 (St s) w') ∧
      Hid (∀ s k p r w', St (s + 1) = (St s).next (q.fil k p r) → R s w' →
        Calls Tryz.prog 28 #[vv (Vb.one k), vv p, vv r, .pointer (some ⟨nQ, 0, none⟩), .pointer (some ⟨nF + 1, 0, none⟩), .pointer (some ⟨nF, 0, none⟩), .pointer (some ⟨nF + 1 + 1, 0, none⟩), .pointer (some ⟨nS, 0, none⟩)] w'
          fun e w'' => e = .returned (.bool ((St s).ans sh (q.fil k p r))) ∧ R (s + 1) w'') ∧
      Hid (∀ s w', St (s + 1) = St s → R s w' → R (s + 1) w') := by
  refine ⟨fun s w' => Kept nF w w' ∧ RT nQ nS nF q sh W0 (St s) w', ⟨?_, ?_⟩, Lib.hid ?_, Lib.hid ?_, Lib.hid ?_, Lib.hid ?_, Lib.hid ?_⟩
  · have h := Kept.refl nF w
    exact ⟨⟨h.below.os, h.below.tape, h.below.output, h.below.size, h.below.block⟩, h.size, h.other⟩
  · exact ⟨⟨h0.low.os, h0.low.tape, h0.low.output, h0.low.size, h0.low.block⟩, ⟨h0.st.Q, h0.st.S, h0.st.F, h0.st.N, h0.st.D⟩⟩
  · intro s w' h b o hb hb'
    exact World.cell?_of_block (kept_block h.1 hb' hb)
  · intro s w' w'' h hb
    exact ⟨h.1.trans (Kept.of_below hb (by have := h.2.size; omega)), h.2.step g1 g2 hb h.2.size⟩
  · intro s w' h
    exact h
  · intro s k p r w' hs h
    refine (yield_c g1 g2 HV (St s) k p r w' h.2).mono ?_
    rintro e w'' ⟨rfl, h2, h3⟩
    exact ⟨rfl, h.1.trans h3, by rw [hs]; exact h2⟩
  · intro s w' hs h
    exact ⟨h.1, by rw [hs]; exact h.2⟩
abbrev YieldR (nQ nS nF : Nat) (k : Bool) (p r : V) (b : Bool) (R : World → Prop) (w : World) : Prop :=
  Calls Tryz.prog 28 #[vv (Vb.one k), vv p, vv r, .pointer (some ⟨nQ, 0, none⟩), .pointer (some ⟨nF + 1, 0, none⟩), .pointer (some ⟨nF, 0, none⟩), .pointer (some ⟨nF + 1 + 1, 0, none⟩), .pointer (some ⟨nS, 0, none⟩)] w
    fun e w' => e = .returned (.bool b) ∧ R w'
theorem stages' (g1 : nQ < nF) (g2 : nS < nF) (HV : Hid (∀ k p r W', Below nF W0 W' → FilC q (Vb.one k) p r (q.fil k p r) W')) (σ σ1 σ2 : YS) (w : World) (h0 : RT nQ nS nF q sh W0 σ w) :
    ∃ R : Nat → World → Prop, R 0 { w with drawn := w.drawn + 1 } ∧
      Hid (∀ s w', R s w' → ∀ b o, nF + 1 + 1 < b → b < w.heap.size → w'.cell? ⟨b, o, none⟩ = w.cell? ⟨b, o, none⟩) ∧
      Hid (∀ s w' w'', R s w' → Below w'.heap.size w' w'' → R s w'') ∧
      Hid (∀ w', R 2 w' → Kept nF w w' ∧ RT nQ nS nF q sh W0 σ2 w') ∧
      (∀ k p r b, σ1 = σ.next (q.fil k p r) → σ.ans sh (q.fil k p r) = b → Hid (∀ w', R 0 w' → YieldR nQ nS nF k p r b (R 1) w')) ∧
      (σ1 = σ → Hid (∀ w', R 0 w' → R 1 w')) ∧
      (∀ k p r b, σ2 = σ1.next (q.fil k p r) → σ1.ans sh (q.fil k p r) = b → Hid (∀ w', R 1 w' → YieldR nQ nS nF k p r b (R 2) w')) ∧
      (σ2 = σ1 → Hid (∀ w', R 1 w' → R 2 w')) := by
  obtain ⟨R, h1, h2, h3, h4, h5, h6⟩ := stages g1 g2 HV (fun s => match s with | 0 => σ | 1 => σ1 | _ => σ2) w h0
  refine ⟨R, h1, h2, h3, Lib.hid fun w' h => h4.out 2 w' h, fun k p r b he hb => Lib.hid fun w' h => ?_, fun he => Lib.hid fun w' h => h6.out 0 w' he h, fun k p r b he hb => Lib.hid fun w' h => ?_, fun he => Lib.hid fun w' h => h6.out 1 w' he h⟩
  · have := h5.out 0 k p r w' he h
    rw [← hb]; exact this
  · have := h5.out 1 k p r w' he h
    rw [← hb]; exact this
end
end Go.Proofs.YtboknfppecgjmaaGreat
