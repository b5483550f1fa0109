/- VbitsMonotone: the walk. -/
import Derived.Test.YtboknfppecgjmaaAskAll
import Derived.Test.YtboknfppecgjmaaStoreV
import Derived.Test.YtboknfppecgjmaaCommutes
import Derived.Test.YtboknfppecgjmaaPlainG
import Derived.Deep.OwnRows
import Derived.OwnWalk
import Derived.Deep.LoopGhost
import Derived.Deep.RegionLaw
namespace Go.Proofs.Ytboknfppecgjmaa
set_option linter.unusedVariables false
set_option linter.unusedSimpArgs false
open Go.RowKit Go.Shelf
set_option maxRecDepth 100000 in
set_option maxHeartbeats 8000000 in
theorem mono_no (HS : Hid SaneC) (q : Ask) (HF : Hid (FitsC q false)) (w : World) : Calls Try.prog 4 #[akv q] w fun e w' => e = .returned (.bool true) ∧ Below w.heap.size w w' := by
  have HBLK := heap_alloc_new w (.cells (akc q) 35)
  go_enter Try.func4, Try.ntmps4
  go_wp2_with fail
  (refine (HS.out _ ).mono ?_; rintro e u1 ⟨rfl, hb⟩; obtain ⟨hc, hf⟩ := Flow.bcell hb; have hz := hb.size; (try simp only [World.size_alloc, World.size_setCell, World.size_drew] at hz); obtain z0 := Flow.zs1 (show w.heap.size + 1 ≤ u1.heap.size by omega))
  have HBLK1 := (hb.block w.heap.size (by simp)).trans HBLK
  go_wp2_with (refine wpList_load_row rfl 35 (.tmp 1) rfl w.heap.size rfl 35 (akc q) (0, 0) _ HBLK1 Try.underlying35 rfl (by kernel_rfl) ?_)
  (refine (HF.out _ ).mono ?_; rintro e u2 ⟨rfl, hb⟩; obtain ⟨hc, hf⟩ := Flow.bcell hb; have hz := hb.size; (try simp only [World.size_alloc, World.size_setCell, World.size_drew] at hz); obtain z0 := Flow.zs1 (show w.heap.size + 1 ≤ u2.heap.size by omega))
  go_wp2_with fail
  go_ret
  exact ⟨rfl, by (repeat (first | exact Below.refl _ _ | refine Below.setCell ?_ (by first | omega | (simp <;> omega)) _ | refine Below.alloc ?_ (by first | omega | (simp <;> omega)) _ | refine Below.drew ?_ | refine Below.trans ?_ (Below.mono (by assumption) (by first | omega | (simp <;> omega)))))⟩
theorem r_cell (q : Ask) (j : Nat) (h : j < 4) : (akc q)[39 + j]? = some (uv (q.r.get j)) := by
  match j, h with
  | 0, _ => rfl
  | 1, _ => rfl
  | 2, _ => rfl
  | 3, _ => rfl
theorem step_append_own {P : Program} {ops : Array Oper} {o : Oper} {a : Act} {w : World} {K : Act → World → Prop} {Q : Exit → Act → World → Prop} {E : Prop} (hg : o.guard = none) (s x : Operand) (t : TypeId)
    (ho : o.op = .call { callee := .builtin .append, args := #[s, x], argTypes := #[t, t] })
    (base : Nat) (e : TypeId) (i : TypeInfo) (z : Value) (size bytes : Nat) (ht : P.underlying t = some (.slice e)) (hi : P.info? e = some i) (hz : i.zero = some z)
    (hsize : i.size = size) (hby : i.bytes = bytes) (hzs : z.cells.size = size) (hsz : 0 < size)
    (v : Value) (n : Nat) (xs : List Value) (hs : a.eval s = v) (hown : w.ownsRow base e size v n xs)
    (ad : Addr) (m c : Nat) (news : List Value) (hx : a.eval x = .slice (some ad) m c) (hl : news.length = m * size) (hnews : ∀ j u, news[j]? = some u → w.cell? (ad.add j) = some u) (h1 : ∀ u ∈ news, u.oneCell' = true)
    (h63 : n + m ≤ maxLen) (hbytes : (n + m) * bytes ≤ 140737488355328) (hbase : base ≤ w.heap.size)
    (h : ∀ v' w', w'.ownsRow base e size v' (n + m) (xs ++ news) → w.grownBy w' v.ownBlock → K (a.put o.dst v') w') :
    if Region.wanted o (yielded ops a.tmps) = true then Oper.wp P o a w K Q else E := by
  have hw : Region.wanted o (yielded ops a.tmps) = true := by simp [Region.wanted, hg]
  rw [if_pos hw]
  exact wp_append_own w s x t ho base e i z size bytes ht hi hz hsize hby hzs hsz v n xs hs hown ad m c news hx hl hnews h1 h63 hbytes hbase fun v' w' h2 h3 h4 => h v' w' h2 h3
theorem own_drew {w : World} {base : Nat} {e : TypeId} {size : Nat} {v : Value} {n : Nat} {xs : List Value} (h : w.ownsRow base e size v n xs) : w.drew.ownsRow base e size v n xs := h
theorem new_one {w : World} {a : Addr} {x : Value} (h : w.cell? a = some x) : ∀ j u, [x][j]? = some u → w.cell? (a.add j) = some u := by
  intro j u hj
  match j, hj with
  | 0, hj => simp at hj; subst hj; simpa [Addr.add] using h
theorem own_form {w : World} {base : Nat} {e : TypeId} {size : Nat} {v : Value} {n : Nat} {xs : List Value} (h : w.ownsRow base e size v (n + 1) xs) : ∃ g cp, v = .slice (some ⟨g, 0, none⟩) (n + 1) cp := by
  obtain ⟨_, h0 | ⟨g, cp, cur, rfl, _⟩⟩ := h
  · omega
  · exact ⟨g, cp, rfl⟩
theorem own_grow {wr w' : World} {base : Nat} {e : TypeId} {size : Nat} {v : Value} {n : Nat} {xs : List Value} {o : Obj} (hsz : base ≤ wr.heap.size) (hown : wr.ownsRow base e size v n xs) (hg : (wr.alloc o).drew.grownBy w' v.ownBlock) : Below base wr w' := by
  refine (((Below.refl base wr).alloc hsz o).drew).grown hg (by simp; omega) ?_
  exact fun k hk => (hown.lt k hk).1
theorem own_setCell {w : World} {base b o : Nat} {x : Value} {e : TypeId} {size : Nat} {v : Value} {n : Nat} {xs : List Value} (h : w.ownsRow base e size v n xs) (hb : b < base) : (w.setCell ⟨b, o, none⟩ x).ownsRow base e size v n xs := by
  obtain ⟨h1, h0 | ⟨g, cp, cur, h2, hg, hh, h3⟩⟩ := h
  · exact ⟨h1, .inl h0⟩
  · exact ⟨h1, .inr ⟨g, cp, cur, h2, hg, (heap_setCell_other w _ g x (by show g ≠ b; omega)).trans hh, h3⟩⟩
theorem moreL_get (r : V) : ∀ (l : List (BitVec 32)) (j i : Nat), (moreL r j l)[i]? = (l[i]?).map fun k => k ||| r.get ((j + i) % 4)
  | [], _, _ => by simp [moreL]
  | k :: l, j, 0 => by simp [moreL]
  | k :: l, j, i + 1 => by
    simp only [moreL, List.getElem?_cons_succ, moreL_get r l (j + 1) i]
    rw [show j + 1 + i = j + (i + 1) by omega]
theorem more_take {r : V} {l : List (BitVec 32)} {i : Nat} {x : BitVec 32} (hx : l[i]? = some x) : ((moreL r 0 l).take (i + 1)).map (fun x => uv x) = ((moreL r 0 l).take i).map (fun x => uv x) ++ [uv (x ||| r.get (i % 4))] := by
  rw [List.take_add_one, moreL_get, hx]
  simp
theorem own_lists {w : World} {base : Nat} {v : Value} {n : Nat} {L : List (BitVec 32)} (h : w.ownsRow base 22 1 v n ((L.take n).map fun x => uv x)) (hL : L.length = n) : Lists w v L := by
  obtain ⟨h1, h0 | ⟨g, cap, cur, h2, hg, hh, _, _, _, h4⟩⟩ := h
  · obtain ⟨rfl, rfl⟩ := h0
    exact .inl ⟨_, _, rfl, List.eq_nil_of_length_eq_zero hL⟩
  · refine .inr ⟨g, 0, cap, by rw [h2, hL], fun i x hi => ?_⟩
    have hil : i < L.length := (List.getElem?_eq_some_iff.1 hi).1
    rw [(block_cells hh).1, Nat.zero_add]
    have h5 : (cur.toList.take (n * 1))[i]? = some (uv x) := by rw [h4, List.getElem?_map, List.getElem?_take, if_pos (by omega), hi]; rfl
    rw [List.getElem?_take, if_pos (by omega)] at h5
    simpa using h5
theorem lists_cell {w wr : World} {v : Value} {l : List (BitVec 32)} {as_ : Option Addr} {ns cs : Nat} (h : Lists w v l) (hv : v = .slice as_ ns cs) (hl : l.length = ns) (B : Below w.heap.size w wr) (i : Nat) (hi : i < ns) :
    ∃ b off x, as_ = some ⟨b, off, none⟩ ∧ wr.cell? ⟨b, off + i, none⟩ = some (uv x) ∧ l[i]? = some x := by
  subst hv
  rcases h with ⟨a, cap, h1, h2⟩ | ⟨b, off, cap, h1, h2⟩
  · subst h2; simp at hl; omega
  · simp only [Value.slice.injEq] at h1
    have hx : l[i]? = some (l[i]'(by omega)) := List.getElem?_eq_getElem (by omega)
    refine ⟨b, off, _, h1.1, ?_, hx⟩
    have h3 := h2 i _ hx
    have hb : b < w.heap.size := by
      have := block_lt_of_cell h3
      simpa using this
    rw [B.cell (p := ⟨b, off + i, none⟩) hb]
    exact h3
/-- Ask.shadow of the question with more undefined bits, where the new list lies. -/
abbrev ShM (w : World) (q : Ask) (l : List (BitVec 32)) (t : V) : Prop := ∀ (v : Value) (w' : World), Below w.heap.size w w' → Lists w' v (moreL q.r 0 l) → Calls Try.prog 21 #[akv (q.more v)] w' fun e w'' => e = .returned (.tuple #[vv t, .bool true]) ∧ Below w'.heap.size w' w''
set_option maxRecDepth 100000 in
set_option maxHeartbeats 8000000 in
theorem mono_yes (HS : Hid SaneC) (q : Ask) (HF : Hid (FitsC q true)) (HO : Hid ((akc q).all (·.oneCell') = true)) (w : World) (as_ : Option Addr) (ns cs : Nat) (hs : Hid (q.s = .slice as_ ns cs)) (hn : 4 * ns ≤ 140737488351232)
    (l : List (BitVec 32)) (hl : l.length = ns) (HL : Hid (Lists w q.s l)) (s t : V)
    (H1 : Hid (ShC w q s)) (H2 : Hid (ShM w q l t)) (H3 : Hid (s.and (t.xor (Vb.ones 128)) = V.zero)) : Calls Try.prog 4 #[akv q] w fun e w' => e = .returned (.bool true) ∧ Below w.heap.size w w' := by
  have HBLK := heap_alloc_new w (.cells (akc q) 35)
  go_enter Try.func4, Try.ntmps4
  go_wp2_with fail
  (refine (HS.out _ ).mono ?_; rintro e u1 ⟨rfl, hb⟩; obtain ⟨hc, hf⟩ := Flow.bcell hb; have hz := hb.size; (try simp only [World.size_alloc, World.size_setCell, World.size_drew] at hz); obtain z0 := Flow.zs1 (show w.heap.size + 1 ≤ u1.heap.size by omega))
  have X1 := (hb.block w.heap.size (by simp)).trans HBLK
  have B1 : Below w.heap.size w u1 := by (repeat (first | exact Below.refl _ _ | refine Below.setCell ?_ (by first | omega | (simp <;> omega)) _ | refine Below.alloc ?_ (by first | omega | (simp <;> omega)) _ | refine Below.drew ?_ | refine Below.trans ?_ (Below.mono (by assumption) (by first | omega | (simp <;> omega)))))
  clear HBLK
  go_wp2_with (refine wpList_load_row rfl 35 (.tmp 1) rfl w.heap.size rfl 35 (akc q) (0, 0) _ X1 Try.underlying35 rfl (by kernel_rfl) ?_)
  (refine (HF.out _ ).mono ?_; rintro e u2 ⟨rfl, hb⟩; obtain ⟨hc, hf⟩ := Flow.bcell hb; have hz := hb.size; (try simp only [World.size_alloc, World.size_setCell, World.size_drew] at hz); obtain z0 := Flow.zs1 (show w.heap.size + 1 ≤ u2.heap.size by omega))
  have X2 := (hb.block w.heap.size (by omega)).trans X1
  have B2 : Below w.heap.size w u2 := B1.trans (hb.mono (by omega))
  have h2 : w.heap.size < u2.heap.size := by omega
  clear hb hc hf
  go_wp2_with (first | (refine wpList_load_row rfl 35 (.tmp 1) rfl w.heap.size rfl 35 (akc q) (0, 0) _ X2 Try.underlying35 rfl (by kernel_rfl) ?_) | (refine wpList_store_new rfl 35 (.tmp 3) (.tmp 15) rfl rfl rfl (by kernel_rfl) rfl HO.out ?_; intro u3 Y3 sb sz; have X3 := (sb.block w.heap.size h2).trans X2; have B3 : Below w.heap.size w u3 := B2.trans (sb.mono (by omega)); obtain ⟨xc, xf, xl⟩ := block_cells X3; obtain ⟨yc, yf, yl⟩ := block_cells Y3))
  clear hz sb
  have hne : w.heap.size ≠ u2.heap.size := by omega
  have hle : w.heap.size ≤ u2.heap.size := by omega
  refine Flow.wp_region_blk 9 (by kernel_rfl) (by kernel_rfl) (fun R hRc hRt hRb => ?_)
  simp only [List.take_succ_cons, List.take_zero, List.drop_succ_cons, List.drop_zero]
  iterate 9
    first
      | refine Flow.flow_skip rfl ?_
      | (apply Flow.flow_step; rfl; (intro w1 hb; exact FlowY.runsTo_load_row 35 (.tmp 1) rfl w.heap.size rfl 35 (akc q) (0, 0) _ ((hRb.out w1 hb _ (by omega)).trans X3) Try.underlying35 rfl (by kernel_rfl) ⟨rfl, hb⟩))
      | (apply Flow.flow_step; rfl; (intro w1 hb; have hc := hRc.out w1 hb; go_simp; (first | with_reducible exact ⟨rfl, hb⟩ | with_reducible exact rfl | (go_at_call 18; refine (rones_c _ _).mono ?_; rintro e w2 ⟨rfl, hb2⟩; exact ⟨_, rfl, rfl, hRt.out _ _ hb hb2⟩) | (go_at_call 17; refine (rand_c _ _ _).mono ?_; rintro e w2 ⟨rfl, hb2⟩; exact ⟨_, rfl, rfl, hRt.out _ _ hb hb2⟩) | (go_at_call 19; refine (ror_c _ _ _).mono ?_; rintro e w2 ⟨rfl, hb2⟩; exact ⟨_, rfl, rfl, hRt.out _ _ hb hb2⟩))))
    (try simp only [Act.put, List.setIfInBounds_toArray, List.set_cons_zero, List.set_cons_succ])
  apply Flow.flow_nil
  clear hRc hRt hRb
  intro u4 hb
  have hz := hb.size
  have X4 := (hb.block w.heap.size (by omega)).trans X3
  have Y4 := (hb.block u2.heap.size (by omega)).trans Y3
  have B4 : Below w.heap.size w u4 := B3.trans (hb.mono (by omega))
  clear hb xc xf xl yc yf yl
  obtain ⟨xc, xf, xl⟩ := block_cells X4
  obtain ⟨yc, yf, yl⟩ := block_cells Y4
  go_wp2_with fail
  obtain ⟨u5, e5, Y5, S5⟩ := store4 Y4 9 10 11 12 (uv ((Vb.ones 1).and (q.d.or q.t)).a) (uv ((Vb.ones 1).and (q.d.or q.t)).b) (uv ((Vb.ones 1).and (q.d.or q.t)).c) (uv ((Vb.ones 1).and (q.d.or q.t)).d)
  rw [e5]
  have X5 := (S5.other w.heap.size hne).trans X4
  have B5 : Below w.heap.size w u5 := B4.trans (S5.below _ hle)
  replace Y5 : u5.heap[u2.heap.size]? = some (.cells (akc { q with d := ((Vb.ones 1).and (q.d.or q.t)) }) 35) := Y5
  have hz5 := Nat.le_of_eq S5.size.symm
  clear e5 S5 xc xf xl yc yf yl
  obtain ⟨xc, xf, xl⟩ := block_cells X5
  obtain ⟨yc, yf, yl⟩ := block_cells Y5
  refine Flow.wp_region_blk 11 (by kernel_rfl) (by kernel_rfl) (fun R hRc hRt hRb => ?_)
  simp only [List.take_succ_cons, List.take_zero, List.drop_succ_cons, List.drop_zero]
  iterate 11
    first
      | refine Flow.flow_skip rfl ?_
      | (apply Flow.flow_step; rfl; (intro w1 hb; exact FlowY.runsTo_load_row 35 (.tmp 1) rfl w.heap.size rfl 35 (akc q) (0, 0) _ ((hRb.out w1 hb _ (by omega)).trans X5) Try.underlying35 rfl (by kernel_rfl) ⟨rfl, hb⟩))
      | (apply Flow.flow_step; rfl; (intro w1 hb; have hc := hRc.out w1 hb; go_simp; (first | with_reducible exact ⟨rfl, hb⟩ | with_reducible exact rfl | (go_at_call 18; refine (rones_c _ _).mono ?_; rintro e w2 ⟨rfl, hb2⟩; exact ⟨_, rfl, rfl, hRt.out _ _ hb hb2⟩) | (go_at_call 17; refine (rand_c _ _ _).mono ?_; rintro e w2 ⟨rfl, hb2⟩; exact ⟨_, rfl, rfl, hRt.out _ _ hb hb2⟩) | (go_at_call 19; refine (ror_c _ _ _).mono ?_; rintro e w2 ⟨rfl, hb2⟩; exact ⟨_, rfl, rfl, hRt.out _ _ hb hb2⟩))))
    (try simp only [Act.put, List.setIfInBounds_toArray, List.set_cons_zero, List.set_cons_succ])
  apply Flow.flow_nil
  clear hRc hRt hRb
  intro u6 hb
  have hz := hb.size
  have X6 := (hb.block w.heap.size (by omega)).trans X5
  have Y6 := (hb.block u2.heap.size (by omega)).trans Y5
  have B6 : Below w.heap.size w u6 := B5.trans (hb.mono (by omega))
  clear hb xc xf xl yc yf yl
  obtain ⟨xc, xf, xl⟩ := block_cells X6
  obtain ⟨yc, yf, yl⟩ := block_cells Y6
  go_wp2_with fail
  obtain ⟨u7, e7, Y7, S7⟩ := store4 Y6 17 18 19 20 (uv ((Vb.ones q.from_).and (q.a.or q.p)).a) (uv ((Vb.ones q.from_).and (q.a.or q.p)).b) (uv ((Vb.ones q.from_).and (q.a.or q.p)).c) (uv ((Vb.ones q.from_).and (q.a.or q.p)).d)
  rw [e7]
  have X7 := (S7.other w.heap.size hne).trans X6
  have B7 : Below w.heap.size w u7 := B6.trans (S7.below _ hle)
  replace Y7 : u7.heap[u2.heap.size]? = some (.cells (akc { q with d := ((Vb.ones 1).and (q.d.or q.t)), a := ((Vb.ones q.from_).and (q.a.or q.p)) }) 35) := Y7
  have hz7 := Nat.le_of_eq S7.size.symm
  clear e7 S7 xc xf xl yc yf yl
  obtain ⟨xc, xf, xl⟩ := block_cells X7
  obtain ⟨yc, yf, yl⟩ := block_cells Y7
  refine Flow.wp_region_blk 11 (by kernel_rfl) (by kernel_rfl) (fun R hRc hRt hRb => ?_)
  simp only [List.take_succ_cons, List.take_zero, List.drop_succ_cons, List.drop_zero]
  iterate 11
    first
      | refine Flow.flow_skip rfl ?_
      | (apply Flow.flow_step; rfl; (intro w1 hb; exact FlowY.runsTo_load_row 35 (.tmp 1) rfl w.heap.size rfl 35 (akc q) (0, 0) _ ((hRb.out w1 hb _ (by omega)).trans X7) Try.underlying35 rfl (by kernel_rfl) ⟨rfl, hb⟩))
      | (apply Flow.flow_step; rfl; (intro w1 hb; have hc := hRc.out w1 hb; go_simp; (first | with_reducible exact ⟨rfl, hb⟩ | with_reducible exact rfl | (go_at_call 20; refine (second'_c _ _).mono ?_; rintro e w2 ⟨rfl, hb2⟩; exact ⟨_, rfl, rfl, hRt.out _ _ hb hb2⟩) | (go_at_call 18; refine (rones_c _ _).mono ?_; rintro e w2 ⟨rfl, hb2⟩; exact ⟨_, rfl, rfl, hRt.out _ _ hb hb2⟩) | (go_at_call 17; refine (rand_c _ _ _).mono ?_; rintro e w2 ⟨rfl, hb2⟩; exact ⟨_, rfl, rfl, hRt.out _ _ hb hb2⟩) | (go_at_call 19; refine (ror_c _ _ _).mono ?_; rintro e w2 ⟨rfl, hb2⟩; exact ⟨_, rfl, rfl, hRt.out _ _ hb hb2⟩))))
    (try simp only [Act.put, List.setIfInBounds_toArray, List.set_cons_zero, List.set_cons_succ])
  apply Flow.flow_nil
  clear hRc hRt hRb
  intro u8 hb
  have hz := hb.size
  have X8 := (hb.block w.heap.size (by omega)).trans X7
  have Y8 := (hb.block u2.heap.size (by omega)).trans Y7
  have B8 : Below w.heap.size w u8 := B7.trans (hb.mono (by omega))
  clear hb xc xf xl yc yf yl
  obtain ⟨xc, xf, xl⟩ := block_cells X8
  obtain ⟨yc, yf, yl⟩ := block_cells Y8
  obtain ⟨u9, e9, Y9, S9⟩ := store4 Y8 25 26 27 28 (uv ((Vb.ones q.sec).and (q.b.or q.q)).a) (uv ((Vb.ones q.sec).and (q.b.or q.q)).b) (uv ((Vb.ones q.sec).and (q.b.or q.q)).c) (uv ((Vb.ones q.sec).and (q.b.or q.q)).d)
  have X9 := (S9.other w.heap.size hne).trans X8
  have B9 : Below w.heap.size w u9 := B8.trans (S9.below _ hle)
  replace Y9 : u9.heap[u2.heap.size]? = some (.cells (akc (q.more q.s)) 35) := Y9
  have hz9 := Nat.le_of_eq S9.size.symm
  obtain ⟨xc', xf', xl'⟩ := block_cells X9
  obtain ⟨yc', yf', yl'⟩ := block_cells Y9
  obtain ⟨u10, e10⟩ : ∃ u10, u9.setCell ⟨u2.heap.size, 30, none⟩ (.slice none 0 0) = u10 := ⟨_, rfl⟩
  have X10 : u10.heap[w.heap.size]? = some (.cells (akc q) 35) := by rw [← e10]; exact (heap_setCell_other u9 _ _ _ hne).trans X9
  have Y10 : u10.heap[u2.heap.size]? = some (.cells (akc (q.more (.slice none 0 0))) 35) := by rw [← e10]; exact Go.heap_setCell_same u9 u2.heap.size 30 _ _ _ Y9
  have B10 : Below w.heap.size w u10 := by rw [← e10]; exact B9.setCell hle _
  have hz10 : u9.heap.size ≤ u10.heap.size := by rw [← e10]; simp
  obtain ⟨xc'', xf'', xl''⟩ := block_cells X10
  have hs' := hs.out
  go_wp2_with fail
  clear e9 e10 S9 xc xf xl yc yf yl xc' xf' xl' yc' yf' yl' xc'' xf'' xl'' hs'
  clear X9 Y9 B9 X8 Y8 B8 X7 Y7 B7 X6 Y6 B6 X5 Y5 B5 X4 Y4 B4 X3 Y3 B3 X2 B2 X1 B1
  have k1 : w.heap.size < u10.heap.size := (Array.getElem?_eq_some_iff.1 X10).1
  have k2 : u2.heap.size < u10.heap.size := (Array.getElem?_eq_some_iff.1 Y10).1
  obtain ⟨i0, hi, hz0, hz1, hz2⟩ := info_parts info_u32
  go_loopg [51] ns (fun k p wr => ∃ (i : Nat) (v : Value), i + k = ns ∧ p = .int .i64 (i : Int) ∧ wr.heap[w.heap.size]? = some (.cells (akc q) 35) ∧ wr.heap[u2.heap.size]? = some (.cells (akc (q.more v)) 35) ∧
    wr.ownsRow u10.heap.size 22 1 v i (((moreL q.r 0 l).take i).map fun x => uv x) ∧ Below w.heap.size w wr ∧ u10.heap.size ≤ wr.heap.size)
  case atStart => exact ⟨0, .slice none 0 0, by omega, rfl, X10, Y10, World.ownsRow_nil _ _ _ _, B10, Nat.le_refl _⟩
  case round =>
    obtain ⟨i, v, hik, rfl, X, Y, hown, B, hsz⟩ := hrel
    obtain ⟨xc, xf, xl⟩ := block_cells X
    obtain ⟨yc, yf, yl⟩ := block_cells Y
    by_cases hlt : i < ns
    · obtain ⟨b, off, x, rfl, hcell, hx⟩ := lists_cell HL.out hs.out hl B i hlt
      clear X10 Y10 B10
      have hbd : i < 9223372036854775807 := by omega
      have hlt4 : i % 4 < 4 := Nat.mod_lt _ (by omega)
      have hrem : (i : Int).tmod 4 = (i : Int) % 4 := Int.tmod_eq_emod_of_nonneg (by omega)
      have g0 : (0 : Int) ≤ (i : Int) % 4 := by omega
      have g1 : (i : Int) % 4 < 4 := by omega
      have hr4 : wr.cell? ⟨w.heap.size, 39 + ((i : Int) % 4).toNat, none⟩ = some (uv (q.r.get (i % 4))) := by rw [show ((i : Int) % 4).toNat = i % 4 by omega, xc]; exact r_cell q _ hlt4
      clear xc
      go_wp2_with fail
      go_region_law (refine step_append_own rfl (.tmp 57) (.tmp 66) 25 rfl u10.heap.size 22 i0 (.int .u32 0) 1 4 Try.underlying25 hi hz0 hz1 hz2 rfl (by decide) v i (((moreL q.r 0 l).take i).map fun x => uv x) rfl (own_drew (hown.alloc _)) ⟨wr.heap.size, 0, none⟩ 1 1 [uv (x ||| q.r.get (i % 4))] rfl rfl (new_one (by simp)) (by intro u hu; simp at hu; subst hu; rfl) (by unfold maxLen; omega) (by omega) (by simp; omega) ?_; intro v' w' hown' hgrow; obtain ⟨g, cp, rfl⟩ := own_form hown'; have BG := own_grow hsz hown hgrow; have X' := (BG.block w.heap.size k1).trans X; have Y' := (BG.block u2.heap.size k2).trans Y; obtain ⟨xc', xf', xl'⟩ := block_cells X'; obtain ⟨yc', yf', yl'⟩ := block_cells Y')
      all_goals go_wp2_with fail
      all_goals go_roundg (gk - 1)
      all_goals first
        | (with_reducible exact Nat.sub_lt (by omega) (by omega))
        | exact ⟨i + 1, .slice (some ⟨g, 0, none⟩) (i + 1) cp, by omega, by simp, (heap_setCell_other w' _ _ _ hne).trans X', Go.heap_setCell_same w' u2.heap.size 30 _ _ _ Y', by rw [more_take hx]; exact own_setCell hown' k2, (B.trans (BG.mono (by omega))).setCell hle _, by have := BG.size; simp; omega⟩
    · have hin : i = ns := by omega
      subst hin
      have hL := own_lists hown (by rw [moreL_length]; exact hl)
      clear X10 Y10 B10 hown
      have hk : ¬ i < i := by omega
      go_wp2_with (refine wpList_load_row rfl 35 (.tmp 1) rfl w.heap.size rfl 35 (akc q) (0, 0) _ X Try.underlying35 rfl (by kernel_rfl) ?_)
      refine (H1.out wr B).mono ?_
      rintro e u11 ⟨rfl, hb⟩
      have hz11 := hb.size
      have X11 := (hb.block w.heap.size (by omega)).trans X
      have Y11 := (hb.block u2.heap.size (by omega)).trans Y
      have B11 : Below w.heap.size w u11 := B.trans (hb.mono (by omega))
      have L11 := hL.below hb
      have l11 : u2.heap.size < u11.heap.size := by omega
      have l11' : w.heap.size < u11.heap.size := by omega
      clear hb xc xf xl yc yf yl
      have YA := fun o => (Below.heap_alloc u11 o u2.heap.size l11).trans Y11
      go_wp2_with (refine wpList_load_row rfl 35 (.tmp 3) rfl u2.heap.size rfl 35 (akc (q.more v)) (0, 0) _ (YA _) Try.underlying35 rfl (by kernel_rfl) ?_)
      refine (H2.out v _ (B11.alloc (by omega) _) (L11.below ((Below.refl _ _).alloc (Nat.le_refl _) _))).mono ?_
      rintro e u12 ⟨rfl, hb⟩
      have D12 := (hb.block u11.heap.size (by simp)).trans (heap_alloc_new u11 _)
      have B12 : Below w.heap.size w u12 := (B11.alloc (by omega) _).trans (hb.mono (by simp; omega))
      have hz12 := hb.size
      simp only [World.size_alloc] at hz12
      have l12 : u11.heap.size < u12.heap.size := by omega
      have l12' : w.heap.size < u12.heap.size := by omega
      clear hb YA X11 Y11 B11 L11 hL X Y B
      obtain ⟨dc, df, dl⟩ := block_cells D12
      clear dc df
      go_wp2_with fail
      generalize hg : u12.alloc _ = u13
      have D13 : u13.heap[u11.heap.size]? = some (.cells #[uv s.a, uv s.b, uv s.c, uv s.d] 24) := by rw [← hg]; exact (Below.heap_alloc u12 _ _ l12).trans D12
      have E13 : u13.heap[u12.heap.size]? = some (.cells #[uv t.a, uv t.b, uv t.c, uv t.d] 24) := by rw [← hg]; exact heap_alloc_new u12 _
      have B13 : Below w.heap.size w u13 := by rw [← hg]; exact B12.alloc (by omega) _
      have hz13 : u12.heap.size + 1 ≤ u13.heap.size := by rw [← hg]; simp
      clear hg D12 B12
      obtain ⟨dc, df, dl⟩ := block_cells D13
      obtain ⟨ec, ef, el⟩ := block_cells E13
      refine Flow.wp_region_below 11 (by kernel_rfl) (by kernel_rfl) (fun R hRc hRt => ?_)
      simp only [List.take_succ_cons, List.take_zero, List.drop_succ_cons, List.drop_zero]
      iterate 11
        first
          | refine Flow.flow_skip rfl ?_
          | (apply Flow.flow_step; rfl; (intro w1 hb; have hc := hRc.out w1 hb; go_simp; (first | with_reducible exact ⟨rfl, hb⟩ | (go_at_call 18; refine (rones_c _ _).mono ?_; rintro e w2 ⟨rfl, hb2⟩; exact ⟨_, rfl, rfl, hRt.out _ _ hb hb2⟩) | (go_at_call 22; refine (rxor_c _ _ _).mono ?_; rintro e w2 ⟨rfl, hb2⟩; exact ⟨_, rfl, rfl, hRt.out _ _ hb hb2⟩) | (go_at_call 17; refine (rand_c _ _ _).mono ?_; rintro e w2 ⟨rfl, hb2⟩; exact ⟨_, rfl, rfl, hRt.out _ _ hb hb2⟩))))
        simp only [Act.put, List.setIfInBounds_toArray, List.set_cons_zero, List.set_cons_succ]
      apply Flow.flow_nil
      clear hRc hRt
      intro w1 hb
      obtain ⟨hc, hf⟩ := Flow.bcell hb
      have hz := hb.size
      (try simp only [World.size_alloc, World.size_setCell, World.size_drew] at hz)
      obtain z0 := Flow.zs1 (show w.heap.size + 1 ≤ w1.heap.size by omega)
      have B14 : Below w.heap.size w w1 := B13.trans (hb.mono (by omega))
      clear hb hc hf dc df ec ef
      go_wp2_with fail
      go_ret
      have h3 := H3.out
      refine ⟨?_, B14⟩
      apply ret_bool
      symm
      apply decide_eq_true
      exact h3
/-- The law, for every question whose L and S are slices; S reads as the list l. -/
theorem mono_c (HS : Hid SaneC) (q : Ask) (al as_ : Option Addr) (nl cl ns cs : Nat) (hl : q.l = .slice al nl cl) (hs : q.s = .slice as_ ns cs) (b1 : nl ≤ maxLen) (b2 : 4 * ns ≤ 140737488351232) (w : World) (l : List (BitVec 32)) (hsl : Lists w q.s l) (hn : l.length = ns) :
    Calls Try.prog 4 #[akv q] w fun e w' => e = .returned (.bool true) ∧ Below w.heap.size w w' := by
  have b3 : ns ≤ maxLen := by unfold maxLen; omega
  have HF := fitsAll_c q al as_ nl cl ns cs hl hs b1 b3
  by_cases hfit : q.fit nl ns = true
  · rw [hfit] at HF
    have hF := fit_cases hfit
    have hok := sh_ok (s := l) hF hn
    refine mono_yes HS q (Lib.hid HF) (Lib.hid (akc_one q (by rw [hl]; rfl) (by rw [hs]; rfl))) w as_ ns cs (Lib.hid hs) b2 l hn (Lib.hid hsl) (q.sh l).1 ((q.more q.s).sh (moreL q.r 0 l)).1 (Lib.hid ?_) (Lib.hid ?_) (Lib.hid ?_)
    · intro w' hb
      have := shAll_c q l (by omega) w' (hsl.below hb)
      rw [hok] at this
      exact this
    · intro v w' hb hv
      have hm := sh_more v hF hn
      have he : (q.more v).sh (moreL q.r 0 l) = (q.more q.s).sh (moreL q.r 0 l) := rfl
      have := shAll_c (q.more v) (moreL q.r 0 l) (by rw [moreL_length]; omega) w' hv
      rw [hm.1] at this
      rw [← he]
      exact this
    · exact subv_law (sh_more q.s hF hn).2
  · have hfit' : q.fit nl ns = false := by simpa using hfit
    rw [hfit'] at HF
    exact mono_no HS q (Lib.hid HF) w
end Go.Proofs.Ytboknfppecgjmaa
