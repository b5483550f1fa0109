/- Part 42 of the proof's texts: Fill. -/
import Derived.OwnWalk
import Derived.Deep.OwnRows
import Derived.Deep.CutRange
import Derived.Deep.CutBlock
import Derived.Deep.LoopGhost
import Derived.Deep.RegionLaw
import Derived.Test.YtboknfppecgjmaaGreatExa41
set_option maxHeartbeats 16000000
namespace Go.Proofs.YtboknfppecgjmaaGreat
set_option linter.unusedVariables false
set_option linter.unusedSimpArgs false
open Go.RowKit Go.Shelf
set_option maxRecDepth 100000 in
theorem fillings_c {nQ nS nF : Nat} (g1 : nQ < nF) (g2 : nS < nF) {q : Ask} {sh : V} {W0 : World} (HV : Hid (∀ k p r W', Below nF W0 W' → FilC q (Vb.one k) p r (q.fil k p r) W')) (σ0 : YS) (hv0 : Hid (σ0.Vis q [])) (w : World) (h0 : Hid (RT nQ nS nF q sh W0 σ0 w)) :
    Calls Tryz.prog 27 #[akv q, .func (.func 28) #[] #[.pointer (some ⟨nQ, 0, none⟩), .pointer (some ⟨nF + 1, 0, none⟩), .pointer (some ⟨nF, 0, none⟩), .pointer (some ⟨nF + 1 + 1, 0, none⟩), .pointer (some ⟨nS, 0, none⟩)]] w
      fun e W' => ∃ σ, RT nQ nS nF q sh W0 σ W' ∧ Kept nF w W' ∧ ((e = .returned (.bool true) ∧ ∃ T, σ.Vis q T ∧ Cov1 (rawPairs q.x q.a q.y q.b) q.a q.b T 19) ∨ (e = .returned (.bool false) ∧ sh.and (σ.d.xor V.all) = V.zero)) := by
  have hsz := h0.out.size
  obtain ⟨i0, hi, hz0, hz1, hz2⟩ := info_parts info_v2
  have HBLK := heap_alloc_new w (.cells (akc q) 28)
  go_enter Tryz.func27, Tryz.ntmps27
  go_wp2_with fail
  (refine (ones_all _ ).mono ?_; rintro e u1 ⟨rfl, hb⟩; obtain ⟨hc, hf⟩ := Flow.bcell hb; have hz := hb.size; (try simp only [World.size_alloc, World.size_setCell, World.size_drew] at hz))
  have Q1 := (hb.block w.heap.size (by simp)).trans HBLK
  have B1 : Below w.heap.size w u1 := by (repeat (first | exact Below.refl _ _ | refine Below.setCell ?_ (by first | omega | (simp <;> omega)) _ | refine Below.alloc ?_ (by first | omega | (simp <;> omega)) _ | refine Below.drew ?_ | refine Below.trans ?_ (Below.mono (by assumption) (by first | omega | (simp <;> omega)))))
  clear hb hc hf HBLK
  go_wp2_with fail
  generalize hg : World.alloc _ _ = u2
  have A2 : u2.heap[u1.heap.size]? = some (vcell V.all) := by rw [← hg]; exact (Below.heap_alloc _ _ _ (by simp)).trans (heap_alloc_new u1 _)
  have T2 : u2.heap[u1.heap.size + 1]? = some (vcell V.top) := by
    have h := heap_alloc_new (u1.alloc (vcell V.all)) (vcell V.top)
    rw [World.size_alloc] at h
    rw [← hg]; exact h
  have z1 : w.heap.size < u1.heap.size := by omega
  have Q2 : u2.heap[w.heap.size]? = some (.cells (akc q) 28) := by rw [← hg]; exact (Below.heap_alloc _ _ _ (by simp; omega)).trans ((Below.heap_alloc _ _ _ z1).trans Q1)
  have B2 : Below w.heap.size w u2 := by rw [← hg]; exact (B1.alloc (by omega) _).alloc (by simp; omega) _
  have z2 : u1.heap.size + 1 < u2.heap.size := (Array.getElem?_eq_some_iff.1 T2).1
  clear hg Q1 B1
  obtain ⟨ac, af, al⟩ := block_cells A2
  obtain ⟨tc, tf, tl⟩ := block_cells T2
  refine Flow.wp_region_below 6 (by kernel_rfl) (by kernel_rfl) (fun R hRc hRt => ?_)
  simp only [List.take_succ_cons, List.take_zero, List.drop_succ_cons, List.drop_zero]
  iterate 6
    first
      | refine Flow.flow_skip rfl ?_
      | (apply Flow.flow_step; rfl; (intro w1 hb; have hc := hRc.out w1 hb; go_simp; (first | with_reducible exact ⟨rfl, hb⟩ | (go_at_call 16; refine (rxor_c V.all V.top _ ).mono ?_; rintro e w2 ⟨rfl, hb2⟩; exact ⟨_, rfl, rfl, hRt.out _ _ hb hb2⟩))))
    simp only [Act.put, List.setIfInBounds_toArray, List.set_cons_zero, List.set_cons_succ]
  apply Flow.flow_nil
  clear hRc hRt
  intro w1 hb
  obtain ⟨hc, hf⟩ := Flow.bcell hb
  have hz := hb.size
  (try simp only [World.size_alloc, World.size_setCell, World.size_drew] at hz)
  have A3 := (hb.block _ (by omega)).trans A2
  have Q3 := (hb.block _ (by omega)).trans Q2
  have B3 : Below w.heap.size w w1 := B2.trans (hb.mono (by omega))
  have z3 : u1.heap.size + 1 < w1.heap.size := by omega
  clear hb hc hf ac af al tc tf tl A2 T2 Q2 B2
  go_upto_region 4 with fail
  generalize hg : World.alloc _ _ = u4
  have C4 : u4.heap[w1.heap.size]? = some (.cells (c4 V.zero ++ c4 V.all ++ c4 V.top ++ c4 (V.all.xor V.top)).toArray 24) := by rw [← hg]; exact heap_alloc_new w1 _
  have A4 : u4.heap[u1.heap.size]? = some (vcell V.all) := by rw [← hg]; exact (Below.heap_alloc _ _ _ (by omega)).trans A3
  have Q4 : u4.heap[w.heap.size]? = some (.cells (akc q) 28) := by rw [← hg]; exact (Below.heap_alloc _ _ _ (by omega)).trans Q3
  have B4 : Below w.heap.size w u4 := by rw [← hg]; exact B3.alloc (by omega) _
  have z4 : w1.heap.size < u4.heap.size := (Array.getElem?_eq_some_iff.1 C4).1
  clear hg A3 Q3 B3
  go_upto_block 0 with fail
  go_cut [8, 10, 12] from 27 to 46 (fun s8 s10 s12 wx => wx.ownsRow u4.heap.size 98 8 s8 16 (pcells pairs16) ∧ Below u4.heap.size u4 wx)
  case first =>
    go_wp2_with fail
    go_loopg [8, 29] 4 (fun k p8 p29 wr => ∃ (i : Nat) (v : Value), i + k = 4 ∧ p29 = .int .i64 (i : Int) ∧ v = p8 ∧ wr.ownsRow u4.heap.size 98 8 v (4 * i) (pcells (pairs16.take (4 * i))) ∧ Below u4.heap.size u4 wr)
    case atStart => exact ⟨0, .slice none 0 0, by omega, rfl, rfl, World.ownsRow_nil _ _ _ _, Below.refl _ _⟩
    case round =>
      obtain ⟨i, v, hik, rfl, rfl, hown, B⟩ := hrel
      obtain ⟨xr, hxr⟩ : ∃ x, x = wr := ⟨_, rfl⟩
      subst hxr
      by_cases hlt : i < 4
      · have CW := (B.block _ z4).trans C4
        have RG := bases_range CW rfl i hlt
        have r0 : xr.cell? ⟨w1.heap.size, i * 4, none⟩ = some (uv (base4 i).a) := RG 0 _ rfl
        have r1 : xr.cell? ⟨w1.heap.size, i * 4 + 1, none⟩ = some (uv (base4 i).b) := RG 1 _ rfl
        have r2 : xr.cell? ⟨w1.heap.size, i * 4 + 2, none⟩ = some (uv (base4 i).c) := RG 2 _ rfl
        have r3 : xr.cell? ⟨w1.heap.size, i * 4 + 3, none⟩ = some (uv (base4 i).d) := RG 3 _ rfl
        go_wp2_with fail
        generalize hg : xr.alloc _ = x5
        have N5 : x5.heap[xr.heap.size]? = some (vcell (base4 i)) := by rw [← hg]; exact heap_alloc_new xr _
        have hown5 : x5.ownsRow u4.heap.size 98 8 v (4 * i) (pcells (pairs16.take (4 * i))) := by rw [← hg]; exact hown.alloc _
        have B5 : Below u4.heap.size u4 x5 := by rw [← hg]; exact B.alloc B.size _
        have z5 : u4.heap.size ≤ xr.heap.size := B.size
        clear hg hown B CW RG r0 r1 r2 r3
        rw [show decide ((i : Int) < 4) = true from decide_eq_true (by omega)]
        go_loopg [8, 35] 4 (fun k p8 p35 wr => ∃ (j : Nat) (v : Value), j + k = 4 ∧ p35 = .int .i64 (j : Int) ∧ v = p8 ∧ wr.ownsRow u4.heap.size 98 8 v (4 * i + j) (pcells (pairs16.take (4 * i + j))) ∧ Below u4.heap.size u4 wr ∧ wr.heap[xr.heap.size]? = some (vcell (base4 i)))
        case atStart => exact ⟨0, v, by omega, rfl, rfl, hown5, B5, N5⟩
        case round =>
          clear hown5 B5 N5
          obtain ⟨j, v, hjk, rfl, rfl, hown, B, N⟩ := hrel
          have CW := (B.block _ z4).trans C4
          have z6 : xr.heap.size < wr.heap.size := (Array.getElem?_eq_some_iff.1 N).1
          by_cases hjt : j < 4
          · have RG := bases_range CW rfl j hjt
            have r0 : wr.cell? ⟨w1.heap.size, j * 4, none⟩ = some (uv (base4 j).a) := RG 0 _ rfl
            have r1 : wr.cell? ⟨w1.heap.size, j * 4 + 1, none⟩ = some (uv (base4 j).b) := RG 1 _ rfl
            have r2 : wr.cell? ⟨w1.heap.size, j * 4 + 2, none⟩ = some (uv (base4 j).c) := RG 2 _ rfl
            have r3 : wr.cell? ⟨w1.heap.size, j * 4 + 3, none⟩ = some (uv (base4 j).d) := RG 3 _ rfl
            obtain ⟨nc, nf, nl⟩ := block_cells N
            go_wp2_with (at_builtin; refine wpList_append_own _ rfl (.tmp 39) (.tmp 43) 97 rfl u4.heap.size 98 i0 (.agg #[.int .u32 0, .int .u32 0, .int .u32 0, .int .u32 0, .int .u32 0, .int .u32 0, .int .u32 0, .int .u32 0]) 8 32 Tryz.underlying97 hi hz0 hz1 hz2 rfl (by decide) v (4 * i + j) (pcells (pairs16.take (4 * i + j))) rfl ((hown.alloc _).alloc _) ⟨wr.heap.size + 1, 0, none⟩ 1 1 (c8 (base4 i, base4 j)) rfl rfl (new_row (by simp) rfl) (c8_one _) (by unfold maxLen; omega) (by omega) (by simp; omega) ?_; intro v' w' hown' hgrow _; have BG := own_gr2 (by omega) hown hgrow)
            go_roundg (gk - 1)
            case measure => omega
            case rel =>
              refine ⟨j + 1, v', by omega, by go_num, rfl, ?_, B.trans BG, ?_⟩
              · rw [show 4 * i + (j + 1) = 4 * i + j + 1 by omega, pairs16_step i j hlt hjt, pcells_append]
                exact hown'
              · exact (hgrow.block _ (by simp; omega) (own_ne hown N (by decide))).trans ((Below.heap_alloc _ _ _ (by simp; omega)).trans ((Below.heap_alloc _ _ _ (by omega)).trans N))
          · have hj4 : j = 4 := by omega
            subst hj4
            have hk : ¬ 4 < 4 := by omega
            go_wp2_with fail
            go_roundg (4 - (i + 1))
            case measure => omega
            case rel => exact ⟨i + 1, v, by omega, by go_num, rfl, by rw [show 4 * (i + 1) = 4 * i + 4 by omega]; exact hown, B⟩
      · have hi4 : i = 4 := by omega
        subst hi4
        have hk : ¬ 4 < 4 := by omega
        go_wp2_with fail
        go_meet
        exact ⟨hown, B⟩
  case rest =>
  obtain ⟨hown, B⟩ := hcut
  clear C4
  go_upto_region 14 with fail
  go_cut [8] from 47 to 80 (fun s8 wx => ∃ g cp, s8 = .slice (some ⟨g, 0, none⟩) 19 cp ∧ 19 ≤ cp ∧ cp ≤ maxLen ∧ u4.heap.size ≤ g ∧ Row8 g (rawPairs q.x q.a q.y q.b) wx ∧ Below u4.heap.size u4 wx)
  case first =>
    have A5 := (B.block _ (by omega)).trans A4
    have Q5 := (B.block _ (by omega)).trans Q4
    have z5 : u4.heap.size ≤ wc.heap.size := B.size
    clear A4 Q4 B4
    obtain ⟨ac, af, al⟩ := block_cells A5
    obtain ⟨qc, qf, ql⟩ := block_cells Q5
    refine FlowQ.wp_region_slice 33 32 79 3 (pcells (pairs3 q)).toArray 98 (by kernel_rfl) (by kernel_rfl) (by kernel_rfl) (fun X hXc hXt hXb hXs hXm => ?_)
    simp only [List.take_succ_cons, List.take_zero, List.drop_succ_cons, List.drop_zero]
    iterate 33
      first
        | (refine FlowQ.flow_sp hXs rfl (hXm.out _ _ rfl (fun w0 => ?_)) ?_; (go_simp; rfl))
        | (apply FlowQ.flow_step hXs; rfl; rfl; (intro s1 w1 hb; have hc := hXc.out s1 w1 hb; go_simp; (first | with_reducible exact ⟨rfl, hb⟩ | with_reducible exact rfl | (go_at_call 29; (with_reducible refine (ror_c q.y q.b _ ).mono ?_); rintro e w2 ⟨rfl, hb2⟩; exact ⟨_, rfl, rfl, hXt.out _ _ _ hb hb2⟩) | (go_at_call 29; (with_reducible refine (ror_c q.x q.a _ ).mono ?_); rintro e w2 ⟨rfl, hb2⟩; exact ⟨_, rfl, rfl, hXt.out _ _ _ hb hb2⟩) | (go_at_call 16; (with_reducible refine (rxor_c ⟨4294967295#32, 4294967295#32, 4294967295#32, 4294967295#32⟩ q.b _ ).mono ?_); rintro e w2 ⟨rfl, hb2⟩; exact ⟨_, rfl, rfl, hXt.out _ _ _ hb hb2⟩) | (go_at_call 16; (with_reducible refine (rxor_c ⟨4294967295#32, 4294967295#32, 4294967295#32, 4294967295#32⟩ q.a _ ).mono ?_); rintro e w2 ⟨rfl, hb2⟩; exact ⟨_, rfl, rfl, hXt.out _ _ _ hb hb2⟩) | (go_at_call 15; (with_reducible refine (rand_c q.y (V.xor ⟨4294967295#32, 4294967295#32, 4294967295#32, 4294967295#32⟩ q.b) _ ).mono ?_); rintro e w2 ⟨rfl, hb2⟩; exact ⟨_, rfl, rfl, hXt.out _ _ _ hb hb2⟩) | (go_at_call 15; (with_reducible refine (rand_c q.x (V.xor ⟨4294967295#32, 4294967295#32, 4294967295#32, 4294967295#32⟩ q.a) _ ).mono ?_); rintro e w2 ⟨rfl, hb2⟩; exact ⟨_, rfl, rfl, hXt.out _ _ _ hb hb2⟩))))
      (try simp only [Act.put, List.setIfInBounds_toArray, List.set_cons_zero, List.set_cons_succ])
    apply FlowQ.flow_nil
    clear hXc hXt hXb hXs hXm
    intro b14 w14 hb hbb hob
    (try simp only [Act.put, List.setIfInBounds_toArray, List.set_cons_zero, List.set_cons_succ])
    have hz := hb.size
    have hown' := own_keep hown hb
    go_wp2_with (at_builtin; refine wpList_append_own _ rfl (.tmp 47) (.tmp 79) 97 rfl u4.heap.size 98 i0 (.agg #[.int .u32 0, .int .u32 0, .int .u32 0, .int .u32 0, .int .u32 0, .int .u32 0, .int .u32 0, .int .u32 0]) 8 32 Tryz.underlying97 hi hz0 hz1 hz2 rfl (by decide) u8 16 (pcells pairs16) rfl hown' ⟨b14, 0, none⟩ 3 3 (pcells (pairs3 q)) rfl rfl (row_news hob rfl) (pcells_one _) (by unfold maxLen; omega) (by omega) (by omega) ?_; intro v' w' hown2 hgrow _; have BG := (Below.refl u4.heap.size w14).grown hgrow (by omega) (fun k hk => (hown'.lt k hk).1))
    go_meet
    obtain ⟨g, cp, rfl, hg, h1, h2, hr⟩ := own_row8 (n := 19) (L := rawPairs q.x q.a q.y q.b) (by rw [rawPairs_eq, pcells_append]; exact hown2) rfl (by omega)
    exact ⟨g, cp, rfl, h1, h2, hg, hr, (B.trans (hb.mono (by omega))).trans BG⟩
  case rest =>
  obtain ⟨g, cp, rfl, hcp, hcm, hg, hrow, B⟩ := hcut
  have Q6 := (B.block _ (by omega)).trans Q4
  have B6 : Below w.heap.size w wc := B4.trans (B.mono (by omega))
  have R6 := h0.out.step g1 g2 B6 hsz
  have K6 : Kept nF w wc := Kept.of_below B6 (by omega)
  have hg0 : w.heap.size < g := by omega
  have z6 : u4.heap.size ≤ wc.heap.size := B.size
  clear B A4 Q4 B4
  go_wp2_with fail
  go_loopg [83] 19 (fun k p83 wr => ∃ (i : Nat) (σ : YS) (T : List Tri), i + k = 19 ∧ p83 = .int .i64 (i : Int) ∧ RT nQ nS nF q sh W0 σ wr ∧ Hid (σ.Vis q T) ∧ Hid (Cov1 (rawPairs q.x q.a q.y q.b) q.a q.b T i) ∧ Kept nF w wr ∧ wr.heap[w.heap.size]? = some (.cells (akc q) 28) ∧ Row8 g (rawPairs q.x q.a q.y q.b) wr)
  case atStart => exact ⟨0, σ0, [], by omega, rfl, R6, hv0, Lib.hid (Cov1.zero _ _ _ _), K6, Q6, hrow⟩
  case round =>
    clear R6 K6 Q6 hrow B6
    obtain ⟨i, σ, T, hik, rfl, R, V1, C1, K, Q, P⟩ := hrel
    obtain ⟨xr, hxr⟩ : ∃ x, x = wr := ⟨_, rfl⟩
    subst hxr
    by_cases hlt : i < 19
    · obtain ⟨⟨p, r⟩, hpr⟩ : ∃ t, (rawPairs q.x q.a q.y q.b)[i]? = some t := ⟨_, List.getElem?_eq_getElem hlt⟩
      have RG := P.range hpr
      have r0 : xr.cell? ⟨g, i * 8, none⟩ = some (uv p.a) := RG 0 _ rfl
      have r1 : xr.cell? ⟨g, i * 8 + 1, none⟩ = some (uv p.b) := RG 1 _ rfl
      have r2 : xr.cell? ⟨g, i * 8 + 2, none⟩ = some (uv p.c) := RG 2 _ rfl
      have r3 : xr.cell? ⟨g, i * 8 + 3, none⟩ = some (uv p.d) := RG 3 _ rfl
      have r4 : xr.cell? ⟨g, i * 8 + 4, none⟩ = some (uv r.a) := RG 4 _ rfl
      have r5 : xr.cell? ⟨g, i * 8 + 5, none⟩ = some (uv r.b) := RG 5 _ rfl
      have r6 : xr.cell? ⟨g, i * 8 + 6, none⟩ = some (uv r.c) := RG 6 _ rfl
      have r7 : xr.cell? ⟨g, i * 8 + 7, none⟩ = some (uv r.d) := RG 7 _ rfl
      go_wp2_with fail
      generalize hg5 : xr.alloc _ = x5
      have P5 : x5.heap[xr.heap.size]? = some (.cells (c8 (p, r)).toArray 98) := by rw [← hg5]; exact heap_alloc_new xr _
      have b5 : Below xr.heap.size xr x5 := by rw [← hg5]; exact (Below.refl _ _).alloc (Nat.le_refl _) _
      have zr := R.size
      have zq : w.heap.size < xr.heap.size := (Array.getElem?_eq_some_iff.1 Q).1
      have zg := P.lt
      have R5 := R.step g1 g2 b5 R.size
      have K5 := K.trans (Kept.of_below b5 (by omega))
      have Q5 := (b5.block _ zq).trans Q
      have W5 := P.block (b5.block g zg)
      clear hg5 b5 R K Q P RG r0 r1 r2 r3 r4 r5 r6 r7
      rw [show decide ((i : Int) < 19) = true from decide_eq_true (by omega)]
      go_loopg [87] 2 (fun k p87 wr => ∃ (c : Nat) (x : BitVec 32) (σ : YS) (T : List Tri), c + k = 2 ∧ x.toNat = c ∧ p87 = uv x ∧ RT nQ nS nF q sh W0 σ wr ∧ Hid (σ.Vis q T) ∧ Hid (Cov1 (rawPairs q.x q.a q.y q.b) q.a q.b T i) ∧ Hid (Cov2 q.a q.b T p r c) ∧ Kept nF w wr ∧ wr.heap[w.heap.size]? = some (.cells (akc q) 28) ∧ Row8 g (rawPairs q.x q.a q.y q.b) wr ∧ wr.heap[xr.heap.size]? = some (.cells (c8 (p, r)).toArray 98))
      case atStart => exact ⟨0, 0#32, σ, T, by omega, rfl, rfl, R5, V1, C1, Lib.hid (Cov2.zero _ _ _ _ _), K5, Q5, W5, P5⟩
      case round =>
        clear V1 C1 R5 K5 Q5 W5 P5
        clear σ T
        obtain ⟨c, x, σ, T, hck, hxc, rfl, hR, V1, C1, C2, K, Q, W, P⟩ := hrel
        obtain ⟨yr, hyr⟩ : ∃ x, x = wr := ⟨_, rfl⟩
        subst hyr
        by_cases hc : c < 2
        · have hc' : U x < U 2#32 := by show (x.toNat : Int) < 2; omega
          have hvk := Lib.hid (v_k c hc x hxc)
          obtain ⟨kb, hkb⟩ : ∃ kb, Hid (kb = decide (c = 1)) := ⟨_, Lib.hid rfl⟩
          rw [← hkb.out] at hvk
          have zy : xr.heap.size < yr.heap.size := (Array.getElem?_eq_some_iff.1 P).1
          have pc : ∀ o, yr.cell? ⟨xr.heap.size, o, none⟩ = (#[uv p.a, uv p.b, uv p.c, uv p.d, uv r.a, uv r.b, uv r.c, uv r.d] : Array Value)[o]? := (block_cells P).1
          go_wp2_with fail
          refine Flow.wp_region_below 7 (by kernel_rfl) (by kernel_rfl) (fun R hRc hRt => ?_)
          simp only [List.take_succ_cons, List.take_zero, List.drop_succ_cons, List.drop_zero]
          iterate 7
            first
              | refine Flow.flow_skip rfl ?_
              | (apply Flow.flow_step; rfl; (intro w1 hb; have hc := hRc.out w1 hb; go_simp; (first | with_reducible exact ⟨rfl, hb⟩ | (go_at_call 20; refine (hvk.out _ ).mono ?_; rintro e w2 ⟨rfl, hb2⟩; exact ⟨_, rfl, rfl, hRt.out _ _ hb hb2⟩))))
            simp only [Act.put, List.setIfInBounds_toArray, List.set_cons_zero, List.set_cons_succ]
          apply Flow.flow_nil
          clear hRc hRt
          intro w1 hb
          obtain ⟨hc, hf⟩ := Flow.bcell hb
          have hz := hb.size
          (try simp only [World.size_alloc, World.size_setCell, World.size_drew] at hz)
          have zy2 := hR.size
          have R8 := hR.step g1 g2 hb hR.size
          have K8 := K.trans (Kept.of_below hb (by omega))
          have Q8 := (hb.block _ (by omega)).trans Q
          have W8 := W.block (hb.block _ W.lt)
          have P8 := (hb.block _ zy).trans P
          clear hb hc hf hR K Q W P pc
          cases ha : σ.ans sh (q.fil kb p r)
          · go_wp2_with (go_at_call 28; refine (yield_c g1 g2 HV σ kb p r _ R8).mono ?_; rintro e w8 ⟨he, R9, K9⟩; rw [ha] at he; subst he)
            go_ret
            exact ⟨_, R9, K8.trans K9, .inr ⟨rfl, ans_false ha⟩⟩
          · go_wp2_with (go_at_call 28; refine (yield_c g1 g2 HV σ kb p r _ R8).mono ?_; rintro e w8 ⟨he, R9, K9⟩; rw [ha] at he; subst he)
            have K10 := K8.trans K9
            have zw := hz
            have Q10 := (kept_block K9 (by omega) (by omega)).trans Q8
            have W10 := W8.block (kept_block K9 W8.lt (by omega))
            have P10 := (kept_block K9 (by omega) (by omega)).trans P8
            have V10 := Lib.hid (V1.out.next kb p r)
            have sb := List.subset_cons_self (kb, p, r) T
            have D1 := Lib.hid (C1.out.sub sb)
            have D2 := Lib.hid (C2.out.sub sb)
            have D3 := Lib.hid (CovB.start (a := q.a) (b := q.b) T kb p r)
            clear V1 C1 C2 K8 K9 Q8 W8 P8 R8 sb hvk ha
            (try rw [show decide (U x < U 2#32) = true from decide_eq_true hc'])
            go_loopg [99] 128 (fun k p99 wr => ∃ (j : Nat) (σ : YS) (T : List Tri), j + k = 128 ∧ p99 = .int .i64 (j : Int) ∧ RT nQ nS nF q sh W0 σ wr ∧ Hid (σ.Vis q T) ∧ Hid (Cov1 (rawPairs q.x q.a q.y q.b) q.a q.b T i) ∧ Hid (Cov2 q.a q.b T p r c) ∧ Hid (CovB q.a q.b T kb p r j) ∧ Kept nF w wr ∧ wr.heap[w.heap.size]? = some (.cells (akc q) 28) ∧ Row8 g (rawPairs q.x q.a q.y q.b) wr ∧ wr.heap[xr.heap.size]? = some (.cells (c8 (p, r)).toArray 98))
            case atStart => exact ⟨0, _, _, by omega, rfl, R9, V10, D1, D2, D3, K10, Q10, W10, P10⟩
            case round =>
              clear R9 V10 D1 D2 D3 K10 Q10 W10 P10
              clear σ T
              obtain ⟨j, σ, T, hjk, rfl, hR, V1, C1, C2, C3, K, Q, W, P⟩ := hrel
              obtain ⟨zr5, hzr⟩ : ∃ x, x = wr := ⟨_, rfl⟩
              subst hzr
              by_cases hj : j < 128
              · have hquo : (j : Int).tdiv 32 = (j : Int) / 32 := Int.tdiv_eq_ediv_of_nonneg (by omega)
                have hrem : (j : Int).tmod 32 = (j : Int) % 32 := Int.tmod_eq_emod_of_nonneg (by omega)
                have d0 : (0 : Int) ≤ (j : Int) / 32 := by omega
                have d1 : (j : Int) / 32 < 4 := by omega
                have d2 : (0 : Int) ≤ (j : Int) % 32 := by omega
                have d3 : (j : Int) % 32 < 32 := by omega
                have hj4 : j / 32 < 4 := by omega
                go_wp2_with fail
                generalize hg6 : zr5.alloc _ = x6
                obtain ⟨o, ho⟩ : ∃ o, Hid (o = V.bit j) := ⟨_, Lib.hid rfl⟩
                have O6 : x6.heap[zr5.heap.size]? = some (vcell o) := by
                  rw [← hg6, heap_alloc_new, ho.out]
                  exact congrArg (fun c => some (Obj.cells c 24)) (bit_cells j hj)
                have b6 : Below zr5.heap.size zr5 x6 := by rw [← hg6]; exact (Below.refl _ _).alloc (Nat.le_refl _) _
                have zz := hR.size
                have zx : xr.heap.size < zr5.heap.size := (Array.getElem?_eq_some_iff.1 P).1
                have zgg := W.lt
                have R6 := hR.step g1 g2 b6 hR.size
                have K6 := K.trans (Kept.of_below b6 (by omega))
                have Q6 := (b6.block _ (by omega)).trans Q
                have W6 := W.block (b6.block _ W.lt)
                have P6 := (b6.block _ zx).trans P
                clear hg6 b6 hR K Q W P hquo hrem d0 d1 d2 d3 hj4
                have e0 : zr5.heap.size < x6.heap.size := (Array.getElem?_eq_some_iff.1 O6).1
                have e1 : w.heap.size < x6.heap.size := by omega
                have e2 : xr.heap.size < x6.heap.size := by omega
                have e3 : nF + 1 + 1 < xr.heap.size := by omega
                have e4 : nF + 1 + 1 < zr5.heap.size := by omega
                have hvk := Lib.hid (v_k c hc x hxc)
                rw [← hkb.out] at hvk
                obtain ⟨qc, qf, ql⟩ := block_cells Q6
                have pc : ∀ o, x6.cell? ⟨xr.heap.size, o, none⟩ = (#[uv p.a, uv p.b, uv p.c, uv p.d, uv r.a, uv r.b, uv r.c, uv r.d] : Array Value)[o]? := (block_cells P6).1
                obtain ⟨oc, of_, ol⟩ := block_cells O6
                -- WAYS
                cases hA' : bitOf q.a j
                · have hA : o.and q.a = V.zero := by rw [ho.out]; exact (bit_and q.a j hj).2 hA'
                  cases hB' : bitOf q.b j
                  · have hB : o.and q.b = V.zero := by rw [ho.out]; exact (bit_and q.b j hj).2 hB'
                    obtain ⟨R, R0, hRc, hRt, hR2, y1, n1, y2, n2⟩ := stages' g1 g2 HV σ (σ) (σ) x6 R6
                    have hN1 := n1 rfl
                    have hN2 := n2 rfl
                    clear y1 n1 y2 n2
                    refine FlowM.wp_region_two R 16 36 38 35 [29, 26, 25, 23, 19, 18, 17, 16] (by decide) (by omega) (by omega) (by kernel_rfl) rfl (by kernel_rfl) (by kernel_rfl) R0 ?_
                    simp only [List.take_succ_cons, List.take_zero, List.drop_succ_cons, List.drop_zero]
                    iterate 38
                      first
                        | refine FlowM.flow_skip rfl rfl rfl ?_
                        | refine FlowM.flow_one_no rfl rfl (fun w1 hb => hN1.out w1 hb) ?_
                        | refine FlowM.flow_two_no rfl rfl rfl (fun w1 hb => hN2.out w1 hb) ?_
                        | (apply FlowM.flow_one; rfl; rfl; (intro w1 hb; have hc := hRc.out 0 w1 hb; go_simp; (go_at_call 28; (with_reducible refine (hY1.out _ hb).mono ?_); rintro e w2 ⟨rfl, hb2⟩; exact ⟨_, rfl, rfl, hb2⟩)))
                        | (apply FlowM.flow_two; rfl; rfl; rfl; (intro w1 hb; have hc := hRc.out 1 w1 hb; go_simp; (go_at_call 28; (with_reducible refine (hY2.out _ hb).mono ?_); rintro e w2 ⟨rfl, hb2⟩; exact ⟨_, rfl, rfl, hb2⟩)))
                        | (apply FlowM.flow_step; rfl; rfl; rfl; (intro s1 w1 hb; have hc := hRc.out s1 w1 hb; go_simp; (first | with_reducible exact ⟨rfl, hb⟩ | with_reducible exact rfl | (go_at_call 15; (with_reducible refine (rand_c o q.a _).mono ?_); rintro e w2 ⟨rfl, hb2⟩; exact ⟨_, rfl, rfl, hRt.out _ _ _ hb hb2⟩) | (go_at_call 15; (with_reducible refine (rand_c o q.b _).mono ?_); rintro e w2 ⟨rfl, hb2⟩; exact ⟨_, rfl, rfl, hRt.out _ _ _ hb hb2⟩) | (go_at_call 16; (with_reducible refine (rxor_c p o _).mono ?_); rintro e w2 ⟨rfl, hb2⟩; exact ⟨_, rfl, rfl, hRt.out _ _ _ hb hb2⟩) | (go_at_call 16; (with_reducible refine (rxor_c r o _).mono ?_); rintro e w2 ⟨rfl, hb2⟩; exact ⟨_, rfl, rfl, hRt.out _ _ _ hb hb2⟩) | (go_at_call 20; (with_reducible refine (hvk.out _).mono ?_); rintro e w2 ⟨rfl, hb2⟩; exact ⟨_, rfl, rfl, hRt.out _ _ _ hb hb2⟩))))
                      (try simp only [Act.put, List.setIfInBounds_toArray, List.set_cons_zero, List.set_cons_succ])
                    apply FlowM.flow_nil
                    intro w7 hb
                    obtain ⟨K7, R7⟩ := hR2.out w7 hb
                    clear hRc hRt hR2 hb
                    go_wp2_with fail
                    go_roundg (gk - 1)
                    case measure => omega
                    case rel =>
                      have V7 := Lib.hid (V1.out)
                      have sb : T ⊆ T := fun t ht => by simp [ht]
                      exact ⟨j + 1, _, T, by omega, by go_num, R7, V7, Lib.hid (C1.out.sub sb), Lib.hid (C2.out.sub sb), Lib.hid (C3.out.step sb (fun h => absurd h (by rw [hA']; decide)) (fun h => absurd h (by rw [hB']; decide))), K6.trans K7, (kept_block K7 (by omega) (by omega)).trans Q6, W6.block (kept_block K7 W6.lt (by omega)), (kept_block K7 (by omega) (by omega)).trans P6⟩
                  · have hB : ¬ o.and q.b = ⟨0#32, 0#32, 0#32, 0#32⟩ := by show ¬ o.and q.b = V.zero; rw [ho.out, bit_and q.b j hj, hB']; decide
                    cases hy : σ.ans sh (q.fil kb p (r.xor o))
                    · skip
                      obtain ⟨R, R0, hRc, hRt, hR2, y1, n1, y2, n2⟩ := stages' g1 g2 HV σ (σ) (σ.next (q.fil kb p (r.xor o))) x6 R6
                      have hN1 := n1 rfl
                      have hY2 := y2 kb p (r.xor o) false rfl hy
                      clear y1 n1 y2 n2
                      refine FlowM.wp_region_two R 16 36 38 35 [29, 26, 25, 23, 19, 18, 17, 16] (by decide) (by omega) (by omega) (by kernel_rfl) rfl (by kernel_rfl) (by kernel_rfl) R0 ?_
                      simp only [List.take_succ_cons, List.take_zero, List.drop_succ_cons, List.drop_zero]
                      iterate 38
                        first
                          | refine FlowM.flow_skip rfl rfl rfl ?_
                          | refine FlowM.flow_one_no rfl rfl (fun w1 hb => hN1.out w1 hb) ?_
                          | refine FlowM.flow_two_no rfl rfl rfl (fun w1 hb => hN2.out w1 hb) ?_
                          | (apply FlowM.flow_one; rfl; rfl; (intro w1 hb; have hc := hRc.out 0 w1 hb; go_simp; (go_at_call 28; (with_reducible refine (hY1.out _ hb).mono ?_); rintro e w2 ⟨rfl, hb2⟩; exact ⟨_, rfl, rfl, hb2⟩)))
                          | (apply FlowM.flow_two; rfl; rfl; rfl; (intro w1 hb; have hc := hRc.out 1 w1 hb; go_simp; (go_at_call 28; (with_reducible refine (hY2.out _ hb).mono ?_); rintro e w2 ⟨rfl, hb2⟩; exact ⟨_, rfl, rfl, hb2⟩)))
                          | (apply FlowM.flow_step; rfl; rfl; rfl; (intro s1 w1 hb; have hc := hRc.out s1 w1 hb; go_simp; (first | with_reducible exact ⟨rfl, hb⟩ | with_reducible exact rfl | (go_at_call 15; (with_reducible refine (rand_c o q.a _).mono ?_); rintro e w2 ⟨rfl, hb2⟩; exact ⟨_, rfl, rfl, hRt.out _ _ _ hb hb2⟩) | (go_at_call 15; (with_reducible refine (rand_c o q.b _).mono ?_); rintro e w2 ⟨rfl, hb2⟩; exact ⟨_, rfl, rfl, hRt.out _ _ _ hb hb2⟩) | (go_at_call 16; (with_reducible refine (rxor_c p o _).mono ?_); rintro e w2 ⟨rfl, hb2⟩; exact ⟨_, rfl, rfl, hRt.out _ _ _ hb hb2⟩) | (go_at_call 16; (with_reducible refine (rxor_c r o _).mono ?_); rintro e w2 ⟨rfl, hb2⟩; exact ⟨_, rfl, rfl, hRt.out _ _ _ hb hb2⟩) | (go_at_call 20; (with_reducible refine (hvk.out _).mono ?_); rintro e w2 ⟨rfl, hb2⟩; exact ⟨_, rfl, rfl, hRt.out _ _ _ hb hb2⟩))))
                        (try simp only [Act.put, List.setIfInBounds_toArray, List.set_cons_zero, List.set_cons_succ])
                      apply FlowM.flow_nil
                      intro w7 hb
                      obtain ⟨K7, R7⟩ := hR2.out w7 hb
                      clear hRc hRt hR2 hb
                      go_wp2_with fail
                      go_ret
                      exact ⟨_, R7, K6.trans K7, .inr ⟨rfl, ans_false hy⟩⟩
                    · skip
                      obtain ⟨R, R0, hRc, hRt, hR2, y1, n1, y2, n2⟩ := stages' g1 g2 HV σ (σ) (σ.next (q.fil kb p (r.xor o))) x6 R6
                      have hN1 := n1 rfl
                      have hY2 := y2 kb p (r.xor o) true rfl hy
                      clear y1 n1 y2 n2
                      refine FlowM.wp_region_two R 16 36 38 35 [29, 26, 25, 23, 19, 18, 17, 16] (by decide) (by omega) (by omega) (by kernel_rfl) rfl (by kernel_rfl) (by kernel_rfl) R0 ?_
                      simp only [List.take_succ_cons, List.take_zero, List.drop_succ_cons, List.drop_zero]
                      iterate 38
                        first
                          | refine FlowM.flow_skip rfl rfl rfl ?_
                          | refine FlowM.flow_one_no rfl rfl (fun w1 hb => hN1.out w1 hb) ?_
                          | refine FlowM.flow_two_no rfl rfl rfl (fun w1 hb => hN2.out w1 hb) ?_
                          | (apply FlowM.flow_one; rfl; rfl; (intro w1 hb; have hc := hRc.out 0 w1 hb; go_simp; (go_at_call 28; (with_reducible refine (hY1.out _ hb).mono ?_); rintro e w2 ⟨rfl, hb2⟩; exact ⟨_, rfl, rfl, hb2⟩)))
                          | (apply FlowM.flow_two; rfl; rfl; rfl; (intro w1 hb; have hc := hRc.out 1 w1 hb; go_simp; (go_at_call 28; (with_reducible refine (hY2.out _ hb).mono ?_); rintro e w2 ⟨rfl, hb2⟩; exact ⟨_, rfl, rfl, hb2⟩)))
                          | (apply FlowM.flow_step; rfl; rfl; rfl; (intro s1 w1 hb; have hc := hRc.out s1 w1 hb; go_simp; (first | with_reducible exact ⟨rfl, hb⟩ | with_reducible exact rfl | (go_at_call 15; (with_reducible refine (rand_c o q.a _).mono ?_); rintro e w2 ⟨rfl, hb2⟩; exact ⟨_, rfl, rfl, hRt.out _ _ _ hb hb2⟩) | (go_at_call 15; (with_reducible refine (rand_c o q.b _).mono ?_); rintro e w2 ⟨rfl, hb2⟩; exact ⟨_, rfl, rfl, hRt.out _ _ _ hb hb2⟩) | (go_at_call 16; (with_reducible refine (rxor_c p o _).mono ?_); rintro e w2 ⟨rfl, hb2⟩; exact ⟨_, rfl, rfl, hRt.out _ _ _ hb hb2⟩) | (go_at_call 16; (with_reducible refine (rxor_c r o _).mono ?_); rintro e w2 ⟨rfl, hb2⟩; exact ⟨_, rfl, rfl, hRt.out _ _ _ hb hb2⟩) | (go_at_call 20; (with_reducible refine (hvk.out _).mono ?_); rintro e w2 ⟨rfl, hb2⟩; exact ⟨_, rfl, rfl, hRt.out _ _ _ hb hb2⟩))))
                        (try simp only [Act.put, List.setIfInBounds_toArray, List.set_cons_zero, List.set_cons_succ])
                      apply FlowM.flow_nil
                      intro w7 hb
                      obtain ⟨K7, R7⟩ := hR2.out w7 hb
                      clear hRc hRt hR2 hb
                      go_wp2_with fail
                      go_roundg (gk - 1)
                      case measure => omega
                      case rel =>
                        have V7 := Lib.hid (V1.out.next kb p (r.xor o))
                        have sb : T ⊆ ((kb, p, r.xor o) :: T) := fun t ht => by simp [ht]
                        exact ⟨j + 1, _, ((kb, p, r.xor o) :: T), by omega, by go_num, R7, V7, Lib.hid (C1.out.sub sb), Lib.hid (C2.out.sub sb), Lib.hid (C3.out.step sb (fun h => absurd h (by rw [hA']; decide)) (fun _ => by rw [← ho.out]; simp)), K6.trans K7, (kept_block K7 (by omega) (by omega)).trans Q6, W6.block (kept_block K7 W6.lt (by omega)), (kept_block K7 (by omega) (by omega)).trans P6⟩
                · have hA : ¬ o.and q.a = ⟨0#32, 0#32, 0#32, 0#32⟩ := by show ¬ o.and q.a = V.zero; rw [ho.out, bit_and q.a j hj, hA']; decide
                  cases hx : σ.ans sh (q.fil kb (p.xor o) r)
                  · skip
                    obtain ⟨R, R0, hRc, hRt, hR2, y1, n1, y2, n2⟩ := stages' g1 g2 HV σ (σ.next (q.fil kb (p.xor o) r)) (σ.next (q.fil kb (p.xor o) r)) x6 R6
                    have hY1 := y1 kb (p.xor o) r false rfl hx
                    have hN2 := n2 rfl
                    clear y1 n1 y2 n2
                    refine FlowM.wp_region_two R 16 36 38 35 [29, 26, 25, 23, 19, 18, 17, 16] (by decide) (by omega) (by omega) (by kernel_rfl) rfl (by kernel_rfl) (by kernel_rfl) R0 ?_
                    simp only [List.take_succ_cons, List.take_zero, List.drop_succ_cons, List.drop_zero]
                    iterate 38
                      first
                        | refine FlowM.flow_skip rfl rfl rfl ?_
                        | refine FlowM.flow_one_no rfl rfl (fun w1 hb => hN1.out w1 hb) ?_
                        | refine FlowM.flow_two_no rfl rfl rfl (fun w1 hb => hN2.out w1 hb) ?_
                        | (apply FlowM.flow_one; rfl; rfl; (intro w1 hb; have hc := hRc.out 0 w1 hb; go_simp; (go_at_call 28; (with_reducible refine (hY1.out _ hb).mono ?_); rintro e w2 ⟨rfl, hb2⟩; exact ⟨_, rfl, rfl, hb2⟩)))
                        | (apply FlowM.flow_two; rfl; rfl; rfl; (intro w1 hb; have hc := hRc.out 1 w1 hb; go_simp; (go_at_call 28; (with_reducible refine (hY2.out _ hb).mono ?_); rintro e w2 ⟨rfl, hb2⟩; exact ⟨_, rfl, rfl, hb2⟩)))
                        | (apply FlowM.flow_step; rfl; rfl; rfl; (intro s1 w1 hb; have hc := hRc.out s1 w1 hb; go_simp; (first | with_reducible exact ⟨rfl, hb⟩ | with_reducible exact rfl | (go_at_call 15; (with_reducible refine (rand_c o q.a _).mono ?_); rintro e w2 ⟨rfl, hb2⟩; exact ⟨_, rfl, rfl, hRt.out _ _ _ hb hb2⟩) | (go_at_call 15; (with_reducible refine (rand_c o q.b _).mono ?_); rintro e w2 ⟨rfl, hb2⟩; exact ⟨_, rfl, rfl, hRt.out _ _ _ hb hb2⟩) | (go_at_call 16; (with_reducible refine (rxor_c p o _).mono ?_); rintro e w2 ⟨rfl, hb2⟩; exact ⟨_, rfl, rfl, hRt.out _ _ _ hb hb2⟩) | (go_at_call 16; (with_reducible refine (rxor_c r o _).mono ?_); rintro e w2 ⟨rfl, hb2⟩; exact ⟨_, rfl, rfl, hRt.out _ _ _ hb hb2⟩) | (go_at_call 20; (with_reducible refine (hvk.out _).mono ?_); rintro e w2 ⟨rfl, hb2⟩; exact ⟨_, rfl, rfl, hRt.out _ _ _ hb hb2⟩))))
                      (try simp only [Act.put, List.setIfInBounds_toArray, List.set_cons_zero, List.set_cons_succ])
                    apply FlowM.flow_nil
                    intro w7 hb
                    obtain ⟨K7, R7⟩ := hR2.out w7 hb
                    clear hRc hRt hR2 hb
                    go_wp2_with fail
                    go_ret
                    exact ⟨_, R7, K6.trans K7, .inr ⟨rfl, ans_false hx⟩⟩
                  · cases hB' : bitOf q.b j
                    · have hB : o.and q.b = V.zero := by rw [ho.out]; exact (bit_and q.b j hj).2 hB'
                      obtain ⟨R, R0, hRc, hRt, hR2, y1, n1, y2, n2⟩ := stages' g1 g2 HV σ (σ.next (q.fil kb (p.xor o) r)) (σ.next (q.fil kb (p.xor o) r)) x6 R6
                      have hY1 := y1 kb (p.xor o) r true rfl hx
                      have hN2 := n2 rfl
                      clear y1 n1 y2 n2
                      refine FlowM.wp_region_two R 16 36 38 35 [29, 26, 25, 23, 19, 18, 17, 16] (by decide) (by omega) (by omega) (by kernel_rfl) rfl (by kernel_rfl) (by kernel_rfl) R0 ?_
                      simp only [List.take_succ_cons, List.take_zero, List.drop_succ_cons, List.drop_zero]
                      iterate 38
                        first
                          | refine FlowM.flow_skip rfl rfl rfl ?_
                          | refine FlowM.flow_one_no rfl rfl (fun w1 hb => hN1.out w1 hb) ?_
                          | refine FlowM.flow_two_no rfl rfl rfl (fun w1 hb => hN2.out w1 hb) ?_
                          | (apply FlowM.flow_one; rfl; rfl; (intro w1 hb; have hc := hRc.out 0 w1 hb; go_simp; (go_at_call 28; (with_reducible refine (hY1.out _ hb).mono ?_); rintro e w2 ⟨rfl, hb2⟩; exact ⟨_, rfl, rfl, hb2⟩)))
                          | (apply FlowM.flow_two; rfl; rfl; rfl; (intro w1 hb; have hc := hRc.out 1 w1 hb; go_simp; (go_at_call 28; (with_reducible refine (hY2.out _ hb).mono ?_); rintro e w2 ⟨rfl, hb2⟩; exact ⟨_, rfl, rfl, hb2⟩)))
                          | (apply FlowM.flow_step; rfl; rfl; rfl; (intro s1 w1 hb; have hc := hRc.out s1 w1 hb; go_simp; (first | with_reducible exact ⟨rfl, hb⟩ | with_reducible exact rfl | (go_at_call 15; (with_reducible refine (rand_c o q.a _).mono ?_); rintro e w2 ⟨rfl, hb2⟩; exact ⟨_, rfl, rfl, hRt.out _ _ _ hb hb2⟩) | (go_at_call 15; (with_reducible refine (rand_c o q.b _).mono ?_); rintro e w2 ⟨rfl, hb2⟩; exact ⟨_, rfl, rfl, hRt.out _ _ _ hb hb2⟩) | (go_at_call 16; (with_reducible refine (rxor_c p o _).mono ?_); rintro e w2 ⟨rfl, hb2⟩; exact ⟨_, rfl, rfl, hRt.out _ _ _ hb hb2⟩) | (go_at_call 16; (with_reducible refine (rxor_c r o _).mono ?_); rintro e w2 ⟨rfl, hb2⟩; exact ⟨_, rfl, rfl, hRt.out _ _ _ hb hb2⟩) | (go_at_call 20; (with_reducible refine (hvk.out _).mono ?_); rintro e w2 ⟨rfl, hb2⟩; exact ⟨_, rfl, rfl, hRt.out _ _ _ hb hb2⟩))))
                        (try simp only [Act.put, List.setIfInBounds_toArray, List.set_cons_zero, List.set_cons_succ])
                      apply FlowM.flow_nil
                      intro w7 hb
                      obtain ⟨K7, R7⟩ := hR2.out w7 hb
                      clear hRc hRt hR2 hb
                      go_wp2_with fail
                      go_roundg (gk - 1)
                      case measure => omega
                      case rel =>
                        have V7 := Lib.hid (V1.out.next kb (p.xor o) r)
                        have sb : T ⊆ ((kb, p.xor o, r) :: T) := fun t ht => by simp [ht]
                        exact ⟨j + 1, _, ((kb, p.xor o, r) :: T), by omega, by go_num, R7, V7, Lib.hid (C1.out.sub sb), Lib.hid (C2.out.sub sb), Lib.hid (C3.out.step sb (fun _ => by rw [← ho.out]; simp) (fun h => absurd h (by rw [hB']; decide))), K6.trans K7, (kept_block K7 (by omega) (by omega)).trans Q6, W6.block (kept_block K7 W6.lt (by omega)), (kept_block K7 (by omega) (by omega)).trans P6⟩
                    · have hB : ¬ o.and q.b = ⟨0#32, 0#32, 0#32, 0#32⟩ := by show ¬ o.and q.b = V.zero; rw [ho.out, bit_and q.b j hj, hB']; decide
                      cases hy : (σ.next (q.fil kb (p.xor o) r)).ans sh (q.fil kb p (r.xor o))
                      · skip
                        obtain ⟨R, R0, hRc, hRt, hR2, y1, n1, y2, n2⟩ := stages' g1 g2 HV σ (σ.next (q.fil kb (p.xor o) r)) ((σ.next (q.fil kb (p.xor o) r)).next (q.fil kb p (r.xor o))) x6 R6
                        have hY1 := y1 kb (p.xor o) r true rfl hx
                        have hY2 := y2 kb p (r.xor o) false rfl hy
                        clear y1 n1 y2 n2
                        refine FlowM.wp_region_two R 16 36 38 35 [29, 26, 25, 23, 19, 18, 17, 16] (by decide) (by omega) (by omega) (by kernel_rfl) rfl (by kernel_rfl) (by kernel_rfl) R0 ?_
                        simp only [List.take_succ_cons, List.take_zero, List.drop_succ_cons, List.drop_zero]
                        iterate 38
                          first
                            | refine FlowM.flow_skip rfl rfl rfl ?_
                            | refine FlowM.flow_one_no rfl rfl (fun w1 hb => hN1.out w1 hb) ?_
                            | refine FlowM.flow_two_no rfl rfl rfl (fun w1 hb => hN2.out w1 hb) ?_
                            | (apply FlowM.flow_one; rfl; rfl; (intro w1 hb; have hc := hRc.out 0 w1 hb; go_simp; (go_at_call 28; (with_reducible refine (hY1.out _ hb).mono ?_); rintro e w2 ⟨rfl, hb2⟩; exact ⟨_, rfl, rfl, hb2⟩)))
                            | (apply FlowM.flow_two; rfl; rfl; rfl; (intro w1 hb; have hc := hRc.out 1 w1 hb; go_simp; (go_at_call 28; (with_reducible refine (hY2.out _ hb).mono ?_); rintro e w2 ⟨rfl, hb2⟩; exact ⟨_, rfl, rfl, hb2⟩)))
                            | (apply FlowM.flow_step; rfl; rfl; rfl; (intro s1 w1 hb; have hc := hRc.out s1 w1 hb; go_simp; (first | with_reducible exact ⟨rfl, hb⟩ | with_reducible exact rfl | (go_at_call 15; (with_reducible refine (rand_c o q.a _).mono ?_); rintro e w2 ⟨rfl, hb2⟩; exact ⟨_, rfl, rfl, hRt.out _ _ _ hb hb2⟩) | (go_at_call 15; (with_reducible refine (rand_c o q.b _).mono ?_); rintro e w2 ⟨rfl, hb2⟩; exact ⟨_, rfl, rfl, hRt.out _ _ _ hb hb2⟩) | (go_at_call 16; (with_reducible refine (rxor_c p o _).mono ?_); rintro e w2 ⟨rfl, hb2⟩; exact ⟨_, rfl, rfl, hRt.out _ _ _ hb hb2⟩) | (go_at_call 16; (with_reducible refine (rxor_c r o _).mono ?_); rintro e w2 ⟨rfl, hb2⟩; exact ⟨_, rfl, rfl, hRt.out _ _ _ hb hb2⟩) | (go_at_call 20; (with_reducible refine (hvk.out _).mono ?_); rintro e w2 ⟨rfl, hb2⟩; exact ⟨_, rfl, rfl, hRt.out _ _ _ hb hb2⟩))))
                          (try simp only [Act.put, List.setIfInBounds_toArray, List.set_cons_zero, List.set_cons_succ])
                        apply FlowM.flow_nil
                        intro w7 hb
                        obtain ⟨K7, R7⟩ := hR2.out w7 hb
                        clear hRc hRt hR2 hb
                        go_wp2_with fail
                        go_ret
                        exact ⟨_, R7, K6.trans K7, .inr ⟨rfl, ans_false hy⟩⟩
                      · skip
                        obtain ⟨R, R0, hRc, hRt, hR2, y1, n1, y2, n2⟩ := stages' g1 g2 HV σ (σ.next (q.fil kb (p.xor o) r)) ((σ.next (q.fil kb (p.xor o) r)).next (q.fil kb p (r.xor o))) x6 R6
                        have hY1 := y1 kb (p.xor o) r true rfl hx
                        have hY2 := y2 kb p (r.xor o) true rfl hy
                        clear y1 n1 y2 n2
                        refine FlowM.wp_region_two R 16 36 38 35 [29, 26, 25, 23, 19, 18, 17, 16] (by decide) (by omega) (by omega) (by kernel_rfl) rfl (by kernel_rfl) (by kernel_rfl) R0 ?_
                        simp only [List.take_succ_cons, List.take_zero, List.drop_succ_cons, List.drop_zero]
                        iterate 38
                          first
                            | refine FlowM.flow_skip rfl rfl rfl ?_
                            | refine FlowM.flow_one_no rfl rfl (fun w1 hb => hN1.out w1 hb) ?_
                            | refine FlowM.flow_two_no rfl rfl rfl (fun w1 hb => hN2.out w1 hb) ?_
                            | (apply FlowM.flow_one; rfl; rfl; (intro w1 hb; have hc := hRc.out 0 w1 hb; go_simp; (go_at_call 28; (with_reducible refine (hY1.out _ hb).mono ?_); rintro e w2 ⟨rfl, hb2⟩; exact ⟨_, rfl, rfl, hb2⟩)))
                            | (apply FlowM.flow_two; rfl; rfl; rfl; (intro w1 hb; have hc := hRc.out 1 w1 hb; go_simp; (go_at_call 28; (with_reducible refine (hY2.out _ hb).mono ?_); rintro e w2 ⟨rfl, hb2⟩; exact ⟨_, rfl, rfl, hb2⟩)))
                            | (apply FlowM.flow_step; rfl; rfl; rfl; (intro s1 w1 hb; have hc := hRc.out s1 w1 hb; go_simp; (first | with_reducible exact ⟨rfl, hb⟩ | with_reducible exact rfl | (go_at_call 15; (with_reducible refine (rand_c o q.a _).mono ?_); rintro e w2 ⟨rfl, hb2⟩; exact ⟨_, rfl, rfl, hRt.out _ _ _ hb hb2⟩) | (go_at_call 15; (with_reducible refine (rand_c o q.b _).mono ?_); rintro e w2 ⟨rfl, hb2⟩; exact ⟨_, rfl, rfl, hRt.out _ _ _ hb hb2⟩) | (go_at_call 16; (with_reducible refine (rxor_c p o _).mono ?_); rintro e w2 ⟨rfl, hb2⟩; exact ⟨_, rfl, rfl, hRt.out _ _ _ hb hb2⟩) | (go_at_call 16; (with_reducible refine (rxor_c r o _).mono ?_); rintro e w2 ⟨rfl, hb2⟩; exact ⟨_, rfl, rfl, hRt.out _ _ _ hb hb2⟩) | (go_at_call 20; (with_reducible refine (hvk.out _).mono ?_); rintro e w2 ⟨rfl, hb2⟩; exact ⟨_, rfl, rfl, hRt.out _ _ _ hb hb2⟩))))
                          (try simp only [Act.put, List.setIfInBounds_toArray, List.set_cons_zero, List.set_cons_succ])
                        apply FlowM.flow_nil
                        intro w7 hb
                        obtain ⟨K7, R7⟩ := hR2.out w7 hb
                        clear hRc hRt hR2 hb
                        go_wp2_with fail
                        go_roundg (gk - 1)
                        case measure => omega
                        case rel =>
                          have V7 := Lib.hid ((V1.out.next kb (p.xor o) r).next kb p (r.xor o))
                          have sb : T ⊆ ((kb, p, r.xor o) :: (kb, p.xor o, r) :: T) := fun t ht => by simp [ht]
                          exact ⟨j + 1, _, ((kb, p, r.xor o) :: (kb, p.xor o, r) :: T), by omega, by go_num, R7, V7, Lib.hid (C1.out.sub sb), Lib.hid (C2.out.sub sb), Lib.hid (C3.out.step sb (fun _ => by rw [← ho.out]; simp) (fun _ => by rw [← ho.out]; simp)), K6.trans K7, (kept_block K7 (by omega) (by omega)).trans Q6, W6.block (kept_block K7 W6.lt (by omega)), (kept_block K7 (by omega) (by omega)).trans P6⟩
                -- END WAYS
              · have hj8 : j = 128 := by omega
                subst hj8
                have hk : ¬ 128 < 128 := by omega
                go_wp2_with fail
                go_roundg (2 - (c + 1))
                case measure => omega
                case rel => exact ⟨c + 1, x + 1#32, σ, T, by omega, by rw [BitVec.toNat_add]; show (x.toNat + 1) % 2 ^ 32 = c + 1; omega, rfl, hR, V1, C1, Lib.hid (C2.out.step hc (by rw [← hkb.out]; exact C3.out)), K, Q, W, P⟩
        · have hc2 : c = 2 := by omega
          have hx2 : ¬ U x < U 2#32 := by show ¬ (x.toNat : Int) < 2; omega
          have hx3 : U 2#32 ≤ U x := by show (2 : Int) ≤ (x.toNat : Int); omega
          go_wp2_with fail
          go_roundg (19 - (i + 1))
          case measure => omega
          case rel => exact ⟨i + 1, σ, T, by omega, by go_num, hR, V1, Lib.hid (C1.out.step hpr (by rw [← hc2]; exact C2.out)), K, Q, W⟩
    · have hi19 : i = 19 := by omega
      subst hi19
      have hk : ¬ 19 < 19 := by omega
      go_wp2_with fail
      go_ret
      exact ⟨σ, R, K, .inl ⟨rfl, T, V1.out, C1.out⟩⟩
end Go.Proofs.YtboknfppecgjmaaGreat
