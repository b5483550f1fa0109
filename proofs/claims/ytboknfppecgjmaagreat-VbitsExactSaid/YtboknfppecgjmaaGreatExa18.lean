/- Part 18 of the proof's texts: Shadow, AskAll, Commutes. -/
import Derived.Test.YtboknfppecgjmaaGreatExa2
import Derived.Test.YtboknfppecgjmaaGreatExa9
import Derived.Test.YtboknfppecgjmaaGreatExa13
import Derived.Test.YtboknfppecgjmaaGreatExa14
import Derived.Test.YtboknfppecgjmaaGreatExa15
import Derived.Test.YtboknfppecgjmaaGreatExa16
import Derived.Test.YtboknfppecgjmaaGreatExa17
set_option maxHeartbeats 16000000
namespace Go.Proofs.YtboknfppecgjmaaGreat
set_option linter.unusedVariables false
set_option linter.unusedSimpArgs false
open Go.RowKit Go.Shelf
set_option maxRecDepth 100000 in
theorem shadow0_c (q : Ask) (hk : (q.kind == 0) = true) (w : World) : Calls Tryz.prog 9 #[akv q] w fun e w' => e = .returned (.tuple #[vv (Vb.un q.op q.from_ q.to q.off q.x q.a).1, .bool ((Vb.un q.op q.from_ q.to q.off q.x q.a).2 == 0)]) ∧ Below w.heap.size w w' := by
  go_enter Tryz.func9, Tryz.ntmps9
  go_wp2_with (go_at_call 18; refine (un_c _ _ _ _ _ _ _).mono ?_; rintro e w1 ⟨rfl, hb⟩; obtain ⟨hc, hf⟩ := Flow.bcell hb; have hz := hb.size; (try simp only [World.size_alloc, World.size_setCell, World.size_drew] at hz); obtain ⟨z0, z1⟩ := Flow.zs2 (show w.heap.size + 2 ≤ w1.heap.size by omega))
  refine Flow.bodyPost_k rfl (fun K hK => ?_)
  simp only [results, Tryz.results9]
  go_simp
  refine hK _ ⟨?_, ?_⟩
  · rfl
  · (repeat (first | exact Below.refl _ _ | refine Below.setCell ?_ (by first | omega | (simp <;> omega)) _ | refine Below.alloc ?_ (by first | omega | (simp <;> omega)) _ | refine Below.drew ?_ | refine Below.trans ?_ (Below.mono (by assumption) (by first | omega | (simp <;> omega)))))
set_option maxRecDepth 100000 in
theorem shadow1_c (q : Ask) (hk0 : (q.kind == 0) = false) (hk : (q.kind == 1) = true) (w : World) : Calls Tryz.prog 9 #[akv q] w fun e w' => e = .returned (.tuple #[vv (Vb.bin q.op q.from_ q.off q.x q.a q.y q.b).1, .bool ((Vb.bin q.op q.from_ q.off q.x q.a q.y q.b).2 == 0)]) ∧ Below w.heap.size w w' := by
  go_enter Tryz.func9, Tryz.ntmps9
  go_wp2_with (go_at_call 21; refine (bin_c _ _ _ _ _ _ _ _).mono ?_; rintro e w1 ⟨rfl, hb⟩; obtain ⟨hc, hf⟩ := Flow.bcell hb; have hz := hb.size; (try simp only [World.size_alloc, World.size_setCell, World.size_drew] at hz); obtain ⟨z0, z1⟩ := Flow.zs2 (show w.heap.size + 2 ≤ w1.heap.size by omega))
  refine Flow.bodyPost_k rfl (fun K hK => ?_)
  simp only [results, Tryz.results9]
  go_simp
  refine hK _ ⟨?_, ?_⟩
  · rfl
  · (repeat (first | exact Below.refl _ _ | refine Below.setCell ?_ (by first | omega | (simp <;> omega)) _ | refine Below.alloc ?_ (by first | omega | (simp <;> omega)) _ | refine Below.drew ?_ | refine Below.trans ?_ (Below.mono (by assumption) (by first | omega | (simp <;> omega)))))
set_option maxRecDepth 100000 in
theorem shadow2_c (q : Ask) (hk0 : (q.kind == 0) = false) (hk1 : (q.kind == 1) = false) (hk : (q.kind == 2) = true) (w : World) : Calls Tryz.prog 9 #[akv q] w fun e w' => e = .returned (.tuple #[vv (Vb.mux q.from_ q.c q.d q.x q.a q.y q.b).1, .bool ((Vb.mux q.from_ q.c q.d q.x q.a q.y q.b).2 == 0)]) ∧ Below w.heap.size w w' := by
  go_enter Tryz.func9, Tryz.ntmps9
  go_wp2_with (go_at_call 32; refine (mux_c _ _ _ _ _ _ _ _).mono ?_; rintro e w1 ⟨rfl, hb⟩; obtain ⟨hc, hf⟩ := Flow.bcell hb; have hz := hb.size; (try simp only [World.size_alloc, World.size_setCell, World.size_drew] at hz); obtain ⟨z0, z1⟩ := Flow.zs2 (show w.heap.size + 2 ≤ w1.heap.size by omega))
  refine Flow.bodyPost_k rfl (fun K hK => ?_)
  simp only [results, Tryz.results9]
  go_simp
  refine hK _ ⟨?_, ?_⟩
  · rfl
  · (repeat (first | exact Below.refl _ _ | refine Below.setCell ?_ (by first | omega | (simp <;> omega)) _ | refine Below.alloc ?_ (by first | omega | (simp <;> omega)) _ | refine Below.drew ?_ | refine Below.trans ?_ (Below.mono (by assumption) (by first | omega | (simp <;> omega)))))
set_option maxRecDepth 100000 in
theorem shadow3_c (q : Ask) (l : List (BitVec 32)) (hk0 : (q.kind == 0) = false) (hk1 : (q.kind == 1) = false) (hk : (q.kind == 2) = false) (w : World) (hl : l.length ≤ maxLen) (hs : Lists w q.s l) :
    Calls Tryz.prog 9 #[akv q] w fun e w' => e = .returned (.tuple #[vv (V.word (Vb.call q.op l).1), .bool ((Vb.call q.op l).2 == 0)]) ∧ Below w.heap.size w w' := by
  have hc : ∀ w', Below w.heap.size w w' → Calls Tryz.prog 33 #[iv q.op, q.s] w' fun e w'' => e = .returned (.tuple #[uv (Vb.call q.op l).1, iv (Vb.call q.op l).2]) ∧ w'' = w' := fun w' hb => call_c q.op q.s l w' (hs.below hb) hl
  have HC := Lib.hid hc
  clear hc hs hl
  go_enter Tryz.func9, Tryz.ntmps9
  go_wp2_with (first | (go_at_call 33; refine (HC.out _ (by (repeat (first | exact Below.refl _ _ | refine Below.setCell ?_ (by first | omega | (simp <;> omega)) _ | refine Below.alloc ?_ (by first | omega | (simp <;> omega)) _ | refine Below.drew ?_ | refine Below.trans ?_ (Below.mono (by assumption) (by first | omega | (simp <;> omega)))))) ).mono ?_; rintro e w1 ⟨rfl, rfl⟩) | (go_at_call 20; refine (v_c _ _).mono ?_; rintro e w1 ⟨rfl, hb⟩; obtain ⟨hc, hf⟩ := Flow.bcell hb; have hz := hb.size; (try simp only [World.size_alloc, World.size_setCell, World.size_drew] at hz); obtain ⟨z0, z1⟩ := Flow.zs2 (show w.heap.size + 2 ≤ w1.heap.size by omega)))
  refine Flow.bodyPost_k rfl (fun K hK => ?_)
  simp only [results, Tryz.results9]
  go_simp
  refine hK _ ⟨?_, ?_⟩
  · rfl
  · (repeat (first | exact Below.refl _ _ | refine Below.setCell ?_ (by first | omega | (simp <;> omega)) _ | refine Below.alloc ?_ (by first | omega | (simp <;> omega)) _ | refine Below.drew ?_ | refine Below.trans ?_ (Below.mono (by assumption) (by first | omega | (simp <;> omega)))))
end Go.Proofs.YtboknfppecgjmaaGreat
namespace Go.Proofs.YtboknfppecgjmaaGreat
set_option linter.unusedVariables false
set_option linter.unusedSimpArgs false
open Go.RowKit Go.Shelf
abbrev FitsC (q : Ask) (b : Bool) : Prop := ∀ w, Calls Tryz.prog 8 #[akv q] w fun e w' => e = .returned (.bool b) ∧ Below w.heap.size w w'
theorem beq_t {x y : Int} (h : x = y) : (x == y) = true := by simpa using h
theorem beq_f {x y : Int} (h : ¬ x = y) : (x == y) = false := by simpa using h
theorem bne_t {x y : Int} (h : ¬ x = y) : (x != y) = true := by simpa using h
theorem bne_f {x y : Int} (h : x = y) : (x != y) = false := by simpa using h
theorem res_c (q : Ask) (al : Option Addr) (nl cl : Nat) (hl : q.l = .slice al nl cl) (hn : nl ≤ maxLen) : ResC q (q.res nl) := by
  intro w
  by_cases h0 : q.kind = 0
  · rw [show q.res nl = Rf.exUn q.op q.from_ q.to q.off by unfold Ask.res; rw [if_pos h0]]
    exact result0_c q (beq_t h0) w
  by_cases h1 : q.kind = 1
  · by_cases ha : Rf.exBin q.op q.from_ q.sec q.from_ q.off = 0
    · by_cases hb : Rf.exBin q.op q.from_ q.sec 1 q.off = 0
      · rw [show q.res nl = 0 by unfold Ask.res; rw [if_neg h0, if_pos h1, if_neg (fun h => h ha), hb]]
        exact result1c_c q (beq_f h0) (beq_t h1) w (bne_f ha) (bne_f hb)
      · rw [show q.res nl = Rf.exBin q.op q.from_ q.sec 1 q.off by unfold Ask.res; rw [if_neg h0, if_pos h1, if_neg (fun h => h ha)]]
        exact result1b_c q (beq_f h0) (beq_t h1) w (bne_f ha) (bne_t hb)
    · rw [show q.res nl = Rf.exBin q.op q.from_ q.sec q.from_ q.off by unfold Ask.res; rw [if_neg h0, if_pos h1, if_pos ha]]
      exact result1a_c q (beq_f h0) (beq_t h1) w (bne_t ha)
  by_cases h2 : q.kind = 2
  · rw [show q.res nl = Rf.tmpTy q.from_ by unfold Ask.res; rw [if_neg h0, if_neg h1, if_pos h2]]
    exact result2_c q (beq_f h0) (beq_f h1) (beq_t h2) w
  by_cases h3 : q.kind = 3
  · rw [show q.res nl = (if (q.op == 1 && ((nl : Int) == 4)) || (q.op == 2 && ((nl : Int) == 5)) then 32 else 0) by unfold Ask.res; rw [if_neg h0, if_neg h1, if_neg h2, if_pos h3]]
    exact result3_c q al nl cl hl hn (beq_f h0) (beq_f h1) (beq_f h2) (beq_t h3) w
  · rw [show q.res nl = 0 by unfold Ask.res; rw [if_neg h0, if_neg h1, if_neg h2, if_neg h3]]
    exact result9_c q (beq_f h0) (beq_f h1) (beq_f h2) (beq_f h3) w
theorem fitsAll_c (q : Ask) (al as_ : Option Addr) (nl cl ns cs : Nat) (hl : q.l = .slice al nl cl) (hs : q.s = .slice as_ ns cs) (b1 : nl ≤ maxLen) (b2 : ns ≤ maxLen) : FitsC q (q.fit nl ns) := by
  intro w
  have HR : Hid (ResC q (q.res nl)) := Lib.hid (res_c q al nl cl hl b1)
  by_cases hr : q.res nl = 0
  · rw [show q.fit nl ns = false by unfold Ask.fit; rw [if_pos hr]]
    exact fits_z q _ HR (beq_t hr) w
  by_cases h3 : q.kind = 3
  · rw [show q.fit nl ns = ((ns : Int) == (nl : Int)) by unfold Ask.fit; rw [if_neg hr, if_pos h3]]
    exact fits_3 q _ HR (beq_f hr) (beq_t h3) al as_ nl cl ns cs (Lib.hid hl) (Lib.hid hs) b1 b2 w
  rw [show q.fit nl ns = (Vb.is q.from_ q.x && Vb.is q.from_ q.a && (q.kind == 0 || (Vb.is q.sec q.y && Vb.is q.sec q.b && (q.kind == 1 || (Vb.is 1 q.c && Vb.is 1 q.d))))) by unfold Ask.fit; rw [if_neg hr, if_neg h3]]
  have k3 := beq_f h3
  have kr := beq_f hr
  cases hx : Vb.is q.from_ q.x
  · exact fits_xf q _ HR kr k3 hx w
  cases ha : Vb.is q.from_ q.a
  · exact fits_af q _ HR kr k3 hx ha w
  cases h0 : (q.kind == 0)
  · cases hy : Vb.is q.sec q.y
    · exact fits_yf q _ HR kr k3 hx ha h0 hy w
    cases hb : Vb.is q.sec q.b
    · exact fits_bf q _ HR kr k3 hx ha h0 hy hb w
    cases h1 : (q.kind == 1)
    · cases hc : Vb.is 1 q.c
      · exact fits_cf q _ HR kr k3 hx ha h0 hy hb h1 hc w
      cases hd : Vb.is 1 q.d
      · exact fits_df q _ HR kr k3 hx ha h0 hy hb h1 hc hd w
      · exact fits_2 q _ HR kr k3 hx ha h0 hy hb h1 hc hd w
    · exact fits_1 q _ HR kr k3 hx ha h0 hy hb h1 w
  · exact fits_0 q _ HR kr k3 hx ha h0 w
theorem shAll_c (q : Ask) (s : List (BitVec 32)) (hl : s.length ≤ maxLen) (w : World) (hs : Lists w q.s s) :
    Calls Tryz.prog 9 #[akv q] w fun e w' => e = .returned (.tuple #[vv (q.sh s).1, .bool ((q.sh s).2 == 0)]) ∧ Below w.heap.size w w' := by
  by_cases h0 : q.kind = 0
  · rw [show q.sh s = Vb.un q.op q.from_ q.to q.off q.x q.a by unfold Ask.sh; rw [if_pos h0]]
    exact shadow0_c q (beq_t h0) w
  by_cases h1 : q.kind = 1
  · rw [show q.sh s = Vb.bin q.op q.from_ q.off q.x q.a q.y q.b by unfold Ask.sh; rw [if_neg h0, if_pos h1]]
    exact shadow1_c q (beq_f h0) (beq_t h1) w
  by_cases h2 : q.kind = 2
  · rw [show q.sh s = Vb.mux q.from_ q.c q.d q.x q.a q.y q.b by unfold Ask.sh; rw [if_neg h0, if_neg h1, if_pos h2]]
    exact shadow2_c q (beq_f h0) (beq_f h1) (beq_t h2) w
  · rw [show q.sh s = (V.word (Vb.call q.op s).1, (Vb.call q.op s).2) by unfold Ask.sh; rw [if_neg h0, if_neg h1, if_neg h2]]
    exact shadow3_c q s (beq_f h0) (beq_f h1) (beq_f h2) w hl hs
theorem info_u32 : (Tryz.prog.info? 22).map (fun i => (i.zero, i.size, i.bytes)) = some (some (.int .u32 0), 1, 4) := by kernel_rfl
abbrev ShC (w : World) (q : Ask) (s : V) : Prop := ∀ w', Below w.heap.size w w' → Calls Tryz.prog 9 #[akv q] w' fun e w'' => e = .returned (.tuple #[vv s, .bool true]) ∧ Below w'.heap.size w' w''
end Go.Proofs.YtboknfppecgjmaaGreat
namespace Go.Proofs.YtboknfppecgjmaaGreat
set_option linter.unusedVariables false
set_option linter.unusedSimpArgs false
open Go.RowKit Go.Shelf
abbrev SaneC : Prop := ∀ w, Calls Tryz.prog 7 #[] w fun e w' => e = .returned (.bool true) ∧ Below w.heap.size w w'
abbrev BinC (op ty off : Int) (x a y b s : V) (n : Int) : Prop := ∀ w, Calls Tryz.prog 21 #[iv op, iv ty, iv off, vv x, vv a, vv y, vv b] w fun e w' => e = .returned (.tuple #[vv s, iv n]) ∧ Below w.heap.size w w'
end Go.Proofs.YtboknfppecgjmaaGreat
