/- VbitsChoices: the walk. -/
import Derived.Test.YtboknfppecgjmaaCommutes
import Derived.Test.YtboknfppecgjmaaRefMC
namespace Go.Proofs.Ytboknfppecgjmaa
set_option linter.unusedVariables false
set_option linter.unusedSimpArgs false
open Go.RowKit Go.Shelf
abbrev MuxC (f : FuncId) (ty : Int) (c d x a y b s : V) (n : Int) : Prop := ∀ w, Calls Try.prog f #[iv ty, vv c, vv d, vv x, vv a, vv y, vv b] w fun e w' => e = .returned (.tuple #[vv s, iv n]) ∧ Below w.heap.size w w'
abbrev CallC (w : World) (f : FuncId) (op : Int) (v : Value) (p : BitVec 32) (n : Int) : Prop := ∀ w', Below w.heap.size w w' → Calls Try.prog f #[iv op, v] w' fun e w'' => e = .returned (.tuple #[uv p, iv n]) ∧ w'' = w'
set_option maxRecDepth 100000 in
set_option maxHeartbeats 4000000 in
theorem vchoices_far (HS : Hid SaneC) (ty op : Int) (c d x a y b s : V) (n : Int) (ad : Option Addr) (len cap : Nat) (hl : len ≤ maxLen) (hf : (len : Int) > 1000) (w : World)
    (H1 : Hid (MuxC 12 ty c d x a y b s n)) (H2 : Hid (MuxC 13 ty c d x a y b s n)) :
    Calls Try.prog 3 #[iv ty, vv c, vv d, vv x, vv a, vv y, vv b, iv op, .slice ad len cap] w fun e w' => e = .returned (.bool true) ∧ Below w.heap.size w w' := by
  unfold maxLen at hl
  have hk : decide ((1000 : Int) < (len : Int)) = true := by simpa using hf
  go_enter Try.func3, Try.ntmps3
  go_wp2_with (go_at_call 11; refine (HS.out _ ).mono ?_; rintro e w1 ⟨rfl, hb⟩; obtain ⟨hc, hf⟩ := Flow.bcell hb; have hz := hb.size; (try simp only [World.size_alloc, World.size_setCell, World.size_drew] at hz); obtain ⟨z0, z1, z2, z3, z4, z5⟩ := Flow.zs6 (show w.heap.size + 6 ≤ w1.heap.size by omega))
  (refine (H1.out _ ).mono ?_; rintro e u1 ⟨rfl, hb⟩; obtain ⟨hc, hf⟩ := Flow.bcell hb; have hz := hb.size; (try simp only [World.size_alloc, World.size_setCell, World.size_drew] at hz); obtain ⟨z0, z1, z2, z3, z4, z5⟩ := Flow.zs6 (show w.heap.size + 6 ≤ u1.heap.size by omega))
  go_wp2_with fail
  (refine (H2.out _ ).mono ?_; rintro e u2 ⟨rfl, hb⟩; obtain ⟨hc, hf⟩ := Flow.bcell hb; have hz := hb.size; (try simp only [World.size_alloc, World.size_setCell, World.size_drew] at hz); obtain ⟨z0, z1, z2, z3, z4, z5⟩ := Flow.zs6 (show w.heap.size + 6 ≤ u2.heap.size by omega))
  have h12 : u1.heap.size < u2.heap.size := by omega
  go_wp2_with fail
  go_ret
  exact ⟨rfl, by (repeat (first | exact Below.refl _ _ | refine Below.setCell ?_ (by first | omega | (simp <;> omega)) _ | refine Below.alloc ?_ (by first | omega | (simp <;> omega)) _ | refine Below.drew ?_ | refine Below.trans ?_ (Below.mono (by assumption) (by first | omega | (simp <;> omega)))))⟩
set_option maxRecDepth 100000 in
set_option maxHeartbeats 4000000 in
theorem vchoices_near (HS : Hid SaneC) (ty op : Int) (c d x a y b s : V) (n : Int) (p : BitVec 32) (k : Int) (ad : Option Addr) (len cap : Nat) (hf : (len : Int) ≤ 1000) (w : World)
    (H1 : Hid (MuxC 12 ty c d x a y b s n)) (H2 : Hid (MuxC 13 ty c d x a y b s n))
    (H3 : Hid (CallC w 14 op (.slice ad len cap) p k)) (H4 : Hid (CallC w 15 op (.slice ad len cap) p k)) :
    Calls Try.prog 3 #[iv ty, vv c, vv d, vv x, vv a, vv y, vv b, iv op, .slice ad len cap] w fun e w' => e = .returned (.bool true) ∧ Below w.heap.size w w' := by
  have hk : decide ((1000 : Int) < (len : Int)) = false := by simpa using hf
  go_enter Try.func3, Try.ntmps3
  go_wp2_with (go_at_call 11; refine (HS.out _ ).mono ?_; rintro e w1 ⟨rfl, hb⟩; obtain ⟨hc, hf⟩ := Flow.bcell hb; have hz := hb.size; (try simp only [World.size_alloc, World.size_setCell, World.size_drew] at hz); obtain ⟨z0, z1, z2, z3, z4, z5⟩ := Flow.zs6 (show w.heap.size + 6 ≤ w1.heap.size by omega))
  (refine (H1.out _ ).mono ?_; rintro e u1 ⟨rfl, hb⟩; obtain ⟨hc, hf⟩ := Flow.bcell hb; have hz := hb.size; (try simp only [World.size_alloc, World.size_setCell, World.size_drew] at hz); obtain ⟨z0, z1, z2, z3, z4, z5⟩ := Flow.zs6 (show w.heap.size + 6 ≤ u1.heap.size by omega))
  go_wp2_with fail
  (refine (H2.out _ ).mono ?_; rintro e u2 ⟨rfl, hb⟩; obtain ⟨hc, hf⟩ := Flow.bcell hb; have hz := hb.size; (try simp only [World.size_alloc, World.size_setCell, World.size_drew] at hz); obtain ⟨z0, z1, z2, z3, z4, z5⟩ := Flow.zs6 (show w.heap.size + 6 ≤ u2.heap.size by omega))
  have h12 : u1.heap.size < u2.heap.size := by omega
  go_wp2_with fail
  (refine (H3.out _ (by (repeat (first | exact Below.refl _ _ | refine Below.setCell ?_ (by first | omega | (simp <;> omega)) _ | refine Below.alloc ?_ (by first | omega | (simp <;> omega)) _ | refine Below.drew ?_ | refine Below.trans ?_ (Below.mono (by assumption) (by first | omega | (simp <;> omega)))))) ).mono ?_; rintro e w1 ⟨rfl, rfl⟩)
  go_wp2_with fail
  (refine (H4.out _ (by (repeat (first | exact Below.refl _ _ | refine Below.setCell ?_ (by first | omega | (simp <;> omega)) _ | refine Below.alloc ?_ (by first | omega | (simp <;> omega)) _ | refine Below.drew ?_ | refine Below.trans ?_ (Below.mono (by assumption) (by first | omega | (simp <;> omega)))))) ).mono ?_; rintro e w1 ⟨rfl, rfl⟩)
  go_wp2_with fail
  go_ret
  exact ⟨rfl, by (repeat (first | exact Below.refl _ _ | refine Below.setCell ?_ (by first | omega | (simp <;> omega)) _ | refine Below.alloc ?_ (by first | omega | (simp <;> omega)) _ | refine Below.drew ?_ | refine Below.trans ?_ (Below.mono (by assumption) (by first | omega | (simp <;> omega)))))⟩
theorem vchoices_c (HS : Hid SaneC) (ty : Int) (c d x a y b : V) (op : Int) (v : Value) (l : List (BitVec 32)) (hl : l.length ≤ maxLen) (w : World) (hv : Lists w v l) :
    Calls Try.prog 3 #[iv ty, vv c, vv d, vv x, vv a, vv y, vv b, iv op, v] w fun e w' => e = .returned (.bool true) ∧ Below w.heap.size w w' := by
  have H1 : MuxC 12 ty c d x a y b _ _ := fun w => mux_c ty c d x a y b w
  have H2 : MuxC 13 ty c d x a y b _ _ := fun w => rmux_c ty c d x a y b w
  have H3 : CallC w 14 op v _ _ := fun w' hb => call_c op v l w' (hv.below hb) hl
  have H4 : CallC w 15 op v _ _ := fun w' hb => rcall_c op v l w' (hv.below hb) hl
  obtain ⟨ad, len, cap, rfl, hlen⟩ : ∃ ad len cap, v = .slice ad len cap ∧ len ≤ maxLen := by
    rcases hv with ⟨a, cap, rfl, _⟩ | ⟨b, off, cap, rfl, _⟩
    · exact ⟨_, _, _, rfl, by simp⟩
    · exact ⟨_, _, _, rfl, hl⟩
  by_cases hf : (len : Int) ≤ 1000
  · exact vchoices_near HS ty op c d x a y b _ _ _ _ ad len cap hf w H1 H2 H3 H4
  · exact vchoices_far HS ty op c d x a y b _ _ ad len cap hlen (by omega) w H1 H2
end Go.Proofs.Ytboknfppecgjmaa
