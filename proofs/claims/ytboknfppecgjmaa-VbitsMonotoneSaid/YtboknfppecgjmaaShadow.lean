/- Ask.shadow, walked: for each kind of operation. -/
import Derived.Test.YtboknfppecgjmaaAsk
import Derived.Test.YtboknfppecgjmaaMux
import Derived.Test.YtboknfppecgjmaaCall
namespace Go.Proofs.Ytboknfppecgjmaa
set_option linter.unusedVariables false
set_option linter.unusedSimpArgs false
open Go.RowKit Go.Shelf
theorem ret_sh {p : V × Int} {s : V} {n : Int} (h : p = (s, n)) : Ending.returned (.tuple #[vv s, .bool (n == 0)]) = .returned (.tuple #[vv p.1, .bool (p.2 == 0)]) := by rw [h]
set_option maxRecDepth 100000 in
set_option maxHeartbeats 4000000 in
theorem shadow0_c (q : Ask) (hk : (q.kind == 0) = true) (w : World) : Calls Try.prog 21 #[akv q] w fun e w' => e = .returned (.tuple #[vv (Vb.un q.op q.from_ q.to q.off q.x q.a).1, .bool ((Vb.un q.op q.from_ q.to q.off q.x q.a).2 == 0)]) ∧ Below w.heap.size w w' := by
  go_enter Try.func21, Try.ntmps21
  go_wp2_with (go_at_call 30; refine (un_c _ _ _ _ _ _ _).mono ?_; rintro e w1 ⟨rfl, hb⟩; obtain ⟨hc, hf⟩ := Flow.bcell hb; have hz := hb.size; (try simp only [World.size_alloc, World.size_setCell, World.size_drew] at hz); obtain ⟨z0, z1⟩ := Flow.zs2 (show w.heap.size + 2 ≤ w1.heap.size by omega))
  refine Flow.bodyPost_k rfl (fun K hK => ?_)
  simp only [results, Try.results21]
  go_simp
  refine hK _ ⟨?_, ?_⟩
  · rfl
  · (repeat (first | exact Below.refl _ _ | refine Below.setCell ?_ (by first | omega | (simp <;> omega)) _ | refine Below.alloc ?_ (by first | omega | (simp <;> omega)) _ | refine Below.drew ?_ | refine Below.trans ?_ (Below.mono (by assumption) (by first | omega | (simp <;> omega)))))
set_option maxRecDepth 100000 in
set_option maxHeartbeats 4000000 in
theorem shadow1_c (q : Ask) (hk0 : (q.kind == 0) = false) (hk : (q.kind == 1) = true) (w : World) : Calls Try.prog 21 #[akv q] w fun e w' => e = .returned (.tuple #[vv (Vb.bin q.op q.from_ q.off q.x q.a q.y q.b).1, .bool ((Vb.bin q.op q.from_ q.off q.x q.a q.y q.b).2 == 0)]) ∧ Below w.heap.size w w' := by
  go_enter Try.func21, Try.ntmps21
  go_wp2_with (go_at_call 25; refine (bin_c _ _ _ _ _ _ _ _).mono ?_; rintro e w1 ⟨rfl, hb⟩; obtain ⟨hc, hf⟩ := Flow.bcell hb; have hz := hb.size; (try simp only [World.size_alloc, World.size_setCell, World.size_drew] at hz); obtain ⟨z0, z1⟩ := Flow.zs2 (show w.heap.size + 2 ≤ w1.heap.size by omega))
  refine Flow.bodyPost_k rfl (fun K hK => ?_)
  simp only [results, Try.results21]
  go_simp
  refine hK _ ⟨?_, ?_⟩
  · rfl
  · (repeat (first | exact Below.refl _ _ | refine Below.setCell ?_ (by first | omega | (simp <;> omega)) _ | refine Below.alloc ?_ (by first | omega | (simp <;> omega)) _ | refine Below.drew ?_ | refine Below.trans ?_ (Below.mono (by assumption) (by first | omega | (simp <;> omega)))))
set_option maxRecDepth 100000 in
set_option maxHeartbeats 4000000 in
theorem shadow2_c (q : Ask) (hk0 : (q.kind == 0) = false) (hk1 : (q.kind == 1) = false) (hk : (q.kind == 2) = true) (w : World) : Calls Try.prog 21 #[akv q] w fun e w' => e = .returned (.tuple #[vv (Vb.mux q.from_ q.c q.d q.x q.a q.y q.b).1, .bool ((Vb.mux q.from_ q.c q.d q.x q.a q.y q.b).2 == 0)]) ∧ Below w.heap.size w w' := by
  go_enter Try.func21, Try.ntmps21
  go_wp2_with (go_at_call 12; refine (mux_c _ _ _ _ _ _ _ _).mono ?_; rintro e w1 ⟨rfl, hb⟩; obtain ⟨hc, hf⟩ := Flow.bcell hb; have hz := hb.size; (try simp only [World.size_alloc, World.size_setCell, World.size_drew] at hz); obtain ⟨z0, z1⟩ := Flow.zs2 (show w.heap.size + 2 ≤ w1.heap.size by omega))
  refine Flow.bodyPost_k rfl (fun K hK => ?_)
  simp only [results, Try.results21]
  go_simp
  refine hK _ ⟨?_, ?_⟩
  · rfl
  · (repeat (first | exact Below.refl _ _ | refine Below.setCell ?_ (by first | omega | (simp <;> omega)) _ | refine Below.alloc ?_ (by first | omega | (simp <;> omega)) _ | refine Below.drew ?_ | refine Below.trans ?_ (Below.mono (by assumption) (by first | omega | (simp <;> omega)))))
set_option maxRecDepth 100000 in
set_option maxHeartbeats 4000000 in
theorem shadow3_c (q : Ask) (l : List (BitVec 32)) (hk0 : (q.kind == 0) = false) (hk1 : (q.kind == 1) = false) (hk : (q.kind == 2) = false) (w : World) (hl : l.length ≤ maxLen) (hs : Lists w q.s l) :
    Calls Try.prog 21 #[akv q] w fun e w' => e = .returned (.tuple #[vv (V.word (Vb.call q.op l).1), .bool ((Vb.call q.op l).2 == 0)]) ∧ Below w.heap.size w w' := by
  have hc : ∀ w', Below w.heap.size w w' → Calls Try.prog 14 #[iv q.op, q.s] w' fun e w'' => e = .returned (.tuple #[uv (Vb.call q.op l).1, iv (Vb.call q.op l).2]) ∧ w'' = w' := fun w' hb => call_c q.op q.s l w' (hs.below hb) hl
  have HC := Lib.hid hc
  clear hc hs hl
  go_enter Try.func21, Try.ntmps21
  go_wp2_with (first | (go_at_call 14; refine (HC.out _ (by (repeat (first | exact Below.refl _ _ | refine Below.setCell ?_ (by first | omega | (simp <;> omega)) _ | refine Below.alloc ?_ (by first | omega | (simp <;> omega)) _ | refine Below.drew ?_ | refine Below.trans ?_ (Below.mono (by assumption) (by first | omega | (simp <;> omega)))))) ).mono ?_; rintro e w1 ⟨rfl, rfl⟩) | (go_at_call 31; refine (v_c _ _).mono ?_; rintro e w1 ⟨rfl, hb⟩; obtain ⟨hc, hf⟩ := Flow.bcell hb; have hz := hb.size; (try simp only [World.size_alloc, World.size_setCell, World.size_drew] at hz); obtain ⟨z0, z1⟩ := Flow.zs2 (show w.heap.size + 2 ≤ w1.heap.size by omega)))
  refine Flow.bodyPost_k rfl (fun K hK => ?_)
  simp only [results, Try.results21]
  go_simp
  refine hK _ ⟨?_, ?_⟩
  · rfl
  · (repeat (first | exact Below.refl _ _ | refine Below.setCell ?_ (by first | omega | (simp <;> omega)) _ | refine Below.alloc ?_ (by first | omega | (simp <;> omega)) _ | refine Below.drew ?_ | refine Below.trans ?_ (Below.mono (by assumption) (by first | omega | (simp <;> omega)))))
end Go.Proofs.Ytboknfppecgjmaa
