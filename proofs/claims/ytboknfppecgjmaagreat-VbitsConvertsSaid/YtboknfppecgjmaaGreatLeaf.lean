/- The small functions of package vbits, each walked once. -/
import Derived.Test.YtboknfppecgjmaaGreatBase
namespace Go.Proofs.YtboknfppecgjmaaGreat
set_option linter.unusedVariables false
set_option linter.unusedSimpArgs false
open Go.RowKit Go.Shelf

set_option maxHeartbeats 400000 in
theorem left_c (z : BitVec 32) (w : World) : Calls Tryz.prog 134 #[uv z] w fun e w' => e = .returned (uv (Vb.left z)) ∧ w' = w := by
  go_enter Tryz.func134, Tryz.ntmps134
  go_wp2
  go_ret
  exact ⟨rfl, rfl⟩
set_option maxHeartbeats 400000 in
theorem some_c (z : BitVec 32) (w : World) : Calls Tryz.prog 139 #[uv z] w fun e w' => e = .returned (uv (Vb.some z)) ∧ w' = w := by
  by_cases h : z = 0#32
  all_goals
    go_enter Tryz.func139, Tryz.ntmps139
    go_wp2
    all_goals go_ret
    exact ⟨ret_lit (by simp [Vb.some, h, U_ofNat]), rfl⟩
set_option maxHeartbeats 400000 in
theorem added_c (x a y b : BitVec 32) (w : World) : Calls Tryz.prog 98 #[uv x, uv a, uv y, uv b] w fun e w' => e = .returned (uv (Vb.added x a y b)) ∧ w' = w := by
  go_enter Tryz.func98, Tryz.ntmps98
  go_wp2
  go_ret
  exact ⟨rfl, rfl⟩
set_option maxHeartbeats 400000 in
theorem subtracted_c (x a y b : BitVec 32) (w : World) : Calls Tryz.prog 99 #[uv x, uv a, uv y, uv b] w fun e w' => e = .returned (uv (Vb.subtracted x a y b)) ∧ w' = w := by
  go_enter Tryz.func99, Tryz.ntmps99
  go_wp2
  go_ret
  exact ⟨rfl, rfl⟩
set_option maxHeartbeats 400000 in
theorem equal_c (x a y b : BitVec 32) (w : World) : Calls Tryz.prog 108 #[uv x, uv a, uv y, uv b] w fun e w' => e = .returned (uv (Vb.equal x a y b)) ∧ w' = w := by
  by_cases h : (x ^^^ y) &&& ~~~(a ||| b) = 0#32
  · go_enter Tryz.func108, Tryz.ntmps108
    go_wp2_with (go_at_call 139; refine (some_c _ _).mono ?_; rintro e w1 ⟨rfl, rfl⟩)
    go_ret
    exact ⟨ret_lit (by simp [Vb.equal, h, U_ofNat]), rfl⟩
  · go_enter Tryz.func108, Tryz.ntmps108
    go_wp2_with (go_at_call 139; refine (some_c _ _).mono ?_; rintro e w1 ⟨rfl, rfl⟩)
    go_ret
    exact ⟨ret_lit (by simp [Vb.equal, h, U_ofNat]), rfl⟩
set_option maxHeartbeats 400000 in
theorem unLane_c (x a y b : BitVec 32) (w : World) : Calls Tryz.prog 143 #[uv x, uv a, uv y, uv b] w fun e w' => e = .returned (uv (Vb.unLane x a y b)) ∧ w' = w := by
  by_cases h : x &&& ~~~a = 0#32
  · go_enter Tryz.func143, Tryz.ntmps143
    go_wp2_with (go_at_call 139; refine (some_c _ _).mono ?_; rintro e w1 ⟨rfl, rfl⟩)
    go_ret
    exact ⟨ret_lit (by simp [Vb.unLane, h, U_ofNat]), rfl⟩
  · go_enter Tryz.func143, Tryz.ntmps143
    go_wp2_with (go_at_call 139; refine (some_c _ _).mono ?_; rintro e w1 ⟨rfl, rfl⟩)
    go_ret
    exact ⟨ret_lit (by simp [Vb.unLane, h, U_ofNat]), rfl⟩
set_option maxHeartbeats 400000 in
theorem least_c (x a : BitVec 32) (w : World) : Calls Tryz.prog 141 #[uv x, uv a] w fun e w' => e = .returned (uv (Vb.least x a)) ∧ w' = w := by
  go_enter Tryz.func141, Tryz.ntmps141
  go_wp2
  go_ret
  exact ⟨rfl, rfl⟩
set_option maxHeartbeats 400000 in
theorem greatest_c (x a : BitVec 32) (w : World) : Calls Tryz.prog 142 #[uv x, uv a] w fun e w' => e = .returned (uv (Vb.greatest x a)) ∧ w' = w := by
  go_enter Tryz.func142, Tryz.ntmps142
  go_wp2
  go_ret
  exact ⟨rfl, rfl⟩
set_option maxHeartbeats 400000 in
theorem word_c (x : BitVec 32) (w : World) : Calls Tryz.prog 132 #[uv x] w fun e w' => e = .returned (vv (V.word x)) ∧ Below w.heap.size w w' := by
  go_enter Tryz.func132, Tryz.ntmps132
  go_wp2
  refine Flow.bodyPost_k rfl (fun K hK => ?_)
  simp only [results, Tryz.results132]
  go_simp
  refine hK _ ⟨?_, ?_⟩
  · rfl
  · (repeat (first | exact Below.refl _ _ | refine Below.setCell ?_ (by first | omega | (simp <;> omega)) _ | refine Below.alloc ?_ (by first | omega | (simp <;> omega)) _ | refine Below.drew ?_ | refine Below.trans ?_ (Below.mono (by assumption) (by first | omega | (simp <;> omega)))))
set_option maxHeartbeats 400000 in
theorem ones_c (ty : Int) (w : World) : Calls Tryz.prog 81 #[iv ty] w fun e w' => e = .returned (vv (Vb.ones ty)) ∧ Below w.heap.size w w' := by
  go_enter Tryz.func81, Tryz.ntmps81
  go_wp2_with (go_at_call 132; refine (word_c _ _).mono ?_; rintro e w1 ⟨rfl, hb⟩; obtain ⟨hc, hf⟩ := Flow.bcell hb; have hz := hb.size; (try simp only [World.size_alloc, World.size_setCell, World.size_drew] at hz))
  all_goals (refine Flow.bodyPost_k rfl (fun K hK => ?_); simp only [results, Tryz.results81]; go_simp; refine hK _ ⟨?_, ?_⟩)
  all_goals (first | (apply ret4 <;> simp_all [Vb.ones, V.word, V.all, V.zero]; done) | (repeat (first | exact Below.refl _ _ | refine Below.setCell ?_ (by first | omega | (simp <;> omega)) _ | refine Below.alloc ?_ (by first | omega | (simp <;> omega)) _ | refine Below.drew ?_ | refine Below.trans ?_ (Below.mono (by assumption) (by first | omega | (simp <;> omega))))))
end Go.Proofs.YtboknfppecgjmaaGreat
