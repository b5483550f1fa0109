/- A store of a vector (or of any row of cells) into a block that is known as a whole: behind it a fresh world, known by its blocks. -/
import Derived.Test.YtboknfppecgjmaaGreatFlowY
import Derived.Deep.MidRow
import Derived.Laws.Tables
import Derived.Laws.Rows
namespace Go.Proofs.YtboknfppecgjmaaGreat
set_option linter.unusedVariables false
set_option linter.unusedSimpArgs false
open Go.RowKit
/-- A row of cells with others from o on. -/
def setL (cs : Array Value) : Nat → List Value → Array Value
  | _, [] => cs
  | o, v :: r => setL (cs.setIfInBounds o v) (o + 1) r
theorem setCells_heap (b : Nat) : ∀ (vs : List Value) (o : Nat) (w : World) (cs : Array Value) (T : TypeId), w.heap[b]? = some (.cells cs T) → (w.setCells b o vs).heap[b]? = some (.cells (setL cs o vs) T)
  | [], _, _, _, _, h => h
  | v :: r, o, w, cs, T, h => setCells_heap b r (o + 1) _ _ T (Go.heap_setCell_same w b o cs T v h)
theorem setCells_other (b k : Nat) (hk : k ≠ b) : ∀ (vs : List Value) (o : Nat) (w : World), (w.setCells b o vs).heap[k]? = w.heap[k]?
  | [], _, _ => rfl
  | v :: r, o, w => (setCells_other b k hk r (o + 1) _).trans (heap_setCell_other w _ k v hk)
theorem setCells_size (b : Nat) : ∀ (vs : List Value) (o : Nat) (w : World), (w.setCells b o vs).heap.size = w.heap.size
  | [], _, _ => rfl
  | v :: r, o, w => (setCells_size b r (o + 1) _).trans (by simp)
theorem setCells_os (b : Nat) : ∀ (vs : List Value) (o : Nat) (w : World), (w.setCells b o vs).os = w.os ∧ (w.setCells b o vs).tape = w.tape ∧ (w.setCells b o vs).output = w.output
  | [], _, _ => ⟨rfl, rfl, rfl⟩
  | v :: r, o, w => by
    obtain ⟨h1, h2, h3⟩ := setCells_os b r (o + 1) (w.setCell ⟨b, o, none⟩ v)
    exact ⟨h1, h2, h3⟩
/-- What a store into the block b leaves. -/
structure Stored (b : Nat) (w w' : World) : Prop where
  other : ∀ k, k ≠ b → w'.heap[k]? = w.heap[k]?
  size : w'.heap.size = w.heap.size
  below : ∀ n, n ≤ b → Below n w w'
theorem stored_cells (b o : Nat) (vs : List Value) (w : World) : Stored b w (w.setCells b o vs) :=
  ⟨fun k hk => setCells_other b k hk vs o w, setCells_size b vs o w, fun n hn => ⟨(setCells_os b vs o w).1, (setCells_os b vs o w).2.1, (setCells_os b vs o w).2.2, by rw [setCells_size]; exact Nat.le_refl _, fun k hk => setCells_other b k (by omega) vs o w⟩⟩
theorem there_of_block {w : World} {b o n : Nat} {cs : Array Value} {T : TypeId} (h : w.heap[b]? = some (.cells cs T)) (hn : o + n ≤ cs.size) : w.there b o n := fun j hj => by
  constructor
  · simp only [World.cell?, h]
    simp
    omega
  · simp [World.frozen?, h]
theorem wpList_store_vec {P : Program} {ops : Array Oper} {rest : List Oper} {o : Oper} {a : Act} {w : World} {Q : Exit → Act → World → Prop} (hgd : o.guard = none) (ty : TypeId) (x y : Operand) (ho : o.op = .store ty x y)
    (b off : Nat) (cells : Array Value) (hx : a.eval x = .pointer (some ⟨b, off, none⟩)) (hy : a.eval y = .agg cells) (hi : (P.info? ty).map (·.size) = some cells.size) (h1 : cells.all (·.oneCell') = true)
    (cs : Array Value) (T : TypeId) (hb : w.heap[b]? = some (.cells cs T)) (hoff : off + cells.size ≤ cs.size)
    (h : ∀ w', w'.heap[b]? = some (.cells (setL cs off cells.toList) T) → Stored b w w' → wpList P ops Q rest (a.put o.dst undef) w') : wpList P ops Q (o :: rest) a w :=
  wpList_store_mid hgd ty x y ho b off cells hx hy (there_of_block hb hoff) hi h1 (h _ (setCells_heap b _ _ _ _ _ hb) (stored_cells b off _ w))
/-- A variable of one cell. -/
theorem wpList_store_one {P : Program} {ops : Array Oper} {rest : List Oper} {o : Oper} {a : Act} {w : World} {Q : Exit → Act → World → Prop} (b off : Nat) (v : Value) (cs : Array Value) (T : TypeId) (hb : w.heap[b]? = some (.cells cs T)) 
    (h : ∀ w', w'.heap[b]? = some (.cells (cs.setIfInBounds off v) T) → Stored b w w' → wpList P ops Q rest a w') : wpList P ops Q rest a (w.setCell ⟨b, off, none⟩ v) :=
  h _ (Go.heap_setCell_same w b off cs T v hb) (stored_cells b off [v] w)
theorem block_cells {w : World} {b : Nat} {cs : Array Value} {T : TypeId} (h : w.heap[b]? = some (.cells cs T)) : (∀ o, w.cell? ⟨b, o, none⟩ = cs[o]?) ∧ (∀ o, w.frozen? ⟨b, o, none⟩ = false) ∧ b < w.heap.size :=
  ⟨fun o => by simp [World.cell?, h], fun o => by simp [World.frozen?, h], (Array.getElem?_eq_some_iff.1 h).1⟩
/-- Behind a block that is made and stored whole. -/
theorem stored_new {u : World} {z cs : Array Value} {T : TypeId} : ((u.alloc (.cells z T)).setRow u.heap.size cs).heap[u.heap.size]? = some (.cells cs T) ∧ Below u.heap.size u ((u.alloc (.cells z T)).setRow u.heap.size cs) ∧ ((u.alloc (.cells z T)).setRow u.heap.size cs).heap.size = u.heap.size + 1 :=
  ⟨setRow_heap _ _ z cs T (0, 0) (heap_alloc_new u _), ⟨rfl, rfl, rfl, by simp, fun k hk => by rw [setRow_other _ _ _ _ (by omega)]; exact Below.heap_alloc u _ k hk⟩, by simp⟩
theorem wpList_store_new {P : Program} {ops : Array Oper} {rest : List Oper} {o : Oper} {a : Act} {u : World} {Q : Exit → Act → World → Prop} {z cells : Array Value} {T : TypeId} (hgd : o.guard = none) (ty : TypeId) (x y : Operand) (ho : o.op = .store ty x y)
    (hx : a.eval x = .pointer (some ⟨u.heap.size, 0, none⟩)) (hy : a.eval y = .agg cells) (hi : (P.info? ty).map (·.size) = some cells.size) (hold : z.size = cells.size) (h1 : cells.all (·.oneCell') = true)
    (h : ∀ w', w'.heap[u.heap.size]? = some (.cells cells T) → Below u.heap.size u w' → w'.heap.size = u.heap.size + 1 → wpList P ops Q rest (a.put o.dst undef) w') : wpList P ops Q (o :: rest) a (u.alloc (.cells z T)) :=
  wpList_store_row hgd ty x y ho u.heap.size cells hx hy T z (heap_alloc_new u _) hi hold h1 (h _ stored_new.1 stored_new.2.1 stored_new.2.2)
/-- Four cells, stored one by one. -/
theorem store4 {w : World} {b : Nat} {cs : Array Value} {T : TypeId} (h : w.heap[b]? = some (.cells cs T)) (o0 o1 o2 o3 : Nat) (p0 p1 p2 p3 : Value) (h1 : o1 = o0 + 1 := by rfl) (h2 : o2 = o0 + 2 := by rfl) (h3 : o3 = o0 + 3 := by rfl) :
    ∃ w', (((w.setCell ⟨b, o0, none⟩ p0).setCell ⟨b, o1, none⟩ p1).setCell ⟨b, o2, none⟩ p2).setCell ⟨b, o3, none⟩ p3 = w' ∧ w'.heap[b]? = some (.cells (setL cs o0 [p0, p1, p2, p3]) T) ∧ Stored b w w' := by
  subst h1 h2 h3
  exact ⟨_, rfl, setCells_heap b [p0, p1, p2, p3] o0 w cs T h, stored_cells b o0 [p0, p1, p2, p3] w⟩
end Go.Proofs.YtboknfppecgjmaaGreat
