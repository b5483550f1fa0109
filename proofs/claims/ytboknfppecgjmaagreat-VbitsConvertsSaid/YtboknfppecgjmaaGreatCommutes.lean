/- VbitsCommutes: the walk. -/
import Derived.Test.YtboknfppecgjmaaGreatLaw
import Derived.Test.YtboknfppecgjmaaGreatPlainB
namespace Go.Proofs.YtboknfppecgjmaaGreat
set_option linter.unusedVariables false
set_option linter.unusedSimpArgs false
open Go.RowKit Go.Shelf
/-- What sane gives. -/
abbrev SaneC : Prop := ∀ w, Calls Tryz.prog 7 #[] w fun e w' => e = .returned (.bool true) ∧ Below w.heap.size w w'
abbrev BinC (op ty off : Int) (x a y b s : V) (n : Int) : Prop := ∀ w, Calls Tryz.prog 21 #[iv op, iv ty, iv off, vv x, vv a, vv y, vv b] w fun e w' => e = .returned (.tuple #[vv s, iv n]) ∧ Below w.heap.size w w'
theorem bin_gives {op ty off : Int} {x a y b s : V} {n : Int} (h : Vb.bin op ty off x a y b = (s, n)) : BinC op ty off x a y b s n := by
  intro w
  have h2 := bin_c op ty off x a y b w
  rw [h] at h2
  exact h2
end Go.Proofs.YtboknfppecgjmaaGreat
