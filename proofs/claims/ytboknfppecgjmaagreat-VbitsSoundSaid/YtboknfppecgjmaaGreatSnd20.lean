/- Part 20 of the proof's texts: SaneHid. -/
import Derived.Test.YtboknfppecgjmaaGreatSnd18
import Derived.Test.YtboknfppecgjmaaGreatSnd19
namespace Go.Proofs.YtboknfppecgjmaaGreat
set_option linter.unusedVariables false
set_option linter.unusedSimpArgs false
open Go.RowKit
theorem saneHid : Hid SaneC := sane_c
end Go.Proofs.YtboknfppecgjmaaGreat
