/- sane, hidden from the walks that use it. -/
import Derived.Test.YtboknfppecgjmaaGreatSane
import Derived.Test.YtboknfppecgjmaaGreatCommutes
namespace Go.Proofs.YtboknfppecgjmaaGreat
set_option linter.unusedVariables false
set_option linter.unusedSimpArgs false
open Go.RowKit
theorem saneHid : Hid SaneC := sane_c
end Go.Proofs.YtboknfppecgjmaaGreat
