/- sane, hidden from the walks that use it. -/
import Derived.Test.YtboknfppecgjmaaSane
import Derived.Test.YtboknfppecgjmaaCommutes
namespace Go.Proofs.Ytboknfppecgjmaa
set_option linter.unusedVariables false
set_option linter.unusedSimpArgs false
open Go.RowKit
theorem saneHid : Hid SaneC := sane_c
end Go.Proofs.Ytboknfppecgjmaa
