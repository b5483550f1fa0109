/- sane, hidden from the walks that use it. -/
import Derived.Test.YtboknfppecgjmaaSane
import Derived.Test.YtboknfppecgjmaaCommutes
namespace Go.Proofs.Ytboknfppecgjmaa
open Go.RowKit
theorem saneHid : Hid SaneC := sane_c
end Go.Proofs.Ytboknfppecgjmaa
