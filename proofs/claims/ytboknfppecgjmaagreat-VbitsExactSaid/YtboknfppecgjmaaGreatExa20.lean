/- Part 20 of the proof's texts: SaneHid. -/
import Derived.Test.YtboknfppecgjmaaGreatExa18
import Derived.Test.YtboknfppecgjmaaGreatExa19
set_option maxHeartbeats 16000000
namespace Go.Proofs.YtboknfppecgjmaaGreat
set_option linter.unusedVariables false
set_option linter.unusedSimpArgs false
open Go.RowKit
theorem saneHid : Hid SaneC := sane_c
end Go.Proofs.YtboknfppecgjmaaGreat
