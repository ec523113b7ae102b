/- The laws of lines: places; one form. -/
import Derived.Test.YtmahhmdeocnlgaaGreatDoorHa
namespace Go.Proofs.YtmahhmdeocnlgaaGreatDoor.AM
set_option linter.all false
set_option autoImplicit true
set_option relaxedAutoImplicit true
open Go Go.Proofs
set_option maxRecDepth 100000
set_option maxHeartbeats 8000000
set_option linter.unusedSimpArgs false
variable {P:Program}
end Go.Proofs.YtmahhmdeocnlgaaGreatDoor.AM
