/- The laws of sides: turning, swaps. -/
import Derived.Test.YtapddfjimhohcaaGreatDoorKi
namespace Go.Proofs.YtapddfjimhohcaaGreatDoor.AM
set_option linter.all false
set_option autoImplicit true
set_option relaxedAutoImplicit true
open Go Go.Proofs
set_option maxRecDepth 100000
set_option maxHeartbeats 16000000
set_option linter.unusedSimpArgs false
variable {P:Program}
end Go.Proofs.YtapddfjimhohcaaGreatDoor.AM
