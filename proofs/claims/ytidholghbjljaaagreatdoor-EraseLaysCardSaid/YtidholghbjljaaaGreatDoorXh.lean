
/- Walks of the statement EraseSlots: are the slots of both alike? -/
import Derived.Test.YtidholghbjljaaaGreatDoorXg
namespace Culp.Er
set_option linter.unusedSimpArgs false
set_option linter.unusedVariables false
open Go Go.RowKit Culp
end Culp.Er
namespace Go.Proofs.YtidholghbjljaaaGreatDoor
set_option linter.unusedSimpArgs false
set_option linter.unusedVariables false
open Go.RowKit Go.Maps Culp Culp.Er
end Go.Proofs.YtidholghbjljaaaGreatDoor
