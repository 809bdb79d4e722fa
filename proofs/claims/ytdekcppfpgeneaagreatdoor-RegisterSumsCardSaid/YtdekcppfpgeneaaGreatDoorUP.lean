import Derived.Test.YtdekcppfpgeneaaGreatDoorU5
import Derived.Test.YtdekcppfpgeneaaGreatDoorU6
set_option linter.unusedVariables false
namespace Go.Proofs.YtdekcppfpgeneaaGreatDoor
/-- the laws' walks together -/
theorem laws_joined : True := trivial
end Go.Proofs.YtdekcppfpgeneaaGreatDoor
