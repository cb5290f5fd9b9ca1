/- Texts joined, what is not reached left out. -/
import Derived.Test.YtpcpaoeajcjoiaaGreatDoorQKitB
import Derived.ProofKit
import Derived.OpenShut
import Derived.ChangeSlices
/- Arguments that come in, opened: bytes. -/
namespace Go.Proofs.YtpcpaoeajcjoiaaGreatDoor.Kit
open Go.RowKit Go.ChangeShapes Go.WideShapes
set_option linter.unusedVariables false
set_option linter.unusedSimpArgs false

end Go.Proofs.YtpcpaoeajcjoiaaGreatDoor.Kit
