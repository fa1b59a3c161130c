/- Contracts of the strike note, in the program and in the reference. -/
import Derived.Test.YtkbfmjnekeipcaaGreatDoorPart
namespace Go.Proofs.YtkbfmjnekeipcaaGreatDoor
open Go.Joins Go.ChangeShapes Go.WideShapes Go.ChangeAt Go.RowKit
set_option maxRecDepth 100000

end Go.Proofs.YtkbfmjnekeipcaaGreatDoor
