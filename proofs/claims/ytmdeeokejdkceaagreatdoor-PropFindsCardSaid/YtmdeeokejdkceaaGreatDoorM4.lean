/-
  The reference 13: what is wrong with a message; of a promise just so, of any other something.
-/
import Derived.Test.YtmdeeokejdkceaaGreatDoorM3
set_option linter.unusedSimpArgs false
set_option linter.unusedVariables false
namespace Go.Proofs.YtmdeeokejdkceaaGreatDoor
open Go.Vx Go.ChangeShapes Go.WideShapes Go.ChangeAt Go.RowKit
end Go.Proofs.YtmdeeokejdkceaaGreatDoor
