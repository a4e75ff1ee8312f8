/- Q6 in one text. -/
import Derived.Test.YtmecnlgndaeidaaGreatDoorP04
import Derived.Deep.RegionLaw
import Derived.Deep.AppendLies

namespace Go.Proofs.YtmecnlgndaeidaaGreatDoor.Bg
open Go Go.RowKit

end Go.Proofs.YtmecnlgndaeidaaGreatDoor.Bg
