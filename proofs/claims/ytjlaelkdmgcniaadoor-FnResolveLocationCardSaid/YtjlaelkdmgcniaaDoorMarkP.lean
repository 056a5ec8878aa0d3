/- Marks in slices of pairs: walks. -/
import Derived.Test.YtjlaelkdmgcniaaDoorPairEq
import Derived.Test.YtjlaelkdmgcniaaDoorMark
import Derived.Deep.RegionHeld3
namespace Go.Proofs.YtjlaelkdmgcniaaDoor
open Go.RowKit







end Go.Proofs.YtjlaelkdmgcniaaDoor
