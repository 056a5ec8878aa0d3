/- Equality of pairs and of slices of pairs; marks: walks. -/
import Derived.Test.YtjlaelkdmgcniaaDoorPairS
import Derived.StillTailTactics
namespace Go.Proofs.YtjlaelkdmgcniaaDoor
open Go.RowKit


end Go.Proofs.YtjlaelkdmgcniaaDoor
