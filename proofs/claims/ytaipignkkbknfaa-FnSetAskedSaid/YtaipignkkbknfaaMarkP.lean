/- Marks in slices of pairs: walks. -/
import Derived.Test.YtaipignkkbknfaaPairEq
import Derived.Test.YtaipignkkbknfaaMark
import Derived.Deep.RegionHeld3
namespace Go.Proofs.Ytaipignkkbknfaa
open Go.RowKit







end Go.Proofs.Ytaipignkkbknfaa
