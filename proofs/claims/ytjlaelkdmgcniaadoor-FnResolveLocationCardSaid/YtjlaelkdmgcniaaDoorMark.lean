/- The marks that the exact laws write: walks. -/
import Derived.Test.YtjlaelkdmgcniaaDoorBase
import Derived.Outline
namespace Go.Proofs.YtjlaelkdmgcniaaDoor
open Go.RowKit



end Go.Proofs.YtjlaelkdmgcniaaDoor
