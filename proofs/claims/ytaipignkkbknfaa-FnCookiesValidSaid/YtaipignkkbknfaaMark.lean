/- The marks that the exact laws write: walks. -/
import Derived.Test.YtaipignkkbknfaaBase
import Derived.Outline
namespace Go.Proofs.Ytaipignkkbknfaa
open Go.RowKit



end Go.Proofs.Ytaipignkkbknfaa
