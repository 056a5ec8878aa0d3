/- The marks that the exact laws write: walks. -/
import Derived.Test.YtlafdpndpjcklaaBase
import Derived.Outline
namespace Go.Proofs.Ytlafdpndpjcklaa
open Go.RowKit



end Go.Proofs.Ytlafdpndpjcklaa
