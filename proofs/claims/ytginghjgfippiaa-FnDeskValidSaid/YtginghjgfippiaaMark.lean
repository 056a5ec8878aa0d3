/- The marks that the exact laws write: walks. -/
import Derived.Test.YtginghjgfippiaaBase
import Derived.Outline
namespace Go.Proofs.Ytginghjgfippiaa
open Go.RowKit



end Go.Proofs.Ytginghjgfippiaa
