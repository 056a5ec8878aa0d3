/- Pairs of texts: their conversion, their size, and strings.CutSuffix: walks. -/
import Derived.Test.YtginghjgfippiaaText
namespace Go.Proofs.Ytginghjgfippiaa
open Go.RowKit

def endsWith (l t : Tx) : Bool := decide (t.length ≤ l.length) && (l.drop (l.length - t.length) == t)






end Go.Proofs.Ytginghjgfippiaa
