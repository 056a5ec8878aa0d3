/- Marks in slices of cookies; arguments that are slices of cookies: walks. -/
import Derived.Test.YtlafdpndpjcklaaCookieS
namespace Go.Proofs.Ytlafdpndpjcklaa
open Go.RowKit Go.ChangeShapes Go.WideShapes Go.Deep





end Go.Proofs.Ytlafdpndpjcklaa
