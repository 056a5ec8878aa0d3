/- The walks of the functions on bytes, texts and names: impl and spec. -/
import Derived.Test.YtkadogcfjbefnaaPlain
import Derived.Outline
namespace Go.Proofs.Ytkadogcfjbefnaa
open Go.RowKit









end Go.Proofs.Ytkadogcfjbefnaa
