/- What the cards of this seat are closed by. -/
import Derived.Test.YtaipignkkbknfaaDoorBase
import Derived.Test.YtaipignkkbknfaaDoorTie
import Derived.Test.YtaipignkkbknfaaDoorCards
import Derived.ProofKit
import Derived.OpenShut
import Derived.LaidMore
import Derived.Lay
import Derived.SevenTiedAt
import Derived.Stop.Joined
namespace Go.Proofs.YtaipignkkbknfaaDoor
end Go.Proofs.YtaipignkkbknfaaDoor
