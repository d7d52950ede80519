/- Models of functions and proofs that the code runs as they say (written by program). Conditions: the model gives a value. -/
import Derived.Test.YtfndicpnccabkaaGreatFI
import Derived.Test.YtfndicpnccabkaaGreatFH
import Derived.Test.YtfndicpnccabkaaGreatMapS
import Derived.Test.YtfndicpnccabkaaGreatQB
import Derived.Test.YtfndicpnccabkaaGreatFVb
import Derived.Test.YtfndicpnccabkaaGreatMixed
set_option linter.unusedVariables false
set_option linter.unusedSimpArgs false
namespace Go.E
open Go.RowKit Go.Proofs
set_option maxHeartbeats 2000000
set_option maxRecDepth 100000


end Go.E



