/- Structs some of whose slices are borrowed (written by program). Conditions: none. -/
import Derived.Test.YtijgffjimnbcpaaGreatSzDefs
namespace Go.E
open Go.RowKit Go.Proofs
set_option linter.unusedVariables false

end Go.E


