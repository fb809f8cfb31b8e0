/- Cursor functions: what is left, the first bytes. -/
import Derived.Test.YtbalffclojdmhaaCa
set_option linter.unusedSimpArgs false
namespace Go.Proofs.Ytbalffclojdmhaa.Va
open Go Am Rc Bt Vp Cp

end Go.Proofs.Ytbalffclojdmhaa.Va
