/- Cursor functions that only reckon. -/
import Derived.Test.YtbalffclojdmhaaVc
import Derived.Test.YtbalffclojdmhaaCp
import Derived.Test.YtbalffclojdmhaaRc
set_option linter.unusedSimpArgs false
namespace Go.Proofs.Ytbalffclojdmhaa.Va
open Go Am Rc Bt Vp Cp

end Go.Proofs.Ytbalffclojdmhaa.Va
