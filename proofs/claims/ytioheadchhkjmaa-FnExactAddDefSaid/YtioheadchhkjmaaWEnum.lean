/-
  The walks of ValueOf and NameOf, of the program's and of the reference's.
-/
import Derived.Test.YtioheadchhkjmaaWSDefs
import Derived.Test.YtioheadchhkjmaaPlainE
namespace Go.Proofs.Ytioheadchhkjmaa
open Go.RowKit

theorem vEnum_out (ds : List D) : vDefs ds (-1000) 1000 = vEnum ds := rfl

end Go.Proofs.Ytioheadchhkjmaa
