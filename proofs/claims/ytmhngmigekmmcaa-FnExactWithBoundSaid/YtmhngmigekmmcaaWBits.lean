/-
  The walks of the reference's bit functions: both, either, less.
-/
import Derived.Test.YtmhngmigekmmcaaWName
import Derived.Test.YtmhngmigekmmcaaPlainF
namespace Go.Proofs.Ytmhngmigekmmcaa
open Go.RowKit

end Go.Proofs.Ytmhngmigekmmcaa
