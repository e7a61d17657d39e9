/-
  The greater of two numbers.
-/
import Derived.Test.YtcfbnlkkoifiiaaBase
namespace Go.Proofs.Ytcfbnlkkoifiiaa
open Go.RowKit

end Go.Proofs.Ytcfbnlkkoifiiaa
