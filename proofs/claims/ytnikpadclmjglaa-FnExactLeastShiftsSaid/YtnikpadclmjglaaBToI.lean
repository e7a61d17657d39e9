/-
  A copy of a slice of numbers.
-/
import Derived.Test.YtnikpadclmjglaaBInt
namespace Go.Proofs.Ytnikpadclmjglaa
set_option maxRecDepth 100000
open Go.RowKit

end Go.Proofs.Ytnikpadclmjglaa
