/-
  A copy of a slice of numbers.
-/
import Derived.Test.YthplfodfilefjaaBInt
namespace Go.Proofs.Ythplfodfilefjaa
open Go.RowKit

end Go.Proofs.Ythplfodfilefjaa
