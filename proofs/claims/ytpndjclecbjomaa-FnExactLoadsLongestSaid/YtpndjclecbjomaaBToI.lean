/-
  A copy of a slice of numbers.
-/
import Derived.Test.YtpndjclecbjomaaBInt
namespace Go.Proofs.Ytpndjclecbjomaa
open Go.RowKit

end Go.Proofs.Ytpndjclecbjomaa
