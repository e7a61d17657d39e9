/-
  Contracts of the functions on showings: the loads of a plan.
-/
import Derived.Test.YtpndjclecbjomaaLdB
import Derived.Test.YtpndjclecbjomaaBByte
import Derived.Test.YtpndjclecbjomaaBToI
import Derived.Deep.QuietTactic
import Derived.BigQuiet
namespace Go.Proofs.Ytpndjclecbjomaa
open Go.RowKit


end Go.Proofs.Ytpndjclecbjomaa
