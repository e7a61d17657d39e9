/-
  Contracts of the functions on showings: the loads of a plan.
-/
import Derived.Test.YthplfodfilefjaaLdB
import Derived.Test.YthplfodfilefjaaBByte
import Derived.Test.YthplfodfilefjaaBToI
import Derived.Deep.QuietTactic
import Derived.BigQuiet
namespace Go.Proofs.Ythplfodfilefjaa
open Go.RowKit


end Go.Proofs.Ythplfodfilefjaa
