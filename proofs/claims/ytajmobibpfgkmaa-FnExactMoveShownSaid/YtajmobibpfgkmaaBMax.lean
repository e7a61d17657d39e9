/-
  The greater of two numbers.
-/
import Derived.Test.YtajmobibpfgkmaaBase
namespace Go.Proofs.Ytajmobibpfgkmaa
open Go.RowKit

end Go.Proofs.Ytajmobibpfgkmaa
