/-
  Contracts: clock, span and their references.
-/
import Derived.Test.YtmnmbkcdjpidgaaTab
import Derived.Test.YtmnmbkcdjpidgaaTollBase
set_option linter.unusedVariables false
set_option linter.unusedSimpArgs false
set_option maxRecDepth 100000
namespace Go.Proofs.Ytmnmbkcdjpidgaa
open Go Go.Abs Go.Toll
variable {gl : Globs} {h : AHeap}

end Go.Proofs.Ytmnmbkcdjpidgaa
