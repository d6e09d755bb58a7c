/-
  Contracts: the best path.
-/
import Derived.Test.YtiidghfioofpkaaGreatGrB
import Derived.Test.YtiidghfioofpkaaGreatTollGraph
set_option linter.unusedVariables false
set_option linter.unusedSimpArgs false
set_option maxRecDepth 100000
namespace Go.Proofs.YtiidghfioofpkaaGreat
open Go Go.Abs Go.Toll
variable {gl : Globs} {h : AHeap}

end Go.Proofs.YtiidghfioofpkaaGreat
