/-
  Walks over the statements' helper 'coded'.
-/
import Derived.Test.YtaidgecpglikpaaDoorCode2
import Derived.Test.YtaidgecpglikpaaDoorFrac7
import Derived.Test.YtaidgecpglikpaaDoorFa
namespace Go.Proofs.YtaidgecpglikpaaDoor
open Go.RowKit Lead
end Go.Proofs.YtaidgecpglikpaaDoor
