/- The run that must come out. -/
import Derived.Test.YtigkhjmlomogmaaP32Ext
import Derived.Test.YtigkhjmlomogmaaVa4
set_option linter.all false

open Go Go.Ve Go.Proofs
namespace Go.Proofs.Ytigkhjmlomogmaa
set_option maxRecDepth 100000
theorem lives_den (h : H) : D 7 [] h = some (.ret (.bool true), h) := den_any (by kernel_rfl) (acall_den 40 7 [] [] (.ret (.bool true), []) (by kernel_rfl)) h
end Go.Proofs.Ytigkhjmlomogmaa
