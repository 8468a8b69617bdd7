import Derived.Test.YtdlnkfghgbddhaaGreatPJPol
import Derived.Test.YtdlnkfghgbddhaaGreatVa5
set_option linter.all false
open Go Go.Ve Go.Proofs
namespace Go.Proofs.YtdlnkfghgbddhaaGreat
set_option maxRecDepth 100000
theorem lives27_den (h : H) : D n_warrantorlaw27_lives [] h = some (.ret (.bool true), h) := den_any (by kernel_rfl) (acall_den 40 n_warrantorlaw27_lives [] [] (.ret (.bool true), []) (by kernel_rfl)) h
end Go.Proofs.YtdlnkfghgbddhaaGreat
