import Derived.Test.YtficgmeakeiacaaP5Ext
set_option linter.all false
open Go Go.Ve Go.Proofs
namespace Go.Proofs.Ytficgmeakeiacaa
set_option maxRecDepth 100000
theorem lives05_den (h : H) : D n_warrantorlaw05_lives [] h = some (.ret (.bool true), h) := den_any (by kernel_rfl) (acall_den 60 n_warrantorlaw05_lives [] [] (.ret (.bool true), []) (by kernel_rfl)) h
end Go.Proofs.Ytficgmeakeiacaa
