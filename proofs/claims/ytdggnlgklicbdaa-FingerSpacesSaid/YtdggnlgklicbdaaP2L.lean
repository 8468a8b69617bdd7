import Derived.Test.YtdggnlgklicbdaaP2Pol
set_option linter.all false
open Go Go.Ve Go.Proofs
namespace Go.Proofs.Ytdggnlgklicbdaa
set_option maxRecDepth 100000
theorem lives20_den (h : H) : D n_warrantorlaw20_lives [] h = some (.ret (.bool true), h) := den_any (by kernel_rfl) (acall_den 60 n_warrantorlaw20_lives [] [] (.ret (.bool true), []) (by kernel_rfl)) h
end Go.Proofs.Ytdggnlgklicbdaa
