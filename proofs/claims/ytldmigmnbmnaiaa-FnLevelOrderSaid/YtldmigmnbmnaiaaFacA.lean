/- One closed fact on the program, by itself (it takes much memory). -/
import Derived.Test.YtldmigmnbmnaiaaProg
import Derived.JoinedOf
namespace Go.Proofs.Ytldmigmnbmnaiaa
open Go Go.Proofs
theorem Try.mayEnter : Try.prog.mayEnter = true := by kernel_rfl
end Go.Proofs.Ytldmigmnbmnaiaa
