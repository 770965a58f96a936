/- One closed fact on the program, by itself (it takes much memory). -/
import Derived.Test.YtldmigmnbmnaiaaProg
import Derived.JoinedOf
namespace Go.Proofs.Ytldmigmnbmnaiaa
open Go Go.Proofs
theorem Try.make : Try.prog.make = some .cut := by kernel_rfl
end Go.Proofs.Ytldmigmnbmnaiaa
