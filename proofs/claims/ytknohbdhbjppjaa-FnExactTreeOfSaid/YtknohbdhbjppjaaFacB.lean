/- One closed fact on the program, by itself (it takes much memory). -/
import Derived.Test.YtknohbdhbjppjaaProg
import Derived.JoinedOf
namespace Go.Proofs.Ytknohbdhbjppjaa
open Go Go.Proofs
theorem Try.lifts : Try.prog.liftsFinal = false := by kernel_rfl
end Go.Proofs.Ytknohbdhbjppjaa
