/- One closed fact on the program, by itself (it takes much memory). -/
import Derived.Test.YtfegehmdgicifaaProg
import Derived.JoinedOf
namespace Go.Proofs.Ytfegehmdgicifaa
open Go Go.Proofs
theorem Try.lifts : Try.prog.liftsFinal = false := by kernel_rfl
end Go.Proofs.Ytfegehmdgicifaa
