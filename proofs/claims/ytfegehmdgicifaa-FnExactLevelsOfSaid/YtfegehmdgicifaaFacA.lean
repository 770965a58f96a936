/- One closed fact on the program, by itself (it takes much memory). -/
import Derived.Test.YtfegehmdgicifaaProg
import Derived.JoinedOf
namespace Go.Proofs.Ytfegehmdgicifaa
open Go Go.Proofs
theorem Try.mayEnter : Try.prog.mayEnter = true := by kernel_rfl
end Go.Proofs.Ytfegehmdgicifaa
