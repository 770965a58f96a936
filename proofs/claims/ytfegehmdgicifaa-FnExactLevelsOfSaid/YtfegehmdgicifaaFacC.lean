/- One closed fact on the program, by itself (it takes much memory). -/
import Derived.Test.YtfegehmdgicifaaProg
import Derived.JoinedOf
namespace Go.Proofs.Ytfegehmdgicifaa
open Go Go.Proofs
theorem Try.make : Try.prog.make = some .cut := by kernel_rfl
end Go.Proofs.Ytfegehmdgicifaa
