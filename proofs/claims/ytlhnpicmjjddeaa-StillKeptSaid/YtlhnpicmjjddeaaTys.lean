/- Rows of the program's table of types that the walks ask for. -/
import Derived.Test.YtlhnpicmjjddeaaRows
import Derived.Test.YtlhnpicmjjddeaaMem
namespace Go.Proofs.Ytlhnpicmjjddeaa
theorem tyBytes : RowTy Try.prog 23 5 1 1 (.int .u8 0) := ⟨Try.underlying23, by kernel_rfl, rfl, by decide⟩
end Go.Proofs.Ytlhnpicmjjddeaa
