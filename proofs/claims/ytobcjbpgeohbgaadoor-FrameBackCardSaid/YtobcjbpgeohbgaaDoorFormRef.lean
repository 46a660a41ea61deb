
/-
  Rows of numbers, each in so many bytes: the document's Row and Numbers.
-/
import Derived.Test.YtobcjbpgeohbgaaDoorForm
namespace Go.Proofs.YtobcjbpgeohbgaaDoor
open Go.RowKit
set_option linter.unusedVariables false

theorem info_int : (Tryd.prog.info? 3).map (fun i => (i.zero, i.size, i.bytes)) = some (some (.int .i64 0), 1, 8) := by kernel_rfl
end Go.Proofs.YtobcjbpgeohbgaaDoor
