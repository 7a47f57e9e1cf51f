/-
  LogRecord: what the laws' own helpers do: the size, a copy, equality.
-/
import Derived.Test.YtbjblchhenmgjaaDLogRecord
set_option linter.unusedVariables false
set_option linter.unusedSimpArgs false
namespace Go.Proofs.Ytbjblchhenmgjaa
open Go.ChangeShapes Go.WideShapes Go.ChangeAt Go.RowKit




end Go.Proofs.Ytbjblchhenmgjaa
