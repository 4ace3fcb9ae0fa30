import Derived.Test.YthijjpbkpmojbaaDoorQuery
namespace Go.Proofs.YthijjpbkpmojbaaDoor
open Go.RowKit Tw
attribute [local go_sem high] eqNode
set_option linter.unusedVariables false
set_option linter.unusedSimpArgs false

/-! ### checks.Constant -/
/-- Is it a field of a record, but for its place? -/
def fieldB (x : Nd) : Bool := (x.f0 == 2 || x.f0 == 3 || x.f0 == 4) && (x.f1 == 0 && (x.f2 == 0 && x.f3 == 0))
def ndval (x : Nd) : Value := .agg #[.int .u8 x.f0, .int .i64 x.f1, .int .i64 x.f2, .int .i64 x.f3, .int .i64 x.f4]
end Go.Proofs.YthijjpbkpmojbaaDoor
