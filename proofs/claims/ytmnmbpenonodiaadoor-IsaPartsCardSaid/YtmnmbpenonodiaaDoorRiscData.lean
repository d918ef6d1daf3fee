/- Instructions as values. -/
import Derived.Test.YtmnmbpenonodiaaDoorWordArith
namespace Go.Proofs.YtmnmbpenonodiaaDoor
set_option linter.unusedVariables false
set_option linter.unusedSimpArgs false
open Go.RowKit

structure Ins where
  form : Int
  u : Bool
  v : Bool
  a : Int
  b : Int
  c : Int
  op : Int
  im : Int
  off : Int
  cond : Int
  n : Int
  deriving DecidableEq
abbrev Ins.val (i : Ins) : Value := .agg #[.int .i64 i.form, .bool i.u, .bool i.v, .int .i64 i.a, .int .i64 i.b, .int .i64 i.c, .int .i64 i.op, .int .i64 i.im, .int .i64 i.off, .int .i64 i.cond, .int .i64 i.n]

end Go.Proofs.YtmnmbpenonodiaaDoor
