/- '==' of two Pairs of the program's own; sums and conversions of bytes. -/
import Derived.Test.YtlbogmpfjkendaaProg
import Derived.Test.YtlbogmpfjkendaaRegion
namespace Go.Proofs.Ytlbogmpfjkendaa
open Go Go.RowKit

theorem cells_u64 : Try.prog.cellsOf 22 = 1 := by kernel_rfl
@[go_sem] theorem eql_pair (a b c f : BitVec 64) (w : World) : (Op.equalIn 10000 24 (.agg #[U a, U b]) (.agg #[U c, U f])).run Try.prog w = .ok ((a, b) == (c, f)) w :=
  equalIn_pair w 9998 24 22 Try.underlying24 Try.underlying22 cells_u64 a b c f
end Go.Proofs.Ytlbogmpfjkendaa
