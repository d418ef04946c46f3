/- What the functions of package wire, and of its reference, compute: Put, Get. -/
import Derived.Test.YtpbdncnepcibaaaProg
import Derived.Test.YtpbdncnepcibaaaSlice
import Derived.Test.YtpbdncnepcibaaaWireD
import Derived.Outline
import Derived.Lib.Hide
namespace Go.Proofs.Ytpbdncnepcibaaa
open Go Go.RowKit

theorem sl_bytes : SlT Try.prog 22 5 1 1 (.int .u8 0) := SlT.mk' Try.underlying22 (by kernel_rfl) rfl (by omega)





end Go.Proofs.Ytpbdncnepcibaaa
