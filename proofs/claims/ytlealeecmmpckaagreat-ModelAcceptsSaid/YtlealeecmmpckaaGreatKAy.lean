/- The texts RbN. -/
import Derived.Test.YtlealeecmmpckaaGreatKxm
import Derived.Test.YtlealeecmmpckaaGreatKxf
import Derived.Test.YtlealeecmmpckaaGreatKun
import Derived.Test.YtlealeecmmpckaaGreatKul
namespace Go.Proofs.YtlealeecmmpckaaGreat
set_option linter.unusedVariables false
set_option linter.unusedSimpArgs false
set_option maxRecDepth 100000
set_option maxHeartbeats 8000000
open Go.RowKit Go.Lib Go.Shelf
attribute [local go_sem, local simp] resF resL_len resL_ne
theorem Pair.both {w0 W : World} {bm br : Nat} {M : MM} {R : RM} (h : Pair w0 W bm M br R) : Both W bm br M R := ⟨h.m.at_, h.r.at_⟩
end Go.Proofs.YtlealeecmmpckaaGreat
