/- The walks of the laws: HandleParses. -/
import Derived.Test.YtipljlejhdggnaaDoorHanW
namespace Go.Proofs.YtipljlejhdggnaaDoor
open Go.RowKit Go.Lib

set_option maxHeartbeats 1000000 in
theorem walkHandleParses (s : ByteArray) (hs : s.size ≤ maxLen) (_hs2 : s.size ≤ 140737488351232) (w : World) (ht : Tab w) :
    Calls Tryd.prog 3 #[.string s] w fun e w' => e = .returned (.bool true) ∧ Below w.heap.size w w' := by
  have c1 := fun W => parse_any s hs W
  have c2 := fun W => refParse_any s hs W
  go_enter Tryd.func3, Tryd.ntmps3
  go_wp2_with fail
  refine (c1 _).mono ?_
  rintro e w1 ⟨rfl, hB1⟩
  go_wp2_with fail
  refine (c2 _).mono ?_
  rintro e w' ⟨rfl, rfl⟩
  go_wp2_with fail
  refine (awake_any _ (ht.on hB1)).mono ?_
  rintro e w2 ⟨rfl, hB2⟩
  go_wp2_with fail
  go_returns
  exact ⟨rfl, hB1.trans (hB2.mono hB1.size)⟩
end Go.Proofs.YtipljlejhdggnaaDoor
