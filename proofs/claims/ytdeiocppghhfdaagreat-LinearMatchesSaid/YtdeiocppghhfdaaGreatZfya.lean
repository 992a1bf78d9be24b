/- Texts, one behind another. -/
import Derived.Test.YtdeiocppghhfdaaGreatZfbe
import Derived.Test.YtdeiocppghhfdaaGreatZfbd
set_option linter.unusedVariables false
set_option linter.unusedSimpArgs false
set_option maxRecDepth 100000
set_option maxHeartbeats 40000000
namespace Go.Proofs.YtdeiocppghhfdaaGreat
open Go.RowKit Go.Lib Go.Shelf
theorem rZ (b:Nat) (M:RM) (c:Int) (o:OpV) (w:World) (h:RdAt w b M):Calls Tryz.prog 180 #[.pointer (some ⟨b,0,none⟩),.int .i64 c,o.v] w fun r w'=>r = .returned (.int .i64 (dL M.st c o))∧Below w.heap.size w w':=by
 have c0:w.cell? ⟨b,0,none⟩=some (.int .i64 M.seats.length):=by simp[World.cell?,h.blk,rdL]
 have c0':=fun x=>Lib.cell?_alloc_some x c0
 have hb1:=fun (o1:Obj)=>(Below.refl w.heap.size w).alloc (Nat.le_refl _) o1
 have hop:=fun W=>aIq o W
 have hlen:M.st.seats.length=M.seats.length:=by simp[RM.st]
 by_cases h0:c<0∨(M.seats.length:Int)≤c
 ·have hs:dL M.st c o=3:=by unfold dL;rw[hlen,if_pos h0]
  have HS:=Lib.hid hs;clear hs
  rcases h0 with h0 | h0
  ·have d1:decide (c<0)=true:=by simpa using h0
   clear h0
   go_enter Tryz.func180,Tryz.ntmps180
   go_wp2
   go_ret
   exact⟨by rw[HS.out];rfl,hb1 _⟩
  ·have d1:decide (c<0)=false:=by simp;omega
   have d2:decide ((M.seats.length:Int)≤c)=true:=by simpa using h0
   clear h0
   go_enter Tryz.func180,Tryz.ntmps180
   go_wp2
   go_ret
   exact⟨by rw[HS.out];rfl,hb1 _⟩
 ·have hs:dL M.st c o=opE o:=by unfold dL;rw[hlen,if_neg h0]
  have HS:=Lib.hid hs;clear hs
  have d1:decide (c<0)=false:=by simp;omega
  have d2:decide ((M.seats.length:Int)≤c)=false:=by simp;omega
  clear h0
  unfold OpV.v at hop ⊢
  go_enter Tryz.func180,Tryz.ntmps180
  go_wp2_with (go_at_call 223;refine (hop _).mono ?_;rintro e w1 ⟨rfl,hB1⟩)
  go_ret
  exact⟨by rw[HS.out];rfl,(hb1 _).trans (hB1.mono (hb1 _).size)⟩
end Go.Proofs.YtdeiocppghhfdaaGreat
