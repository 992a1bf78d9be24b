/- Texts, one behind another. -/
import Derived.Test.YtdeiocppghhfdaaGreatZdas
import Derived.Test.YtdeiocppghhfdaaGreatZdaq
set_option linter.unusedVariables false
set_option linter.unusedSimpArgs false
set_option maxRecDepth 100000
set_option maxHeartbeats 8000000
namespace Go.Proofs.YtdeiocppghhfdaaGreat
open Go.RowKit Go.Lib Go.Shelf
attribute [local go_sem, local simp] resF aJ iP mR mU mV mW mX mY aNc aNd aNe snF aI0 aNh
theorem aQd {w W:World} {q:OpV} {r g o:Nat} {cur:Array Value} {x:SnM} (hE:Ed2 w q r W) (hN:SnAt W g o cur x) (hr:r≠g):SnAt (putSn W g o ⟨⟨false,⟨#[]⟩,[],0⟩,.slice none 0 0⟩) g o (segA cur o (snL ⟨⟨false,⟨#[]⟩,[],0⟩,.slice none 0 0⟩)) ⟨⟨false,⟨#[]⟩,[],0⟩,.slice none 0 0⟩∧(putSn W g o ⟨⟨false,⟨#[]⟩,[],0⟩,.slice none 0 0⟩).heap[r]? = some (.cells (resL {}).toArray 51 (0,0))∧aC (fun k=>k=g) W (putSn W g o ⟨⟨false,⟨#[]⟩,[],0⟩,.slice none 0 0⟩) :=
 ⟨hN.put ⟨rfl,.inl ⟨rfl,rfl⟩⟩,(aFc _ _ _ _ _ hr).trans hE.res,aC.putSn _ _ _ _⟩
theorem aH0 (g o:Nat) (cur:Array Value) (x:SnM) (q:OpV) (w:World) (h:SnAt w g o cur x) (hok:SnOK x.s) (hk:q.kind=13) :
  Calls Tryz.prog 153 #[.pointer (some ⟨g,o,none⟩),.agg #[.int .u8 q.kind,.int .i64 q.slot,.int .i64 q.at_,.int .i64 q.n,.int .u32 q.id,.int .u8 q.grav,.string q.text]] w (rX g o cur w x (snpS x.s q)):=by
 have hsz:=hok.1
 rw[aTa hk]
 clear hk
 have hE:=iJ w q
 have hN0:=h.below hE.bl
 obtain⟨⟨c0,c1,c2,c3⟩,f0,f1,f2,f3⟩:=hN0.cells
 obtain⟨p2,p3,p6,p4,p5⟩:=hE.o2
 have hrB:w.heap.size≤w.heap.size+1:=by omega
 have hgr:w.heap.size+1≠g:=by have:=(Array.getElem?_eq_some_iff.1 h.blk).1;omega
 obtain⟨hN3,hz3,hK3⟩:=aQd hE hN0 hgr
 have hst:=eX hz3 rfl
 have hsn:=hN0.stP ⟨⟨false,⟨#[]⟩,[],0⟩,.slice none 0 0⟩ rfl
 go_enter Tryz.func153,Tryz.ntmps153
 go_wp2
 have hp:=SnAt.post2 (x:=x) ⟨_,rfl,hN3⟩ hE.bl hK3 hz3 hrB (resL {}).toArray
 refine⟨rfl,_,results_cell_row rfl _ _ _ _ _ _ _ rfl (setRow_heap _ _ _ _ _ _ hz3) Tryz.underlying51 rfl (by kernel_rfl),rfl,?_⟩
 exact hp
end Go.Proofs.YtdeiocppghhfdaaGreat
namespace Go.Proofs.YtdeiocppghhfdaaGreat
open Go.RowKit Go.Lib Go.Shelf
attribute [local go_sem, local simp] resF aJ iP mR mU mV mW mX mY
theorem app0 (a b c:Value):(#[a,b,c] ++ #[]:Array Value) = #[a,b,c]:=by simp
theorem app1 (a b c p:Value):(#[a,b,c] ++ #[p]:Array Value) = #[a,b,c,p]:=by simp
theorem do_1 (b c:Nat) (M:MM) (q:OpV) (w:World) (h:MdAt w b M) (hok:MSok M.st 100000) (hi:OpIn q) (hc:c<M.seats.length) (hcl:M.seats.length≤8) (hst0:iG M.st c q=0) (hx:opP q∧q.text.size≤256∧eT q.text.data.toList=true) (hk:q.kind=1) :
  Calls Tryz.prog 50 #[.pointer (some ⟨b,0,none⟩),.int .i64 (c:Int),.agg #[.int .u8 q.kind,.int .i64 q.slot,.int .i64 q.at_,.int .i64 q.n,.int .u32 q.id,.int .u8 q.grav,.string q.text]] w (Post b w (opS M.st c q) M):=by
 obtain⟨g0,g1,g2,g3,g4,g5,g6,g7,g8,g9,g10,g11,g12⟩:=hx.1
 have hR:opS M.st c q=insS M.st q:=by unfold opS;rw[if_pos hk]
 refine jS b c M q w h hi hcl hst0 137 0 (fun _ _ _ _ _ _ _ _ => #[]) (enters_of Tryz.func137 (by kernel_rfl) rfl) (fun _ _ _ _ _ _ _ _=>by rw[hk];rfl) (fun W bm a6 a7 a8 a9 a10 a11 a12 a13 hM hX => ?_)
 rw[app0,hR]
 exact aFg b M c q W hM hok hx.2.1 (by omega) (by omega)
theorem do_2 (b c:Nat) (M:MM) (q:OpV) (w:World) (h:MdAt w b M) (hok:MSok M.st 100000) (hi:OpIn q) (hc:c<M.seats.length) (hcl:M.seats.length≤8) (hst0:iG M.st c q=0) (hx:opP q∧q.text.size≤256∧eT q.text.data.toList=true) (hk:q.kind=2) :
  Calls Tryz.prog 50 #[.pointer (some ⟨b,0,none⟩),.int .i64 (c:Int),.agg #[.int .u8 q.kind,.int .i64 q.slot,.int .i64 q.at_,.int .i64 q.n,.int .u32 q.id,.int .u8 q.grav,.string q.text]] w (Post b w (opS M.st c q) M):=by
 obtain⟨g0,g1,g2,g3,g4,g5,g6,g7,g8,g9,g10,g11,g12⟩:=hx.1
 have hR:opS M.st c q=delS M.st q:=by unfold opS;rw[if_neg (by omega),if_pos hk]
 refine jS b c M q w h hi hcl hst0 138 1 (fun _ _ _ _ _ _ _ _ => #[]) (enters_of Tryz.func138 (by kernel_rfl) rfl) (fun _ _ _ _ _ _ _ _=>by rw[hk];rfl) (fun W bm a6 a7 a8 a9 a10 a11 a12 a13 hM hX => ?_)
 rw[app0,hR]
 exact aFn b M c q W hM hok (by omega) (by omega)
theorem do_3 (b c:Nat) (M:MM) (q:OpV) (w:World) (h:MdAt w b M) (hok:MSok M.st 100000) (hi:OpIn q) (hc:c<M.seats.length) (hcl:M.seats.length≤8) (hst0:iG M.st c q=0) (hx:opP q∧q.text.size≤256∧eT q.text.data.toList=true) (hk:q.kind=3) :
  Calls Tryz.prog 50 #[.pointer (some ⟨b,0,none⟩),.int .i64 (c:Int),.agg #[.int .u8 q.kind,.int .i64 q.slot,.int .i64 q.at_,.int .i64 q.n,.int .u32 q.id,.int .u8 q.grav,.string q.text]] w (Post b w (opS M.st c q) M):=by
 obtain⟨g0,g1,g2,g3,g4,g5,g6,g7,g8,g9,g10,g11,g12⟩:=hx.1
 have hR:opS M.st c q=setS M.st q:=by unfold opS;rw[if_neg (by omega),if_neg (by omega),if_pos hk]
 refine jS b c M q w h hi hcl hst0 139 2 (fun _ _ _ _ _ _ _ _ => #[]) (enters_of Tryz.func139 (by kernel_rfl) rfl) (fun _ _ _ _ _ _ _ _=>by rw[hk];rfl) (fun W bm a6 a7 a8 a9 a10 a11 a12 a13 hM hX => ?_)
 rw[app0,hR]
 exact aDk b M c q W hM hok (by omega) (by have:=hi.id0;omega) hi.id1 (by have:=hi.g0;omega)
theorem do_4 (b c:Nat) (M:MM) (q:OpV) (w:World) (h:MdAt w b M) (hok:MSok M.st 100000) (hi:OpIn q) (hc:c<M.seats.length) (hcl:M.seats.length≤8) (hst0:iG M.st c q=0) (hx:opP q∧q.text.size≤256∧eT q.text.data.toList=true) (hk:q.kind=4) :
  Calls Tryz.prog 50 #[.pointer (some ⟨b,0,none⟩),.int .i64 (c:Int),.agg #[.int .u8 q.kind,.int .i64 q.slot,.int .i64 q.at_,.int .i64 q.n,.int .u32 q.id,.int .u8 q.grav,.string q.text]] w (Post b w (opS M.st c q) M):=by
 obtain⟨g0,g1,g2,g3,g4,g5,g6,g7,g8,g9,g10,g11,g12⟩:=hx.1
 have hR:opS M.st c q=drpS M.st q:=by unfold opS;rw[if_neg (by omega),if_neg (by omega),if_neg (by omega),if_pos hk]
 refine jS b c M q w h hi hcl hst0 140 3 (fun _ _ _ _ _ _ _ _ => #[]) (enters_of Tryz.func140 (by kernel_rfl) rfl) (fun _ _ _ _ _ _ _ _=>by rw[hk];rfl) (fun W bm a6 a7 a8 a9 a10 a11 a12 a13 hM hX => ?_)
 rw[app0,hR]
 exact aBk b M c q W hM hok
theorem do_5 (b c:Nat) (M:MM) (q:OpV) (w:World) (h:MdAt w b M) (hok:MSok M.st 100000) (hi:OpIn q) (hc:c<M.seats.length) (hcl:M.seats.length≤8) (hst0:iG M.st c q=0) (hx:opP q∧q.text.size≤256∧eT q.text.data.toList=true) (hk:q.kind=5) :
  Calls Tryz.prog 50 #[.pointer (some ⟨b,0,none⟩),.int .i64 (c:Int),.agg #[.int .u8 q.kind,.int .i64 q.slot,.int .i64 q.at_,.int .i64 q.n,.int .u32 q.id,.int .u8 q.grav,.string q.text]] w (Post b w (opS M.st c q) M):=by
 obtain⟨g0,g1,g2,g3,g4,g5,g6,g7,g8,g9,g10,g11,g12⟩:=hx.1
 have hS:=List.getElem?_eq_getElem hc
 generalize M.seats[c]=S at hS
 have hmem:=List.mem_of_getElem? hS
 have hl:S.sl.length≤8:=by
  have h1:=(hok.slots S.st (List.mem_map.2 ⟨S,hmem,rfl⟩)).1
  have h2:S.st.slots.length=S.sl.length:=List.length_map ..
  have:=hok.readers
  omega
 have hmk:M.marks.length≤64:=hok.marks.1
 have hR:opS M.st c q=acqS M.st c:=by unfold opS;rw[if_neg (by omega),if_neg (by omega),if_neg (by omega),if_neg (by omega),if_pos hk]
 refine jS b c M q w h hi hcl hst0 141 4 (fun _ _ _ _ _ _ _ _ => #[]) (enters_of Tryz.func141 (by kernel_rfl) rfl) (fun _ _ _ _ _ _ _ _=>by rw[hk];rfl) (fun W bm a6 a7 a8 a9 a10 a11 a12 a13 hM hX => ?_)
 rw[app0,hR]
 exact aFl b c M q W hM S hS hl hcl hmk
theorem aTf (b c:Nat) (M:MM) (q:OpV) (w:World) (h:MdAt w b M) (hok:MSok M.st 100000) (hi:OpIn q) (hc:c<M.seats.length) (hcl:M.seats.length≤8) (hst0:iG M.st c q=0) (hx:opP q∧q.text.size≤256∧eT q.text.data.toList=true) (hk:q.kind=14) :
  Calls Tryz.prog 50 #[.pointer (some ⟨b,0,none⟩),.int .i64 (c:Int),.agg #[.int .u8 q.kind,.int .i64 q.slot,.int .i64 q.at_,.int .i64 q.n,.int .u32 q.id,.int .u8 q.grav,.string q.text]] w (Post b w (opS M.st c q) M):=by
 obtain⟨g0,g1,g2,g3,g4,g5,g6,g7,g8,g9,g10,g11,g12⟩:=hx.1
 have hS:=List.getElem?_eq_getElem hc
 generalize M.seats[c]=S at hS
 have hR:opS M.st c q=subS M.st c:=by unfold opS;rw[if_neg (by omega),if_neg (by omega),if_neg (by omega),if_neg (by omega),if_neg (by omega),if_pos hk]
 refine jS b c M q w h hi hcl hst0 142 5 (fun _ _ _ _ _ _ _ _ => #[]) (enters_of Tryz.func142 (by kernel_rfl) rfl) (fun _ _ _ _ _ _ _ _=>by rw[hk];rfl) (fun W bm a6 a7 a8 a9 a10 a11 a12 a13 hM hX => ?_)
 rw[app0,hR]
 exact aBj b c M q W hM S hS hcl
theorem aTg (b c:Nat) (M:MM) (q:OpV) (w:World) (h:MdAt w b M) (hok:MSok M.st 100000) (hi:OpIn q) (hc:c<M.seats.length) (hcl:M.seats.length≤8) (hst0:iG M.st c q=0) (hx:opP q∧q.text.size≤256∧eT q.text.data.toList=true) (hk:q.kind=15) :
  Calls Tryz.prog 50 #[.pointer (some ⟨b,0,none⟩),.int .i64 (c:Int),.agg #[.int .u8 q.kind,.int .i64 q.slot,.int .i64 q.at_,.int .i64 q.n,.int .u32 q.id,.int .u8 q.grav,.string q.text]] w (Post b w (opS M.st c q) M):=by
 obtain⟨g0,g1,g2,g3,g4,g5,g6,g7,g8,g9,g10,g11,g12⟩:=hx.1
 have hS:=List.getElem?_eq_getElem hc
 generalize M.seats[c]=S at hS
 have hR:opS M.st c q=recS M.st c:=by unfold opS;rw[if_neg (by omega),if_neg (by omega),if_neg (by omega),if_neg (by omega),if_neg (by omega),if_neg (by omega),if_pos hk]
 refine jS b c M q w h hi hcl hst0 143 6 (fun _ _ _ _ _ _ _ _ => #[]) (enters_of Tryz.func143 (by kernel_rfl) rfl) (fun _ _ _ _ _ _ _ _=>by rw[hk];rfl) (fun W bm a6 a7 a8 a9 a10 a11 a12 a13 hM hX => ?_)
 rw[app0,hR]
 exact aFh b c M q W hM S hS hcl
theorem aTh (b c:Nat) (M:MM) (q:OpV) (w:World) (h:MdAt w b M) (hok:MSok M.st 100000) (hi:OpIn q) (hc:c<M.seats.length) (hcl:M.seats.length≤8) (hst0:iG M.st c q=0) (hx:opP q∧q.text.size≤256∧eT q.text.data.toList=true) (hk:q.kind=16) :
  Calls Tryz.prog 50 #[.pointer (some ⟨b,0,none⟩),.int .i64 (c:Int),.agg #[.int .u8 q.kind,.int .i64 q.slot,.int .i64 q.at_,.int .i64 q.n,.int .u32 q.id,.int .u8 q.grav,.string q.text]] w (Post b w (opS M.st c q) M):=by
 obtain⟨g0,g1,g2,g3,g4,g5,g6,g7,g8,g9,g10,g11,g12⟩:=hx.1
 have hR:opS M.st c q=cloS M.st:=by unfold opS;rw[if_neg (by omega),if_neg (by omega),if_neg (by omega),if_neg (by omega),if_neg (by omega),if_neg (by omega),if_neg (by omega),if_pos hk]
 refine jS b c M q w h hi hcl hst0 144 7 (fun _ _ _ _ _ _ _ _ => #[]) (enters_of Tryz.func144 (by kernel_rfl) rfl) (fun _ _ _ _ _ _ _ _=>by rw[hk];rfl) (fun W bm a6 a7 a8 a9 a10 a11 a12 a13 hM hX => ?_)
 rw[app0,hR]
 exact aKr b M c q W hM
theorem do_6 (b c:Nat) (M:MM) (q:OpV) (w:World) (h:MdAt w b M) (hok:MSok M.st 100000) (hi:OpIn q) (hc:c<M.seats.length) (hcl:M.seats.length≤8) (hst0:iG M.st c q=0) (hx:opP q∧q.text.size≤256∧eT q.text.data.toList=true) (hk:q.kind=6) :
  Calls Tryz.prog 50 #[.pointer (some ⟨b,0,none⟩),.int .i64 (c:Int),.agg #[.int .u8 q.kind,.int .i64 q.slot,.int .i64 q.at_,.int .i64 q.n,.int .u32 q.id,.int .u8 q.grav,.string q.text]] w (Post b w (opS M.st c q) M):=by
 obtain⟨g0,g1,g2,g3,g4,g5,g6,g7,g8,g9,g10,g11,g12⟩:=hx.1
 have hR:opS M.st c q=reaS M.st c q:=by unfold opS;rw[if_neg (by omega),if_neg (by omega),if_neg (by omega),if_neg (by omega),if_neg (by omega),if_neg (by omega),if_neg (by omega),if_neg (by omega)]
 refine jS b c M q w h hi hcl hst0 197 8 (fun g6 g7 g8 g9 g10 g11 g12 g13 => #[.pointer (some ⟨g6,0,none⟩)]) (enters_of Tryz.func197 (by kernel_rfl) rfl) (fun _ _ _ _ _ _ _ _=>by rw[hk];rfl) (fun W bm a6 a7 a8 a9 a10 a11 a12 a13 hM hX => ?_)
 rw[app1,hR]
 exact jN 146 q (enters_of Tryz.func146 (by kernel_rfl) rfl) (fun g o cur x w h hok=>aSa g o cur x q w h hok hk) b c a6 M W hM hok hc (hX (a6,146) (by simp[boxes])).2.2
theorem do_7 (b c:Nat) (M:MM) (q:OpV) (w:World) (h:MdAt w b M) (hok:MSok M.st 100000) (hi:OpIn q) (hc:c<M.seats.length) (hcl:M.seats.length≤8) (hst0:iG M.st c q=0) (hx:opP q∧q.text.size≤256∧eT q.text.data.toList=true) (hk:q.kind=7) :
  Calls Tryz.prog 50 #[.pointer (some ⟨b,0,none⟩),.int .i64 (c:Int),.agg #[.int .u8 q.kind,.int .i64 q.slot,.int .i64 q.at_,.int .i64 q.n,.int .u32 q.id,.int .u8 q.grav,.string q.text]] w (Post b w (opS M.st c q) M):=by
 obtain⟨g0,g1,g2,g3,g4,g5,g6,g7,g8,g9,g10,g11,g12⟩:=hx.1
 have hR:opS M.st c q=reaS M.st c q:=by unfold opS;rw[if_neg (by omega),if_neg (by omega),if_neg (by omega),if_neg (by omega),if_neg (by omega),if_neg (by omega),if_neg (by omega),if_neg (by omega)]
 refine jS b c M q w h hi hcl hst0 197 9 (fun g6 g7 g8 g9 g10 g11 g12 g13 => #[.pointer (some ⟨g7,0,none⟩)]) (enters_of Tryz.func197 (by kernel_rfl) rfl) (fun _ _ _ _ _ _ _ _=>by rw[hk];rfl) (fun W bm a6 a7 a8 a9 a10 a11 a12 a13 hM hX => ?_)
 rw[app1,hR]
 exact jN 147 q (enters_of Tryz.func147 (by kernel_rfl) rfl) (fun g o cur x w h hok=>aP7 g o cur x q w h hok hk (by omega) (by have:=hi.at_;unfold maxLen;omega) (by omega) (by have:=hi.n;unfold maxLen;omega)) b c a7 M W hM hok hc (hX (a7,147) (by simp[boxes])).2.2
theorem do_8 (b c:Nat) (M:MM) (q:OpV) (w:World) (h:MdAt w b M) (hok:MSok M.st 100000) (hi:OpIn q) (hc:c<M.seats.length) (hcl:M.seats.length≤8) (hst0:iG M.st c q=0) (hx:opP q∧q.text.size≤256∧eT q.text.data.toList=true) (hk:q.kind=8) :
  Calls Tryz.prog 50 #[.pointer (some ⟨b,0,none⟩),.int .i64 (c:Int),.agg #[.int .u8 q.kind,.int .i64 q.slot,.int .i64 q.at_,.int .i64 q.n,.int .u32 q.id,.int .u8 q.grav,.string q.text]] w (Post b w (opS M.st c q) M):=by
 obtain⟨g0,g1,g2,g3,g4,g5,g6,g7,g8,g9,g10,g11,g12⟩:=hx.1
 have hR:opS M.st c q=reaS M.st c q:=by unfold opS;rw[if_neg (by omega),if_neg (by omega),if_neg (by omega),if_neg (by omega),if_neg (by omega),if_neg (by omega),if_neg (by omega),if_neg (by omega)]
 refine jS b c M q w h hi hcl hst0 197 10 (fun g6 g7 g8 g9 g10 g11 g12 g13 => #[.pointer (some ⟨g8,0,none⟩)]) (enters_of Tryz.func197 (by kernel_rfl) rfl) (fun _ _ _ _ _ _ _ _=>by rw[hk];rfl) (fun W bm a6 a7 a8 a9 a10 a11 a12 a13 hM hX => ?_)
 rw[app1,hR]
 exact jN 148 q (enters_of Tryz.func148 (by kernel_rfl) rfl) (fun g o cur x w h hok=>aP8 g o cur x q w h hok hk (by have:=hi.n;unfold maxLen;omega)) b c a8 M W hM hok hc (hX (a8,148) (by simp[boxes])).2.2
theorem do_9 (b c:Nat) (M:MM) (q:OpV) (w:World) (h:MdAt w b M) (hok:MSok M.st 100000) (hi:OpIn q) (hc:c<M.seats.length) (hcl:M.seats.length≤8) (hst0:iG M.st c q=0) (hx:opP q∧q.text.size≤256∧eT q.text.data.toList=true) (hk:q.kind=9) :
  Calls Tryz.prog 50 #[.pointer (some ⟨b,0,none⟩),.int .i64 (c:Int),.agg #[.int .u8 q.kind,.int .i64 q.slot,.int .i64 q.at_,.int .i64 q.n,.int .u32 q.id,.int .u8 q.grav,.string q.text]] w (Post b w (opS M.st c q) M):=by
 obtain⟨g0,g1,g2,g3,g4,g5,g6,g7,g8,g9,g10,g11,g12⟩:=hx.1
 have hR:opS M.st c q=reaS M.st c q:=by unfold opS;rw[if_neg (by omega),if_neg (by omega),if_neg (by omega),if_neg (by omega),if_neg (by omega),if_neg (by omega),if_neg (by omega),if_neg (by omega)]
 refine jS b c M q w h hi hcl hst0 197 11 (fun g6 g7 g8 g9 g10 g11 g12 g13 => #[.pointer (some ⟨g9,0,none⟩)]) (enters_of Tryz.func197 (by kernel_rfl) rfl) (fun _ _ _ _ _ _ _ _=>by rw[hk];rfl) (fun W bm a6 a7 a8 a9 a10 a11 a12 a13 hM hX => ?_)
 rw[app1,hR]
 exact jN 149 q (enters_of Tryz.func149 (by kernel_rfl) rfl) (fun g o cur x w h hok=>aP9 g o cur x q w h hok hk (by have:=hi.n;unfold maxLen;omega)) b c a9 M W hM hok hc (hX (a9,149) (by simp[boxes])).2.2
theorem aTi (b c:Nat) (M:MM) (q:OpV) (w:World) (h:MdAt w b M) (hok:MSok M.st 100000) (hi:OpIn q) (hc:c<M.seats.length) (hcl:M.seats.length≤8) (hst0:iG M.st c q=0) (hx:opP q∧q.text.size≤256∧eT q.text.data.toList=true) (hk:q.kind=10) :
  Calls Tryz.prog 50 #[.pointer (some ⟨b,0,none⟩),.int .i64 (c:Int),.agg #[.int .u8 q.kind,.int .i64 q.slot,.int .i64 q.at_,.int .i64 q.n,.int .u32 q.id,.int .u8 q.grav,.string q.text]] w (Post b w (opS M.st c q) M):=by
 obtain⟨g0,g1,g2,g3,g4,g5,g6,g7,g8,g9,g10,g11,g12⟩:=hx.1
 have hR:opS M.st c q=reaS M.st c q:=by unfold opS;rw[if_neg (by omega),if_neg (by omega),if_neg (by omega),if_neg (by omega),if_neg (by omega),if_neg (by omega),if_neg (by omega),if_neg (by omega)]
 refine jS b c M q w h hi hcl hst0 197 12 (fun g6 g7 g8 g9 g10 g11 g12 g13 => #[.pointer (some ⟨g10,0,none⟩)]) (enters_of Tryz.func197 (by kernel_rfl) rfl) (fun _ _ _ _ _ _ _ _=>by rw[hk];rfl) (fun W bm a6 a7 a8 a9 a10 a11 a12 a13 hM hX => ?_)
 rw[app1,hR]
 exact jN 150 q (enters_of Tryz.func150 (by kernel_rfl) rfl) (fun g o cur x w h hok=>aQa g o cur x q w h hok hk) b c a10 M W hM hok hc (hX (a10,150) (by simp[boxes])).2.2
theorem aTj (b c:Nat) (M:MM) (q:OpV) (w:World) (h:MdAt w b M) (hok:MSok M.st 100000) (hi:OpIn q) (hc:c<M.seats.length) (hcl:M.seats.length≤8) (hst0:iG M.st c q=0) (hx:opP q∧q.text.size≤256∧eT q.text.data.toList=true) (hk:q.kind=11) :
  Calls Tryz.prog 50 #[.pointer (some ⟨b,0,none⟩),.int .i64 (c:Int),.agg #[.int .u8 q.kind,.int .i64 q.slot,.int .i64 q.at_,.int .i64 q.n,.int .u32 q.id,.int .u8 q.grav,.string q.text]] w (Post b w (opS M.st c q) M):=by
 obtain⟨g0,g1,g2,g3,g4,g5,g6,g7,g8,g9,g10,g11,g12⟩:=hx.1
 have hR:opS M.st c q=reaS M.st c q:=by unfold opS;rw[if_neg (by omega),if_neg (by omega),if_neg (by omega),if_neg (by omega),if_neg (by omega),if_neg (by omega),if_neg (by omega),if_neg (by omega)]
 refine jS b c M q w h hi hcl hst0 197 13 (fun g6 g7 g8 g9 g10 g11 g12 g13 => #[.pointer (some ⟨g11,0,none⟩)]) (enters_of Tryz.func197 (by kernel_rfl) rfl) (fun _ _ _ _ _ _ _ _=>by rw[hk];rfl) (fun W bm a6 a7 a8 a9 a10 a11 a12 a13 hM hX => ?_)
 rw[app1,hR]
 exact jN 151 q (enters_of Tryz.func151 (by kernel_rfl) rfl) (fun g o cur x w h hok=>aQb g o cur x q w h hok hk (by omega) (by have:=hi.at_;unfold maxLen;omega)) b c a11 M W hM hok hc (hX (a11,151) (by simp[boxes])).2.2
theorem aTk (b c:Nat) (M:MM) (q:OpV) (w:World) (h:MdAt w b M) (hok:MSok M.st 100000) (hi:OpIn q) (hc:c<M.seats.length) (hcl:M.seats.length≤8) (hst0:iG M.st c q=0) (hx:opP q∧q.text.size≤256∧eT q.text.data.toList=true) (hk:q.kind=12) :
  Calls Tryz.prog 50 #[.pointer (some ⟨b,0,none⟩),.int .i64 (c:Int),.agg #[.int .u8 q.kind,.int .i64 q.slot,.int .i64 q.at_,.int .i64 q.n,.int .u32 q.id,.int .u8 q.grav,.string q.text]] w (Post b w (opS M.st c q) M):=by
 obtain⟨g0,g1,g2,g3,g4,g5,g6,g7,g8,g9,g10,g11,g12⟩:=hx.1
 have hR:opS M.st c q=reaS M.st c q:=by unfold opS;rw[if_neg (by omega),if_neg (by omega),if_neg (by omega),if_neg (by omega),if_neg (by omega),if_neg (by omega),if_neg (by omega),if_neg (by omega)]
 refine jS b c M q w h hi hcl hst0 197 14 (fun g6 g7 g8 g9 g10 g11 g12 g13 => #[.pointer (some ⟨g12,0,none⟩)]) (enters_of Tryz.func197 (by kernel_rfl) rfl) (fun _ _ _ _ _ _ _ _=>by rw[hk];rfl) (fun W bm a6 a7 a8 a9 a10 a11 a12 a13 hM hX => ?_)
 rw[app1,hR]
 exact jN 152 q (enters_of Tryz.func152 (by kernel_rfl) rfl) (fun g o cur x w h hok=>aQc g o cur x q w h hok hk (by omega) (by have:=hi.n;unfold maxLen;omega)) b c a12 M W hM hok hc (hX (a12,152) (by simp[boxes])).2.2
theorem aTl (b c:Nat) (M:MM) (q:OpV) (w:World) (h:MdAt w b M) (hok:MSok M.st 100000) (hi:OpIn q) (hc:c<M.seats.length) (hcl:M.seats.length≤8) (hst0:iG M.st c q=0) (hx:opP q∧q.text.size≤256∧eT q.text.data.toList=true) (hk:q.kind=13) :
  Calls Tryz.prog 50 #[.pointer (some ⟨b,0,none⟩),.int .i64 (c:Int),.agg #[.int .u8 q.kind,.int .i64 q.slot,.int .i64 q.at_,.int .i64 q.n,.int .u32 q.id,.int .u8 q.grav,.string q.text]] w (Post b w (opS M.st c q) M):=by
 obtain⟨g0,g1,g2,g3,g4,g5,g6,g7,g8,g9,g10,g11,g12⟩:=hx.1
 have hR:opS M.st c q=reaS M.st c q:=by unfold opS;rw[if_neg (by omega),if_neg (by omega),if_neg (by omega),if_neg (by omega),if_neg (by omega),if_neg (by omega),if_neg (by omega),if_neg (by omega)]
 refine jS b c M q w h hi hcl hst0 197 15 (fun g6 g7 g8 g9 g10 g11 g12 g13 => #[.pointer (some ⟨g13,0,none⟩)]) (enters_of Tryz.func197 (by kernel_rfl) rfl) (fun _ _ _ _ _ _ _ _=>by rw[hk];rfl) (fun W bm a6 a7 a8 a9 a10 a11 a12 a13 hM hX => ?_)
 rw[app1,hR]
 exact jN 153 q (enters_of Tryz.func153 (by kernel_rfl) rfl) (fun g o cur x w h hok=>aH0 g o cur x q w h hok hk) b c a13 M W hM hok hc (hX (a13,153) (by simp[boxes])).2.2
theorem pI (b:Nat) (c:Int) (M:MM) (q:OpV) (w:World) (h:MdAt w b M) (hok:MSok M.st 100000) (hi:OpIn q) :
  Calls Tryz.prog 50 #[.pointer (some ⟨b,0,none⟩),.int .i64 c,.agg #[.int .u8 q.kind,.int .i64 q.slot,.int .i64 q.at_,.int .i64 q.n,.int .u32 q.id,.int .u8 q.grav,.string q.text]] w (Post b w (doS M.st c q) M):=by
 have hcl:M.seats.length≤8:=by have:=hok.clients;have h2:M.st.seats.length=M.seats.length:=List.length_map ..;omega
 by_cases hs:iG M.st c q=0
 ·obtain⟨h0,h1,h2⟩:=tJ hs
  have hx:=uV h2
  have hlen:M.st.seats.length=M.seats.length:=List.length_map ..
  obtain⟨n,rfl⟩:∃ n:Nat,c=n:=⟨c.toNat,by omega⟩
  have hc:n<M.seats.length:=by omega
  have hR:doS M.st n q=opS M.st n q:=by unfold doS;rw[if_neg (by simpa using hs),Int.toNat_natCast]
  rw[hR]
  have hk:q.kind=1∨q.kind=2∨q.kind=3∨q.kind=4∨q.kind=5∨q.kind=6∨q.kind=7∨q.kind=8∨q.kind=9∨q.kind=10∨q.kind=11∨q.kind=12∨q.kind=13∨q.kind=14∨q.kind=15∨q.kind=16:=by
   have a1:=hx.1.1
   have a2:=hx.1.2.1
   omega
  rcases hk with hk | hk | hk | hk | hk | hk | hk | hk | hk | hk | hk | hk | hk | hk | hk | hk
  ·exact do_1 b n M q w h hok hi hc hcl hs hx hk
  ·exact do_2 b n M q w h hok hi hc hcl hs hx hk
  ·exact do_3 b n M q w h hok hi hc hcl hs hx hk
  ·exact do_4 b n M q w h hok hi hc hcl hs hx hk
  ·exact do_5 b n M q w h hok hi hc hcl hs hx hk
  ·exact do_6 b n M q w h hok hi hc hcl hs hx hk
  ·exact do_7 b n M q w h hok hi hc hcl hs hx hk
  ·exact do_8 b n M q w h hok hi hc hcl hs hx hk
  ·exact do_9 b n M q w h hok hi hc hcl hs hx hk
  ·exact aTi b n M q w h hok hi hc hcl hs hx hk
  ·exact aTj b n M q w h hok hi hc hcl hs hx hk
  ·exact aTk b n M q w h hok hi hc hcl hs hx hk
  ·exact aTl b n M q w h hok hi hc hcl hs hx hk
  ·exact aTf b n M q w h hok hi hc hcl hs hx hk
  ·exact aTg b n M q w h hok hi hc hcl hs hx hk
  ·exact aTh b n M q w h hok hi hc hcl hs hx hk
 ·have hR:doS M.st c q=(fA (iG M.st c q),M.st):=by unfold doS;rw[if_pos hs]
  have hd:(iG M.st c q == 0)=false:=by simpa using hs
  have hE:=iJ w q
  have hM0:=h.below hE.bl
  have hrB:w.heap.size≤w.heap.size+1:=by omega
  have hsta:=jI b M c q _ hM0 hi hcl
  rw[hR]
  clear hR
  generalize iG M.st c q=E at *
  clear hok
  go_enter Tryz.func50,Tryz.ntmps50
  go_wp2_with (first | (go_at_call 100;refine hsta.mono ?_;rintro e w1 ⟨rfl,hb1⟩;have hE1:=hE.on hb1;have hM1:=hM0.below hb1;clear hsta) | (go_at_call 99;refine (eU _ _).mono ?_;rintro e v7 ⟨rfl,hb7⟩;have hE7:=hE1.on hb7;have hst:=eX hE7.res rfl))
  exact⟨rfl,_,results_cell_row rfl _ _ _ _ _ _ _ rfl (setRow_heap _ _ _ _ _ _ hE7.res) Tryz.underlying51 rfl (by kernel_rfl),rfl,M,(hM1.below hb7).row hE7.res _,rfl,(aC.of_below hE7.bl).row hrB _,fun k hk => .inl hk⟩
end Go.Proofs.YtdeiocppghhfdaaGreat
