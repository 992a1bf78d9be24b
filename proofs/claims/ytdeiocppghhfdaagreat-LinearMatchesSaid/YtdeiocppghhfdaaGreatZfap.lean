/- Texts, one behind another. -/
import Derived.Test.YtdeiocppghhfdaaGreatZfao
import Derived.WideMake
set_option linter.unusedVariables false
set_option linter.unusedSimpArgs false
set_option maxRecDepth 100000
set_option maxHeartbeats 40000000
namespace Go.Proofs.YtdeiocppghhfdaaGreat
open Go.RowKit Go.Lib Go.Shelf
attribute [local go_sem, local simp] resF bD bS fK fM fO dQ eX eY
structure Ed2 (w:World) (o:OpV) (r:Nat) (W:World):Prop where
 op:W.heap[w.heap.size]? = some (.cells (opL o).toArray 54 (0,0))
 res:W.heap[r]? = some (.cells (resL {}).toArray 51 (0,0))
 bl:Below w.heap.size w W
theorem Ed2.on {w W W':World} {r:Nat} {o:OpV} (h:Ed2 w o r W) (hb:Below W.heap.size W W'):Ed2 w o r W' :=
 ⟨(hb.block _ (gAz h.op).1).trans h.op,(hb.block _ (gAz h.res).1).trans h.res,h.bl.trans (hb.mono h.bl.size)⟩
theorem Ed2.drew {w W:World} {r:Nat} {o:OpV} (h:Ed2 w o r W):Ed2 w o r W.drew:=⟨h.op,h.res,h.bl.drew⟩
theorem Ed2.alc {w W:World} {r:Nat} {o:OpV} (h:Ed2 w o r W) (x:Obj):Ed2 w o r (W.alloc x) :=
 ⟨(heap_alloc_old _ _ (gAz h.op).1).trans h.op,(heap_alloc_old _ _ (gAz h.res).1).trans h.res,h.bl.alloc h.bl.size _⟩
theorem Ed2.set {w W:World} {r:Nat} {o:OpV} (h:Ed2 w o r W) (k i:Nat) (v:Value) (hk:w.heap.size≤k) (h1:k≠w.heap.size) (h2:k≠r):Ed2 w o r (W.setCell ⟨k,i,none⟩ v) :=
 ⟨(aG _ _ _ _ (Ne.symm h1)).trans h.op,(aG _ _ _ _ (Ne.symm h2)).trans h.res,⟨h.bl.os,h.bl.tape,h.bl.output,by rw[eQ];exact h.bl.size,fun j hj=>(aG _ _ _ _ (by show j≠k;omega)).trans (h.bl.block j hj)⟩⟩
theorem Ed2.o2 {w W:World} {r:Nat} {o:OpV} (h:Ed2 w o r W):W.cell? ⟨w.heap.size,2,none⟩=some (.int .i64 o.at_)∧W.cell? ⟨w.heap.size,3,none⟩=some (.int .i64 o.n)∧W.cell? ⟨w.heap.size,6,none⟩=some (.string o.text)∧W.cell? ⟨w.heap.size,4,none⟩=some (.int .u32 o.id)∧W.cell? ⟨w.heap.size,5,none⟩=some (.int .u8 o.grav):=by
 refine⟨?_,?_,?_,?_,?_⟩<;>simp[World.cell?,h.op,opL]
theorem aY (w:World) (o:OpV):Ed2 w o (w.heap.size+1) ((w.alloc (.cells #[.int .u8 o.kind,.int .i64 o.slot,.int .i64 o.at_,.int .i64 o.n,.int .u32 o.id,.int .u8 o.grav,.string o.text] 54)).alloc (.cells (resL {}).toArray 51)):=by
 have h1:=heap_alloc_new w (.cells #[.int .u8 o.kind,.int .i64 o.slot,.int .i64 o.at_,.int .i64 o.n,.int .u32 o.id,.int .u8 o.grav,.string o.text] 54)
 have h2:=heap_alloc_new (w.alloc (.cells #[.int .u8 o.kind,.int .i64 o.slot,.int .i64 o.at_,.int .i64 o.n,.int .u32 o.id,.int .u8 o.grav,.string o.text] 54)) (.cells (resL {}).toArray 51)
 simp only[World.size_alloc] at h1 h2
 exact⟨(heap_alloc_old _ _ (by simp)).trans h1,h2,((Below.refl _ w).alloc (Nat.le_refl _) _).alloc (by simp) _⟩
theorem MdAt.setMarks {W:World} {b:Nat} {M:MM} (h:MdAt W b M) {v:Value} {l:List MkV} (hl:MOwn W 0 v l):MdAt (W.setCell ⟨b,1,none⟩ v) b { M with mv:=v,marks:=l } :=
 h.upd (by have:=bZ h.blk 1 v;exact this) (fun k _ hk=>aG _ _ _ _ hk) (aH hl h.blk (by decide) (fun k _ hk=>aG _ _ _ _ hk)) rfl rfl
theorem MdAt.c1 {W:World} {b:Nat} {M:MM} (h:MdAt W b M) {v:Value} (hv:M.mv=v):W.cell? ⟨b,1,none⟩=some v:=by simp[World.cell?,h.blk,mdL,hv]
theorem MdAt.f {W:World} {b:Nat} {M:MM} (h:MdAt W b M) (i:Nat):W.frozen? ⟨b,i,none⟩=false:=by simp[World.frozen?,h.blk]
theorem aIa (b:Nat) (M:MM) (a:Int) (W:World) (g:Nat) (hg:W.heap.size=g) (h:MdAt W b M) :
  Calls Tryz.prog 188 #[.slice (some ⟨g+1+1,0,none⟩) 2 2] (((W.alloc (.cells #[.pointer (some ⟨b,0,none⟩)] 81)).alloc (.cells #[.int .i64 a] 3)).alloc (.cells #[.func (.func 189) #[.pointer (some ⟨b,0,none⟩)] #[],.func (.func 237) #[] #[.pointer (some ⟨g+1,0,none⟩),.pointer (some ⟨g,0,none⟩)]] 221)) fun r w'=>r = .returned (.int .i64 (if M.closed then 13 else bndE M.text a))∧Below W.heap.size W w':=by
 obtain⟨hb1,hp1,hp2⟩:=qK W b a g hg
 have hs:((W.alloc (.cells #[.pointer (some ⟨b,0,none⟩)] 81)).alloc (.cells #[.int .i64 a] 3)).heap.size=g+1+1:=by simp[hg]
 refine (zW _ _ hs [⟨189,#[.pointer (some ⟨b,0,none⟩)],#[],if M.closed then 13 else 0⟩,⟨237,#[],#[.pointer (some ⟨g+1,0,none⟩),.pointer (some ⟨g,0,none⟩)],bndE M.text a⟩] (by
  intro k hk
  simp only[List.mem_cons,List.not_mem_nil,or_false] at hk
  rcases hk with rfl | rfl
  ·exact zU b M _ (h.below hb1)
  ·exact zV b _ _ M _ _ (h.below hb1) (by rw[hs];omega) (by rw[hs];omega) hp2 hp1) (by simp) 2 rfl).mono ?_
 rintro e w' ⟨rfl,hB⟩
 refine⟨?_,hb1.trans (hB.mono (by rw[hs];omega))⟩
 simp only[List.map_cons,List.map_nil,iX]
 by_cases h1:M.closed=true<;>by_cases h2:bndE M.text a=0<;>simp[h1,h2]
def oM (M:MM) (o:OpV):Int:=if M.closed then 13 else if (M.text.size:Int)<o.at_∨(M.text.size:Int)-o.at_<o.n then 3 else 0
def sS (M:MM) (o:OpV):Int:=if bndE M.text o.at_≠0 then bndE M.text o.at_ else bndE M.text (o.at_+o.n)
theorem aR9 (M:MM) (o:OpV):delE M.st o=if oM M o=0 then sS M o else oM M o:=by
 unfold delE oM sS
 simp only[MM.st]
 by_cases h1:M.closed=true<;>by_cases h2:(M.text.size:Int)<o.at_∨(M.text.size:Int)-o.at_<o.n<;>by_cases h3:bndE M.text o.at_=0<;>simp[h1,h2,h3]
theorem aQw (b bo bm:Nat) (M:MM) (o:OpV) (w:World) (h:MdAt w b M) (hbo:bo<w.heap.size) (hbm:bm<w.heap.size) (h1:w.cell? ⟨bo,2,none⟩=some (.int .i64 o.at_)) (h3:w.cell? ⟨bo,3,none⟩=some (.int .i64 o.n)) (h2:w.cell? ⟨bm,0,none⟩=some (.pointer (some ⟨b,0,none⟩))) (hs:M.text.size≤100000) (ho:0≤o.at_):qJ w ⟨193,#[],#[.pointer (some ⟨bo,0,none⟩),.pointer (some ⟨bm,0,none⟩)],if (M.text.size:Int)<o.at_∨(M.text.size:Int)-o.at_<o.n then 3 else 0⟩ :=
 ⟨enters_of Tryz.func193 (by kernel_rfl) rfl,fun W hW=>aBt b bo bm M o W (h.below hW) ((hW.cell (p:=⟨bo,2,none⟩) hbo).trans h1) ((hW.cell (p:=⟨bo,3,none⟩) hbo).trans h3) ((hW.cell (p:=⟨bm,0,none⟩) hbm).trans h2) hs ho⟩
theorem aEh (b bo bm:Nat) (M:MM) (o:OpV) (W:World) (g:Nat) (hg:W.heap.size=g) (h:MdAt W b M) (hbo:bo<W.heap.size) (hbm:bm<W.heap.size) (h1:W.cell? ⟨bo,2,none⟩=some (.int .i64 o.at_)) (h3:W.cell? ⟨bo,3,none⟩=some (.int .i64 o.n)) (h2:W.cell? ⟨bm,0,none⟩=some (.pointer (some ⟨b,0,none⟩))) (hs:M.text.size≤100000) (ho:0≤o.at_) :
  Calls Tryz.prog 188 #[.slice (some ⟨g,0,none⟩) 2 2] (W.alloc (.cells #[.func (.func 189) #[.pointer (some ⟨b,0,none⟩)] #[],.func (.func 193) #[] #[.pointer (some ⟨bo,0,none⟩),.pointer (some ⟨bm,0,none⟩)]] 221)) fun r w'=>r = .returned (.int .i64 (oM M o))∧Below W.heap.size W w':=by
 refine (zW _ _ hg [⟨189,#[.pointer (some ⟨b,0,none⟩)],#[],if M.closed then 13 else 0⟩,⟨193,#[],#[.pointer (some ⟨bo,0,none⟩),.pointer (some ⟨bm,0,none⟩)],if (M.text.size:Int)<o.at_∨(M.text.size:Int)-o.at_<o.n then 3 else 0⟩] (by
  intro k hk
  simp only[List.mem_cons,List.not_mem_nil,or_false] at hk
  rcases hk with rfl | rfl
  ·exact zU b M _ h
  ·exact aQw b _ _ M o _ h hbo hbm h1 h3 h2 hs ho) (by simp) 2 rfl).mono ?_
 rintro e w' ⟨rfl,hB⟩
 refine⟨?_,hB⟩
 unfold oM
 simp only[List.map_cons,List.map_nil,iX]
 by_cases h1:M.closed=true<;>by_cases h2:(M.text.size:Int)<o.at_∨(M.text.size:Int)-o.at_<o.n<;>simp[h1,h2]
theorem aEi (b:Nat) (M:MM) (o:OpV) (W:World) (g:Nat) (hg:W.heap.size=g) (h:MdAt W b M) :
  Calls Tryz.prog 188 #[.slice (some ⟨g+1+1+1+1,0,none⟩) 2 2] (((((W.alloc (.cells #[.pointer (some ⟨b,0,none⟩)] 81)).alloc (.cells #[.int .i64 o.at_] 3)).alloc (.cells #[.pointer (some ⟨b,0,none⟩)] 81)).alloc (.cells #[.int .i64 (o.at_+o.n)] 3)).alloc (.cells #[.func (.func 237) #[] #[.pointer (some ⟨g+1,0,none⟩),.pointer (some ⟨g,0,none⟩)],.func (.func 237) #[] #[.pointer (some ⟨g+1+1+1,0,none⟩),.pointer (some ⟨g+1+1,0,none⟩)]] 221)) fun r w'=>r = .returned (.int .i64 (sS M o))∧Below W.heap.size W w':=by
 obtain⟨hb1,hp1,hp2⟩:=qK W b o.at_ g hg
 have hs1:((W.alloc (.cells #[.pointer (some ⟨b,0,none⟩)] 81)).alloc (.cells #[.int .i64 o.at_] 3)).heap.size=g+1+1:=by simp[hg]
 generalize ((W.alloc (.cells #[.pointer (some ⟨b,0,none⟩)] 81)).alloc (.cells #[.int .i64 o.at_] 3))=V at *
 obtain⟨hb2,hq1,hq2⟩:=qK V b (o.at_+o.n) (g+1+1) hs1
 have hs2:((V.alloc (.cells #[.pointer (some ⟨b,0,none⟩)] 81)).alloc (.cells #[.int .i64 (o.at_+o.n)] 3)).heap.size=g+1+1+1+1:=by simp[hs1]
 have hr1:=(hb2.cell (p:=⟨g,0,none⟩) (by show g<V.heap.size;omega)).trans hp1
 have hr2:=(hb2.cell (p:=⟨g+1,0,none⟩) (by show g+1<V.heap.size;omega)).trans hp2
 have hb3:=hb1.trans (hb2.mono (by omega))
 generalize ((V.alloc (.cells #[.pointer (some ⟨b,0,none⟩)] 81)).alloc (.cells #[.int .i64 (o.at_+o.n)] 3))=U at *
 refine (zW _ _ hs2 [⟨237,#[],#[.pointer (some ⟨g+1,0,none⟩),.pointer (some ⟨g,0,none⟩)],bndE M.text o.at_⟩,⟨237,#[],#[.pointer (some ⟨g+1+1+1,0,none⟩),.pointer (some ⟨g+1+1,0,none⟩)],bndE M.text (o.at_+o.n)⟩] (by
  intro k hk
  simp only[List.mem_cons,List.not_mem_nil,or_false] at hk
  rcases hk with rfl | rfl
  ·exact zV b _ _ M _ _ (h.below hb3) (by omega) (by omega) hr2 hr1
  ·exact zV b _ _ M _ _ (h.below hb3) (by omega) (by omega) hq2 hq1) (by simp) 2 rfl).mono ?_
 rintro e w' ⟨rfl,hB⟩
 refine⟨?_,hb3.trans (hB.mono (by omega))⟩
 unfold sS
 simp only[List.map_cons,List.map_nil,iX]
 by_cases h1:bndE M.text o.at_=0<;>by_cases h2:bndE M.text (o.at_+o.n)=0<;>simp[h1,h2]
theorem MdAt.c5 {W:World} {b:Nat} {M:MM} (h:MdAt W b M) {v:Value} (hv:M.sv=v):W.cell? ⟨b,5,none⟩=some v:=by simp[World.cell?,h.blk,mdL,hv]
theorem MdAt.c2 {W:World} {b:Nat} {M:MM} (h:MdAt W b M):W.cell? ⟨b,2,none⟩=some (.int .i64 M.number):=by simp[World.cell?,h.blk,mdL]
theorem MdAt.c3 {W:World} {b:Nat} {M:MM} (h:MdAt W b M):W.cell? ⟨b,3,none⟩=some (.bool M.closed):=by simp[World.cell?,h.blk,mdL]
theorem MdAt.c0 {W:World} {b:Nat} {M:MM} (h:MdAt W b M):W.cell? ⟨b,0,none⟩=some (.string M.text):=by simp[World.cell?,h.blk,mdL]
theorem MdAt.setClosed {W:World} {b:Nat} {M:MM} (h:MdAt W b M):MdAt (W.setCell ⟨b,3,none⟩ (.bool true)) b { M with closed:=true } :=
 h.upd (by have:=bZ h.blk 3 (.bool true);exact this) (fun k _ hk=>aG _ _ _ _ hk) (aH h.marks h.blk (by decide) (fun k _ hk=>aG _ _ _ _ hk)) rfl rfl
theorem aIb (b:Nat) (M:MM) (c:Int) (o:OpV) (w:World) (h:MdAt w b M) :
  Calls Tryz.prog 144 #[.pointer (some ⟨b,0,none⟩),.int .i64 c,.agg #[.int .u8 o.kind,.int .i64 o.slot,.int .i64 o.at_,.int .i64 o.n,.int .u32 o.id,.int .u8 o.grav,.string o.text]] w (Post b w (cloS M.st) M):=by
 have ho:=fun W hW=>kS b M W hW
 have hE:=aY w o
 have hM0:=h.below hE.bl
 have f3:=hM0.f 3
 have c3:=hM0.c3
 have hrB:w.heap.size≤w.heap.size+1:=by omega
 cases hc:M.closed with
 |true =>
  have hS:cloS M.st=(aS 13,M.st):=if_pos hc
  simp only[hc,if_true] at ho
  rw[hS]
  go_enter Tryz.func144,Tryz.ntmps144
  go_wp2_with (first | (go_at_call 189;refine (ho _ hM0).mono ?_;rintro e w1 ⟨rfl,rfl⟩) | (go_at_call 99;refine (bT _ _).mono ?_;rintro e v7 ⟨rfl,hb7⟩;have hE7:=hE.on hb7;have hst:=aK hE7.res rfl))
  exact⟨rfl,_,results_cell_row rfl _ _ _ _ _ _ _ rfl (setRow_heap _ _ _ _ _ _ hE7.res) Tryz.underlying51 rfl (by kernel_rfl),rfl,M,(hM0.below hb7).row hE7.res _,rfl,(aF.of_below hE7.bl).row hrB _,fun k hk => .inl hk⟩
 |false =>
  have hS:cloS M.st=({},{ M.st with closed:=true }):=by unfold cloS;rw[if_neg (by show ¬ (M.closed=true);simp[hc])]
  simp only[hc,Bool.false_eq_true,if_false] at ho
  rw[hS]
  have hM1:=hM0.setClosed
  have hz1:=(aG _ ⟨b,3,none⟩ (.bool true) (w.heap.size+1) (by show w.heap.size+1≠b;have:=(gAz h.blk).1;omega)).trans hE.res
  have hst:=aK hz1 rfl
  go_enter Tryz.func144,Tryz.ntmps144
  go_wp2_with (go_at_call 189;refine (ho _ hM0).mono ?_;rintro e w1 ⟨rfl,rfl⟩)
  exact⟨rfl,_,results_cell_row rfl _ _ _ _ _ _ _ rfl (setRow_heap _ _ _ _ _ _ hz1) Tryz.underlying51 rfl (by kernel_rfl),rfl,_,hM1.row hz1 _,rfl,((aF.of_below hE.bl).trans (aF.set (F:=M.fp b) (a:=⟨b,3,none⟩) (.inl rfl) _)).row hrB _,fun k hk => .inl hk⟩
theorem aQx {W:World} {b c r gs cs g cp:Nat} {M:MM} {S:SeM} {cur rc:Array Value} (h:MdAt W b M) (hA:lM W M c S gs cs g cp cur) (hr:W.heap[r]? = some (.cells rc 51 (0,0))):b≠gs∧r≠gs:=by
 have h1:=h.seats
 rw[hA.sv] at h1
 obtain⟨curS,hgs⟩:∃ curS,W.heap[gs]? = some (.cells curS 139 (0,0)):=by
  rcases h1.2 with⟨e1,_⟩ | ⟨g',_,cu,e1,_,hg,_⟩
  ·injection e1 with e1;cases e1
  ·injection e1 with e1;injection e1 with e1;injection e1 with e1;subst e1;exact⟨cu,hg⟩
 refine⟨fun e => ?_,fun e => ?_⟩
 ·subst e;have:=h.blk;rw[hgs] at this;injection this with this;injection this with _ h2 _;exact absurd h2 (by decide)
 ·subst e;rw[hgs] at hr;injection hr with this;injection this with _ h2 _;exact absurd h2 (by decide)
theorem aQy {b c:Nat} {M:MM} {S:SeM} (hS:M.seats[c]? = some S) (k:Nat):(M.putSub c S).fp b k↔M.fp b k:=by
 have hmem:=mGz hS
 obtain⟨hc,hSe⟩:=gLz hS
 constructor
 ·rintro (h | h | ⟨S',hS',h⟩)
  ·exact .inl h
  ·exact .inr (.inl h)
  ·rcases bJ hS' with rfl | ⟨d,hd,hS'⟩
   ·exact .inr (.inr ⟨S,hmem,h⟩)
   ·exact .inr (.inr ⟨S',mGz hS',h⟩)
 ·rintro (h | h | ⟨S',hS',h⟩)
  ·exact .inl h
  ·exact .inr (.inl h)
  ·obtain⟨d,hd,e⟩:=List.getElem_of_mem hS'
   by_cases hdc:c=d
   ·subst hdc
    rw[hSe] at e;subst e
    exact .inr (.inr ⟨{ S with sub:=true },List.mem_iff_getElem.2 ⟨c,by show c<(M.seats.set c _).length;rw[List.length_set];exact hc,by show (M.seats.set c _)[c]'_=_;rw[List.getElem_set_self]⟩,h⟩)
   ·exact .inr (.inr ⟨S',List.mem_iff_getElem.2 ⟨d,by show d<(M.seats.set c _).length;rw[List.length_set];exact hd,by show (M.seats.set c _)[d]'_=_;rw[List.getElem_set_ne hdc];exact e⟩,h⟩)
theorem xA (b c:Nat) (M:MM) (o:OpV) (w:World) (h:MdAt w b M) (S:SeM) (hS:M.seats[c]? = some S) (hcl:M.seats.length≤8) :
  Calls Tryz.prog 142 #[.pointer (some ⟨b,0,none⟩),.int .i64 (c:Int),.agg #[.int .u8 o.kind,.int .i64 o.slot,.int .i64 o.at_,.int .i64 o.n,.int .u32 o.id,.int .u8 o.grav,.string o.text]] w (Post b w (subS M.st c) M):=by
 obtain⟨hc,_⟩:=gLz hS
 have ho:=fun W hW=>kS b M W hW
 have hE:=aY w o
 have hM0:=h.below hE.bl
 have hrB:w.heap.size≤w.heap.size+1:=by omega
 obtain⟨gs,cs,g,cp,cur,hA⟩:=hM0.seatAt hS
 have c5:=hM0.c5 hA.sv
 have a0:=hA.c0
 have f0:=hA.f0
 have c2:=hM0.c2
 have e0:M.st.seat c=S.st:=MM.seat_st hS
 cases hs:S.sub with
 |true =>
  have hR:subS M.st c=(aS 18,M.st):=by unfold subS;rw[if_pos (by rw[e0];exact hs)]
  rw[hR]
  go_enter Tryz.func142,Tryz.ntmps142
  go_wp2_with (go_at_call 99;refine (bT _ _).mono ?_;rintro e v7 ⟨rfl,hb7⟩;have hE7:=hE.on hb7;have hst:=aK hE7.res rfl)
  exact⟨rfl,_,results_cell_row rfl _ _ _ _ _ _ _ rfl (setRow_heap _ _ _ _ _ _ hE7.res) Tryz.underlying51 rfl (by kernel_rfl),rfl,M,(hM0.below hb7).row hE7.res _,rfl,(aF.of_below hE7.bl).row hrB _,fun k hk => .inl hk⟩
 |false =>
  cases hl:M.closed with
  |true =>
   have hR:subS M.st c=(aS 13,M.st):=by unfold subS;rw[if_neg (by rw[e0];show ¬ (S.sub=true);simp[hs]),if_pos (by exact hl)]
   simp only[hl,if_true] at ho
   rw[hR]
   go_enter Tryz.func142,Tryz.ntmps142
   go_wp2_with (first | (go_at_call 189;refine (ho _ hM0).mono ?_;rintro e w1 ⟨rfl,rfl⟩) | (go_at_call 99;refine (bT _ _).mono ?_;rintro e v7 ⟨rfl,hb7⟩;have hE7:=hE.on hb7;have hst:=aK hE7.res rfl))
   exact⟨rfl,_,results_cell_row rfl _ _ _ _ _ _ _ rfl (setRow_heap _ _ _ _ _ _ hE7.res) Tryz.underlying51 rfl (by kernel_rfl),rfl,M,(hM0.below hb7).row hE7.res _,rfl,(aF.of_below hE7.bl).row hrB _,fun k hk => .inl hk⟩
  |false =>
   have hR:subS M.st c=({ rev:=M.number },M.st.put c { M.st.seat c with sub:=true }):=by unfold subS;rw[if_neg (by rw[e0];show ¬ (S.sub=true);simp[hs]),if_neg (by show ¬ (M.closed=true);simp[hl])];rfl
   simp only[hl,Bool.false_eq_true,if_false] at ho
   rw[hR]
   have hM1:=hM0.putSub hS hA
   have hgne:b≠gs∧w.heap.size+1≠gs:=aQx hM0 hA hE.res
   have hz1:=(aG _ ⟨gs,c*2,none⟩ (.bool true) (w.heap.size+1) hgne.2).trans hE.res
   have d2:=(show (World.setCell _ ⟨gs,c*2,none⟩ (.bool true)).cell? ⟨b,2,none⟩=some (.int .i64 M.number) from hM1.c2)
   have hst:=aK hz1 rfl
   have hfp:M.fp b gs := .inr (.inl (by rw[hA.sv];rfl))
   go_enter Tryz.func142,Tryz.ntmps142
   go_wp2_with (go_at_call 189;refine (ho _ hM0).mono ?_;rintro e w1 ⟨rfl,rfl⟩)
   exact⟨rfl,_,results_cell_row rfl _ _ _ _ _ _ _ rfl (setRow_heap _ _ _ _ _ _ hz1) Tryz.underlying51 rfl (by kernel_rfl),rfl,_,hM1.row hz1 _,MM.putSub_st hS,((aF.of_below hE.bl).trans (aF.set (F:=M.fp b) (a:=⟨gs,c*2,none⟩) hfp _)).row hrB _,fun k hk => .inl ((aQy hS k).1 hk)⟩
theorem aBv (b c:Nat) (M:MM) (o:OpV) (w:World) (h:MdAt w b M) (S:SeM) (hS:M.seats[c]? = some S) (hcl:M.seats.length≤8) :
  Calls Tryz.prog 143 #[.pointer (some ⟨b,0,none⟩),.int .i64 (c:Int),.agg #[.int .u8 o.kind,.int .i64 o.slot,.int .i64 o.at_,.int .i64 o.n,.int .u32 o.id,.int .u8 o.grav,.string o.text]] w (Post b w (recS M.st c) M):=by
 obtain⟨hc,_⟩:=gLz hS
 have ho:=fun W hW=>kS b M W hW
 have hE:=aY w o
 have hM0:=h.below hE.bl
 have hrB:w.heap.size≤w.heap.size+1:=by omega
 obtain⟨gs,cs,g,cp,cur,hA⟩:=hM0.seatAt hS
 have c5:=hM0.c5 hA.sv
 have a0:=hA.c0
 have e0:M.st.seat c=S.st:=MM.seat_st hS
 cases hs:S.sub with
 |false =>
  have hR:recS M.st c=(aS 19,M.st):=by unfold recS;rw[if_pos (by rw[e0];show (!S.sub)=true;simp[hs])]
  rw[hR]
  go_enter Tryz.func143,Tryz.ntmps143
  go_wp2_with (go_at_call 99;refine (bT _ _).mono ?_;rintro e v7 ⟨rfl,hb7⟩;have hE7:=hE.on hb7;have hst:=aK hE7.res rfl)
  exact⟨rfl,_,results_cell_row rfl _ _ _ _ _ _ _ rfl (setRow_heap _ _ _ _ _ _ hE7.res) Tryz.underlying51 rfl (by kernel_rfl),rfl,M,(hM0.below hb7).row hE7.res _,rfl,(aF.of_below hE7.bl).row hrB _,fun k hk => .inl hk⟩
 |true =>
  cases hl:M.closed with
  |true =>
   have hR:recS M.st c=(aS 13,M.st):=by unfold recS;rw[if_neg (by rw[e0];show ¬ ((!S.sub)=true);simp[hs]),if_pos (by exact hl)]
   simp only[hl,if_true] at ho
   rw[hR]
   go_enter Tryz.func143,Tryz.ntmps143
   go_wp2_with (first | (go_at_call 189;refine (ho _ hM0).mono ?_;rintro e w1 ⟨rfl,rfl⟩) | (go_at_call 99;refine (bT _ _).mono ?_;rintro e v7 ⟨rfl,hb7⟩;have hE7:=hE.on hb7;have hst:=aK hE7.res rfl))
   exact⟨rfl,_,results_cell_row rfl _ _ _ _ _ _ _ rfl (setRow_heap _ _ _ _ _ _ hE7.res) Tryz.underlying51 rfl (by kernel_rfl),rfl,M,(hM0.below hb7).row hE7.res _,rfl,(aF.of_below hE7.bl).row hrB _,fun k hk => .inl hk⟩
  |false =>
   have hR:recS M.st c=(aS 17,M.st):=by unfold recS;rw[if_neg (by rw[e0];show ¬ ((!S.sub)=true);simp[hs]),if_neg (by show ¬ (M.closed=true);simp[hl])]
   simp only[hl,Bool.false_eq_true,if_false] at ho
   rw[hR]
   go_enter Tryz.func143,Tryz.ntmps143
   go_wp2_with (first | (go_at_call 189;refine (ho _ hM0).mono ?_;rintro e w1 ⟨rfl,rfl⟩) | (go_at_call 99;refine (bT _ _).mono ?_;rintro e v7 ⟨rfl,hb7⟩;have hE7:=hE.on hb7;have hst:=aK hE7.res rfl))
   exact⟨rfl,_,results_cell_row rfl _ _ _ _ _ _ _ rfl (setRow_heap _ _ _ _ _ _ hE7.res) Tryz.underlying51 rfl (by kernel_rfl),rfl,M,(hM0.below hb7).row hE7.res _,rfl,(aF.of_below hE7.bl).row hrB _,fun k hk => .inl hk⟩
end Go.Proofs.YtdeiocppghhfdaaGreat
namespace Go.Proofs.YtdeiocppghhfdaaGreat
open Go.RowKit Go.Lib Go.Shelf
theorem pI (b:Nat) (M:MM) (c:Int) (o:OpV) (w:World) (h:MdAt w b M) (hi:OpIn o) (hcl:M.seats.length≤8) :
  Calls Tryz.prog 100 #[.pointer (some ⟨b,0,none⟩),.int .i64 c,.agg #[.int .u8 o.kind,.int .i64 o.slot,.int .i64 o.at_,.int .i64 o.n,.int .u32 o.id,.int .u8 o.grav,.string o.text]] w fun r w'=>r = .returned (.int .i64 (dL M.st c o))∧Below w.heap.size w w':=by
 obtain⟨ag,cs,hsv⟩:=aC h.seats
 have c5:=fun u=>Lib.cell?_alloc_some u (h.c5 hsv)
 have hB:=fun u=>(Below.refl w.heap.size w).alloc (Nat.le_refl _) u
 have hlen:M.st.seats.length=M.seats.length:=List.length_map ..
 by_cases h0:c<0
 ·have hR:dL M.st c o=3:=by unfold dL;rw[if_pos (.inl h0)]
  rw[hR]
  go_enter Tryz.func100,Tryz.ntmps100
  go_wp2
  go_returns
  exact⟨rfl,hB _⟩
 ·by_cases h1:(M.seats.length:Int)≤c
  ·have hR:dL M.st c o=3:=by unfold dL;rw[if_pos (.inr (by rw[hlen];exact h1))]
   rw[hR]
   go_enter Tryz.func100,Tryz.ntmps100
   go_wp2
   go_returns
   exact⟨rfl,hB _⟩
  ·have hR:dL M.st c o=opE o:=by unfold dL;rw[if_neg (by rw[hlen];omega)]
   rw[hR]
   go_enter Tryz.func100,Tryz.ntmps100
   go_wp2_with (go_at_call 136;refine (tJ o _).mono ?_;rintro e w1 ⟨rfl,hb1⟩;have hb2:=(hB _).trans (hb1.mono (by simp)))
   go_returns
   exact⟨rfl,hb2⟩
attribute [local go_sem, local simp] resF bD bS fK fM fO dQ eX eY
theorem aK5 (b c:Nat) (M:MM) (o:OpV) (w:World) (h:MdAt w b M) (S:SeM) (hS:M.seats[c]? = some S) (hl:S.sl.length≤8) (hcl:M.seats.length≤8) (gs cs g cp:Nat) (cur:Array Value) (hA:lM w M c S gs cs g cp cur) :
  Calls Tryz.prog 198 #[.pointer (some ⟨b,0,none⟩),.int .i64 (c:Int),.agg #[.int .u8 o.kind,.int .i64 o.slot,.int .i64 o.at_,.int .i64 o.n,.int .u32 o.id,.int .u8 o.grav,.string o.text]] w fun r w'=>Below w.heap.size w w' ∧ 
   r = .returned (.tuple #[.pointer (if gF S.st o=0 then some ⟨g,o.slot.toNat*4,none⟩ else none),.int .i64 (gF S.st o)]):=by
 obtain⟨hc,_⟩:=gLz hS
 have c5:=fun u=>Lib.cell?_alloc_some u (h.c5 hA.sv)
 have a1:=fun u=>Lib.cell?_alloc_some u hA.c1
 have hB:=fun u=>(Below.refl w.heap.size w).alloc (Nat.le_refl _) u
 have hcp:=hA.cap
 by_cases h0:o.slot<0
 ·have hR:gF S.st o=2:=by unfold gF;rw[if_pos (.inl h0)]
  rw[hR]
  go_enter Tryz.func198,Tryz.ntmps198
  go_wp2
  go_returns
  exact⟨hB _,rfl⟩
 ·by_cases h1:(S.sl.length:Int)≤o.slot
  ·have hR:gF S.st o=2:=by unfold gF;rw[if_pos (.inr (by show ((S.sl.map (fun y:SnM=>y.s)).length:Int)≤_;rw[List.length_map];exact h1))]
   rw[hR]
   go_enter Tryz.func198,Tryz.ntmps198
   go_wp2
   go_returns
   exact⟨hB _,rfl⟩
  ·obtain⟨k,hk⟩:∃ k:Nat,o.slot=k:=⟨o.slot.toNat,by omega⟩
   have hk1:k<S.sl.length:=by omega
   have hx:=gEz hk1
   generalize S.sl[k]=x at hx
   have hR:gF S.st o=if x.s.held then 0 else 16:=by
    unfold gF
    rw[if_neg (by show ¬ (o.slot<0∨((S.sl.map (fun y:SnM=>y.s)).length:Int)≤o.slot);rw[List.length_map];omega)]
    show (if ((S.sl.map (fun y:SnM=>y.s)).getD o.slot.toNat default).held then (0:Int) else 16)=_
    rw[List.getD_eq_getElem?_getD,List.getElem?_map,hk,Int.toNat_natCast,hx]
    rfl
   have s0:=fun u=>Lib.cell?_alloc_some u (hA.sn k x hx).cells.1.1
   have i1:((k:Int)<S.sl.length)=True:=by simp;omega
   rw[hR,hk]
   cases hh:x.s.held with
   |true =>
    go_enter Tryz.func198,Tryz.ntmps198
    go_wp2
    go_returns
    exact⟨hB _,rfl⟩
   |false =>
    go_enter Tryz.func198,Tryz.ntmps198
    go_wp2
    go_returns
    exact⟨hB _,rfl⟩
theorem cell_below {W W':World} {a:Addr} {v:Value} (h:W.cell? a=some v) (hb:Below W.heap.size W W'):W'.cell? a=some v:=by
 by_cases hl:a.block<W.heap.size
 ·exact (hb.cell hl).trans h
 ·have:W.heap[a.block]? = none:=Array.getElem?_eq_none (by omega)
  simp[World.cell?,this] at h
theorem yD {W W':World} {a:Addr} {v:Value} (hc:W.cell? a=some v) (h:W.frozen? a=false) (hb:Below W.heap.size W W'):W'.frozen? a=false:=by
 have hl:a.block<W.heap.size:=by
  by_cases hl:a.block<W.heap.size
  ·exact hl
  ·have:W.heap[a.block]? = none:=Array.getElem?_eq_none (by omega)
   simp[World.cell?,this] at hc
 have e:W'.frozen? a=W.frozen? a:=by simp[World.frozen?,hb.block _ hl]
 rw[e];exact h
theorem lM.below {W W':World} {M:MM} {c:Nat} {S:SeM} {gs cs g cp:Nat} {cur:Array Value} (h:lM W M c S gs cs g cp cur) (hb:Below W.heap.size W W'):lM W' M c S gs cs g cp cur :=
 ⟨h.sv,h.v,cell_below h.c0 hb,yD h.c0 h.f0 hb,cell_below h.c1 hb,h.cap,(hb.block g (gAz h.blk).1).trans h.blk,fun k x hx=>(h.sn k x hx).below hb⟩
theorem aF8 {b c k0:Nat} {M:MM} {S:SeM} {x:SnM} (hS:M.seats[c]? = some S) (k:Nat):(M.putSlot c k0 S x).fp b k→M.fp b k:=by
 have hmem:=mGz hS
 rintro (h | h | ⟨S',hS',h⟩)
 ·exact .inl h
 ·exact .inr (.inl h)
 ·rcases bJ hS' with rfl | ⟨d,hd,hS'⟩
  ·exact .inr (.inr ⟨S,hmem,h⟩)
  ·exact .inr (.inr ⟨S',mGz hS',h⟩)
theorem Ed2.o7 {w W:World} {r:Nat} {o:OpV} (h:Ed2 w o r W):W.cell? ⟨w.heap.size,0,none⟩=some (.int .u8 o.kind)∧W.cell? ⟨w.heap.size,1,none⟩=some (.int .i64 o.slot)∧W.cell? ⟨w.heap.size,2,none⟩=some (.int .i64 o.at_)∧W.cell? ⟨w.heap.size,3,none⟩=some (.int .i64 o.n)∧W.cell? ⟨w.heap.size,4,none⟩=some (.int .u32 o.id)∧W.cell? ⟨w.heap.size,5,none⟩=some (.int .u8 o.grav)∧W.cell? ⟨w.heap.size,6,none⟩=some (.string o.text):=by
 refine⟨?_,?_,?_,?_,?_,?_,?_⟩<;>simp[World.cell?,h.op,opL]
theorem zX (f:Nat) (q:OpV) (hent:∀ args W,(callFunc f args).run Tryz.prog W = .ok (.enter f args) W)
  (hf:∀ (g o:Nat) (cur:Array Value) (x:SnM) (w:World),SnAt w g o cur x→SnOK x.s→Calls Tryz.prog f #[.pointer (some ⟨g,o,none⟩),.agg #[.int .u8 q.kind,.int .i64 q.slot,.int .i64 q.at_,.int .i64 q.n,.int .u32 q.id,.int .u8 q.grav,.string q.text]] w (kD g o cur w x (snpS x.s q)))
  (b c gb:Nat) (M:MM) (w:World) (h:MdAt w b M) (hok:MSok M.st 100000) (hc:c<M.seats.length) (hg:w.cell? ⟨gb,0,none⟩=some (.func (.func f) #[] #[])) :
  Calls Tryz.prog 197 #[.pointer (some ⟨b,0,none⟩),.int .i64 (c:Int),.agg #[.int .u8 q.kind,.int .i64 q.slot,.int .i64 q.at_,.int .i64 q.n,.int .u32 q.id,.int .u8 q.grav,.string q.text],.pointer (some ⟨gb,0,none⟩)] w (Post b w (reaS M.st c q) M):=by
 have hS:=gEz hc
 generalize M.seats[c]=S at hS
 have hmem:=mGz hS
 have hst8:S.sl.length≤8∧∀ x∈S.sl,SnOK x.s:=by
  have:=hok.slots S.st (List.mem_map.2 ⟨S,hmem,rfl⟩)
  refine⟨?_,fun x hx=>this.2 x.s (List.mem_map.2 ⟨x,hx,rfl⟩)⟩
  have h1:=this.1
  have h2:S.st.slots.length=S.sl.length:=List.length_map ..
  have:=hok.readers
  omega
 have hcl:M.seats.length≤8:=by have:=hok.clients;have h2:M.st.seats.length=M.seats.length:=List.length_map ..;omega
 have hE:=aY w q
 have hM0:=h.below hE.bl
 have hg0:=cell_below hg hE.bl
 have hrB:w.heap.size≤w.heap.size+1:=by omega
 obtain⟨gs,cs,g,cp,cur,hA⟩:=hM0.seatAt hS
 have hsl:=aK5 b c M q _ hM0 S hS hst8.1 hcl gs cs g cp cur hA
 have e0:M.st.seat c=S.st:=MM.seat_st hS
 have HOK:=Lib.hid hok
 clear hok
 by_cases hz:gF S.st q=0
 ·rw[if_pos hz,hz] at hsl
  obtain⟨k,hk,x,hx,hxe⟩:∃ k:Nat,q.slot.toNat=k∧∃ x,S.sl[k]? = some x∧S.st.slots.getD k default=x.s:=by
   unfold gF at hz
   split at hz
   ·cases hz
   ·rename_i hn
    have h2:S.st.slots.length=S.sl.length:=List.length_map ..
    rw[h2] at hn
    have hlt:q.slot.toNat<S.sl.length:=by omega
    refine⟨_,rfl,S.sl[q.slot.toNat],gEz hlt,?_⟩
    show (S.sl.map (fun y:SnM=>y.s)).getD _ default=_
    rw[List.getD_eq_getElem?_getD,List.getElem?_map,gEz hlt]
    rfl
  have hR:reaS M.st c q=((snpS x.s q).1,M.st.putSlot c k (snpS x.s q).2):=by
   unfold reaS
   rw[e0,if_neg (by simpa using hz),hk,hxe]
  rw[hk] at hsl
  rw[hR]
  have hxo:=hst8.2 x (mGz hx)
  clear hz hR hst8
  go_enter Tryz.func197,Tryz.ntmps197
  go_wp2_with (first | (go_at_call 198;refine hsl.mono ?_;rintro e w1 ⟨hb1,rfl⟩;have hE1:=hE.on hb1;have hA1:=hA.below hb1;have hM1:=hM0.below hb1;have hg1:=cell_below hg0 hb1;obtain⟨y0,y1,y2,y3,y4,y5,y6⟩:=hE1.o7;clear hsl) | (go_at_fn f;refine (hf g (k*4) cur x _ (hA1.sn k x hx) hxo).mono ?_;rintro e w2 ⟨rfl,x',hx',hN',hK'⟩;have hM2:=hM1.putSlot hS hA1 hx hN' hK';have hz2:=(hK'.block _ (gAz hE1.res).1 (aEg hA1.blk hE1.res).symm).trans hE1.res;have hst:=aK hz2 rfl))
  trace_state
  exact⟨rfl,_,results_cell_row rfl _ _ _ _ _ _ _ rfl (setRow_heap _ _ _ _ _ _ hz2) Tryz.underlying51 rfl (by kernel_rfl),rfl,_,hM2.row hz2 _,(by rw[← hx'];exact MM.putSlot_st hS),((aF.of_below hE1.bl).trans (hK'.fp (F:=M.fp b) (.inr (.inr ⟨S,hmem,by rw[hA1.v];rfl⟩)))).row hrB _,fun k hk => .inl (aF8 hS k hk)⟩
 ·rw[if_neg hz] at hsl
  have hR:reaS M.st c q=(aS (gF S.st q),M.st):=by
   unfold reaS
   rw[e0,if_pos hz]
  rw[hR]
  have hd:(gF S.st q == 0)=false:=by simpa using hz
  clear hR
  generalize gF S.st q=E at *
  go_enter Tryz.func197,Tryz.ntmps197
  go_wp2_with (first | (go_at_call 198;refine hsl.mono ?_;rintro e w1 ⟨hb1,rfl⟩;have hE1:=hE.on hb1;have hM1:=hM0.below hb1;clear hsl) | (go_at_call 99;refine (bT _ _).mono ?_;rintro e v7 ⟨rfl,hb7⟩;have hE7:=hE1.on hb7;have hst:=aK hE7.res rfl))
  exact⟨rfl,_,results_cell_row rfl _ _ _ _ _ _ _ rfl (setRow_heap _ _ _ _ _ _ hE7.res) Tryz.underlying51 rfl (by kernel_rfl),rfl,M,(hM1.below hb7).row hE7.res _,rfl,(aF.of_below hE7.bl).row hrB _,fun k hk => .inl hk⟩
end Go.Proofs.YtdeiocppghhfdaaGreat
namespace Go.Proofs.YtdeiocppghhfdaaGreat
open Go.RowKit Go.Lib Go.Shelf
structure MapW (w:World) (b:Nat) (es:Array MapEntry) (clock:Nat) (w':World):Prop where
  blk:w'.heap[b]? = some (.map es clock)
  oth:∀ k,k≠b→w'.heap[k]? = w.heap[k]?
  sz:w'.heap.size=w.heap.size
  os:w'.os=w.os
  tape:w'.tape=w.tape
  output:w'.output=w.output
theorem qL {P : Program} (w : World) {ops : Array Oper} {rest : List Oper} {o : Oper} {a : Act} {Q : Exit → Act → World → Prop}
    (hg:o.guard=none) (m x v:Operand) (t:TypeId) (hop:o.op=Op.insert t m x v) (k e:TypeId) (ht:P.underlying t=some (.map k e)) (q:IntKind) (hk:P.underlying k=some (.int q))
    (b clock:Nat) (es:Array MapEntry) (i:Int) (hb:w.heap[b]? = some (.map es clock)) (hm:a.eval m = .map (some b)) (hx:a.eval x = .int q i) (val:Value) (hv:a.eval v=val) (hf:Instr.findNow (.int q) (.int q i) es.toList 0=some none)
    (hK:∀ w',MapW w b (es.push { key := .int q i,val:=val,born:=clock }) (clock+1) w'→wpList P ops Q rest (a.put o.dst undef) w') :
    wpList P ops Q (o::rest) a w:=by
  refine wpList_plain hg fun K' hK' => ?_
  have hc:(Instr.checkKey false 10000 k (.int q i)).run P w = .ok () w:=MapKept.run_checkKey (k := .int q i) hk (by simp[MapKept.IsKey]) false 9999
  have hrun:(Instr.mapUpdate t (.map (some b)) (.int q i) val).run P w = .ok () { w with heap:=w.heap.setIfInBounds b (.map (es.push { key := .int q i,val:=val,born:=clock }) (clock+1)) }:=by
    simp[Instr.mapUpdate,run_underlying ht,MapKept.run_getObj_map hb,hc,MapKept.run_findKey hk hf,MapKept.run_setObj_map _ hb,Result.andThen]
  unfold Oper.wp
  simp[execOp,hop,hm,hx,hv,hrun,Result.andThen]
  have hlt:=(gAz hb).1
  exact hK' _ _ (hK _ ⟨by simp[hlt],fun k hk=>by simp[Array.getElem?_setIfInBounds,Ne.symm hk],by simp,rfl,rfl,rfl⟩)
theorem pJ {P : Program} (w : World) {ops : Array Oper} {rest : List Oper} {o : Oper} {a : Act} {Q : Exit → Act → World → Prop}
    (hg:o.guard=none) (t:TypeId) (hop:o.op=Op.makeMap t none) (hK:wpList P ops Q rest (a.put o.dst (.map (some w.heap.size))) (w.alloc (.map #[] 0))):wpList P ops Q (o::rest) a w:=by
  refine wpList_plain hg fun K' hK' => ?_
  unfold Oper.wp
  simp[execOp,hop,run_makeMap_plain,Result.andThen]
  exact hK' _ _ hK
def BoxL (w:World) (b:Nat) (l:List (Nat × Nat)):Prop:=∀ p∈l,p.1<w.heap.size∧p.1≠b∧w.cell? ⟨p.1,0,none⟩=some (.func (.func p.2) #[] #[])
theorem yE {w w':World} {a:Addr} (h:w'.heap[a.block]? = w.heap[a.block]?):w'.cell? a=w.cell? a:=by simp[World.cell?,h]
theorem BoxL.map {w w':World} {b clock:Nat} {es:Array MapEntry} {l:List (Nat × Nat)} (h:BoxL w b l) (hm:MapW w b es clock w'):BoxL w' b l:=by
  intro p hp
  obtain⟨h1,h2,h3⟩:=h p hp
  exact⟨by rw[hm.sz];exact h1,h2,(yE (hm.oth p.1 h2)).trans h3⟩
theorem BoxL.box {w:World} {b f:Nat} {T:TypeId} {l:List (Nat × Nat)} (h:BoxL w b l) (hb:b<w.heap.size):BoxL (w.alloc (.cells #[.func (.func f) #[] #[]] T)) b ((w.heap.size,f)::l):=by
  intro p hp
  rcases List.mem_cons.1 hp with rfl | hp
  · exact⟨by simp,by show w.heap.size≠b;omega,(box1 (heap_alloc_new w _)).1⟩
  · obtain⟨h1,h2,h3⟩:=h p hp
    exact⟨by rw[World.size_alloc];omega,h2,(yE (heap_alloc_old _ _ h1)).trans h3⟩
theorem aEj {s b clock:Nat} {w0 w w':World} {es:Array MapEntry} (h:Below s w0 w) (hb:s≤b) (hm:MapW w b es clock w'):Below s w0 w' :=
  ⟨hm.os.trans h.os,hm.tape.trans h.tape,hm.output.trans h.output,by rw[hm.sz];exact h.size,fun k hk=>(hm.oth k (by omega)).trans (h.block k hk)⟩
theorem MapW.box {w w':World} {b clock:Nat} {es:Array MapEntry} (h:MapW w b es clock w') (o:Obj):(w'.alloc o).heap[b]? = some (.map es clock):=(heap_alloc_old _ _ (gAz h.blk).1).trans h.blk
theorem aIc (f:Nat) (w:World):Calls Tryz.prog 145 #[.func (.func f) #[] #[]] w fun r w'=>∃ g,r = .returned (.func (.func 197) #[] #[.pointer (some ⟨g,0,none⟩)])∧w.heap.size=g∧w.alloc (.cells #[.func (.func f) #[] #[]] 185)=w':=by
  go_enter Tryz.func145,Tryz.ntmps145
  go_wp2
  go_returns
  exact⟨_,rfl,rfl,rfl⟩
theorem aK6 {w0 v v':World} {b f g clock:Nat} {T:TypeId} {es:Array MapEntry} {l:List (Nat × Nat)} (hX:BoxL v b l) (hmb:v.heap[b]? = some (.map es clock)) (hB:Below w0.heap.size w0 v) (hg:v.heap.size=g) (hv:v.alloc (.cells #[.func (.func f) #[] #[]] T)=v'):BoxL v' b ((g,f)::l)∧v'.heap[b]? = some (.map es clock)∧Below w0.heap.size w0 v':=by
  subst hv;subst hg
  have hlt:=(gAz hmb).1
  exact⟨hX.box hlt,(heap_alloc_old _ _ hlt).trans hmb,hB.alloc hB.size _⟩
def opsE (g6 g7 g8 g9 g10 g11 g12 g13:Nat):List MapEntry := 
  let c:=fun (g:Nat)=>Value.func (.func 197) #[] #[.pointer (some ⟨g,0,none⟩)]
  [⟨.int .u8 1,.func (.func 137) #[] #[],0⟩,⟨.int .u8 2,.func (.func 138) #[] #[],1⟩,⟨.int .u8 3,.func (.func 139) #[] #[],2⟩,⟨.int .u8 4,.func (.func 140) #[] #[],3⟩,
   ⟨.int .u8 5,.func (.func 141) #[] #[],4⟩,⟨.int .u8 14,.func (.func 142) #[] #[],5⟩,⟨.int .u8 15,.func (.func 143) #[] #[],6⟩,⟨.int .u8 16,.func (.func 144) #[] #[],7⟩,
   ⟨.int .u8 6,c g6,8⟩,⟨.int .u8 7,c g7,9⟩,⟨.int .u8 8,c g8,10⟩,⟨.int .u8 9,c g9,11⟩,⟨.int .u8 10,c g10,12⟩,⟨.int .u8 11,c g11,13⟩,⟨.int .u8 12,c g12,14⟩,⟨.int .u8 13,c g13,15⟩]
theorem vH (w : World) : Calls Tryz.prog 101 #[] w fun r w' => ∃ g6 g7 g8 g9 g10 g11 g12 g13, r = .returned (.map (some w.heap.size)) ∧ w'.heap[w.heap.size]? = some (.map (opsE g6 g7 g8 g9 g10 g11 g12 g13).toArray 16) ∧ 
    BoxL w' w.heap.size [(g13,153),(g12,152),(g11,151),(g10,150),(g9,149),(g8,148),(g7,147),(g6,146)]∧Below w.heap.size w w':=by
  have hmb:=heap_alloc_new w (.map #[] 0)
  have hB:=(Below.refl w.heap.size w).alloc (Nat.le_refl _) (.map #[] 0)
  have hX:BoxL (w.alloc (.map #[] 0)) w.heap.size []:=fun p hp=>by cases hp
  go_enter Tryz.func101,Tryz.ntmps101
  go_wp2_with (first | (refine pJ _ rfl _ rfl ?_) | (refine qL _ rfl _ _ _ _ rfl _ _ Tryz.underlying144 _ Tryz.underlying5 w.heap.size _ _ _ hmb rfl rfl _ rfl (by rfl) ?_;intro v hm;replace hX:=hX.map hm;replace hB:=aEj hB (Nat.le_refl _) hm;replace hmb:=hm.blk;clear hm) | (go_at_call 145;refine (aIc _ _).mono ?_;rintro e v' ⟨g,rfl,hg,hv⟩;replace hX:=aK6 hX hmb hB hg hv;clear hB;have hB:=hX.2.2;clear hmb;have hmb:=hX.2.1;replace hX:=hX.1;clear hg hv))
  go_returns
  exact⟨_,_,_,_,_,_,_,_,rfl,hmb,hX,hB⟩
end Go.Proofs.YtdeiocppghhfdaaGreat
