/- Texts, one behind another. -/
import Derived.Test.YtdeiocppghhfdaaGreatZfap
import Derived.Laws.OwnMore
set_option linter.unusedVariables false
set_option linter.unusedSimpArgs false
set_option maxRecDepth 100000
set_option maxHeartbeats 40000000
namespace Go.Proofs.YtdeiocppghhfdaaGreat
open Go.RowKit Go.Lib Go.Shelf
attribute [local go_sem, local simp] resF bD bS fK fM fO dQ eX eY
theorem tK {P:Program} (w:World) {o:Oper} {a:Act} {K:Act→World→Prop} {Q:Exit→Act→World→Prop}
  (m x:Operand) (t:TypeId) (hop:o.op=Op.lookup t m x true) (k e:TypeId) (ht:P.underlying t=some (.map k e)) (q:IntKind) (hk:P.underlying k=some (.int q))
  (b clock:Nat) (es:Array MapEntry) (i:Int) (hb:w.heap[b]? = some (.map es clock)) (hm:a.eval m = .map (some b)) (hx:a.eval x = .int q i) (j:Nat) (val:Value) (hf:Instr.findNow (.int q) (.int q i) es.toList 0=some (some (j,val)))
  (hK:K (a.put o.dst (.tuple #[val,.bool true])) w):o.wp P a w K Q:=by
 have hc:(Instr.checkKey es.isEmpty 10000 k (.int q i)).run P w = .ok () w:=MapKept.run_checkKey (k := .int q i) hk (by simp[MapKept.IsKey]) _ 9999
 have hrun:(Instr.lookup t (.map (some b)) (.int q i) true).run P w = .ok (.tuple #[val,.bool true]) w:=by
  simp[Instr.lookup,run_underlying ht,MapKept.run_getObj_map hb,hc,MapKept.run_findKey hk hf,Result.andThen]
 unfold Oper.wp
 simp[execOp,hop,hm,hx,hrun,Result.andThen]
 exact hK
theorem lN {w:World} {B s n k:Nat} {e:TypeId} {v:Value} {xs:List Value} (h:w.ownsRow B e s v n xs) (hk:v.ownBlock=some k):k<w.heap.size:=by
 rcases h.2 with⟨e1,_⟩ | ⟨g,cap,cur,e1,hB,hg,_⟩
 ·rw[e1] at hk;cases hk
 ·rw[e1] at hk;injection hk with hk;subst hk;exact (gAz hg).1
theorem MdAt.fp_lt {W:World} {b k:Nat} {M:MM} (h:MdAt W b M) (hk:M.fp b k):k<W.heap.size:=by
 rcases hk with rfl | hk | ⟨S,hS,hk⟩
 ·exact (gAz h.blk).1
 ·exact lN h.seats hk
 ·exact lN (h.slots S hS) hk
abbrev boxes (g6 g7 g8 g9 g10 g11 g12 g13:Nat):List (Nat × Nat):=[(g13,153),(g12,152),(g11,151),(g10,150),(g9,149),(g8,148),(g7,147),(g6,146)]
theorem aF9 (b c:Nat) (M:MM) (q:OpV) (w:World) (h:MdAt w b M) (hi:OpIn q) (hcl:M.seats.length≤8) (hst0:dL M.st c q=0) (F j:Nat) (fsel:Nat→Nat→Nat→Nat→Nat→Nat→Nat→Nat→Array Value)
  (hent:∀ args W,(callFunc F args).run Tryz.prog W = .ok (.enter F args) W)
  (hfind:∀ g6 g7 g8 g9 g10 g11 g12 g13,Instr.findNow (.int .u8) (.int .u8 q.kind) (opsE g6 g7 g8 g9 g10 g11 g12 g13).toArray.toList 0=some (some (j,.func (.func F) #[] (fsel g6 g7 g8 g9 g10 g11 g12 g13))))
  (hcall:∀ W bm g6 g7 g8 g9 g10 g11 g12 g13,MdAt W b M→BoxL W bm (boxes g6 g7 g8 g9 g10 g11 g12 g13)→Calls Tryz.prog F (#[.pointer (some ⟨b,0,none⟩),.int .i64 (c:Int),.agg #[.int .u8 q.kind,.int .i64 q.slot,.int .i64 q.at_,.int .i64 q.n,.int .u32 q.id,.int .u8 q.grav,.string q.text]]++fsel g6 g7 g8 g9 g10 g11 g12 g13) W (Post b W (opS M.st c q) M)) :
  Calls Tryz.prog 50 #[.pointer (some ⟨b,0,none⟩),.int .i64 (c:Int),.agg #[.int .u8 q.kind,.int .i64 q.slot,.int .i64 q.at_,.int .i64 q.n,.int .u32 q.id,.int .u8 q.grav,.string q.text]] w (Post b w (opS M.st c q) M):=by
 have hE:=aY w q
 have hM0:=h.below hE.bl
 have hrB:w.heap.size≤w.heap.size+1:=by omega
 have hsta:=pI b M c q _ hM0 hi hcl
 rw[hst0] at hsta
 have hfp:=fun k (hk:M.fp b k)=>h.fp_lt hk
 clear hst0
 go_enter Tryz.func50,Tryz.ntmps50
 go_wp2_with (go_at_call 100;refine hsta.mono ?_;rintro e w1 ⟨rfl,hb1⟩;have hE1:=hE.on hb1;have hM1:=hM0.below hb1;clear hsta)
 have hx0:w1.drew.cell? ⟨w.heap.size,0,none⟩=some (.int .u8 q.kind):=hE1.drew.o7.1
 refine aP (S:=fun W=>W.cell? ⟨w.heap.size,0,none⟩=some (.int .u8 q.kind)) ?_ (fun hHeld => ?_)
 ·first | exact hx3 | exact hx0
 (refine aL 1 ?_;(try simp only[nSO]))
 (refine np_q ?_;(try simp only[nSO]))
 (refine np_c 0 (fun K hK => ?_);go_simp;((go_at_call 101;refine (vH _).mono ?_;rintro e w2 ⟨g6,g7,g8,g9,g10,g11,g12,g13,rfl,hmap,hX,hb2⟩;have hE2:=hE1.drew.on hb2;have hx3:=hE2.o7.1;have hM2:=(hM1.below (Below.refl _ _).drew).below hb2));(try go_wp2_with fail);refine hK.out _ _ ?_ (fun hHeld => ?_);(· (first | exact hx3 | exact hx0));clear hK K;(try simp only[nSO]))
 (refine np_c 3 (fun K hK => ?_);(refine tK _ _ _ _ rfl _ _ Tryz.underlying144 _ Tryz.underlying5 _ _ _ _ hmap rfl rfl _ _ (hfind g6 g7 g8 g9 g10 g11 g12 g13) ?_);refine hK.out _ _ ?_ (fun hHeld => ?_);(· (first | exact hx3 | exact hx0));clear hK K;(try simp only[nSO]))
 iterate 5 ((refine np_q ?_;(try simp only[nSO])))
 refine np_z ?_
 obtain⟨y0,y1,y2,y3,y4,y5,y6⟩:=hE2.o7
 have hcf:=hcall _ _ _ _ _ _ _ _ _ _ hM2 hX
 have hs2:=hE2.bl.size
 have hr2:=hE2.res
 clear hHeld hx0 hx3 hmap
 go_wp2_with (go_at_fn F;refine hcf.mono ?_;rintro e w9 ⟨rfl,M',hM',hst',hK',hfp'⟩;have hz9:=(hK'.block _ (gAz hr2).1 (fun hk=>absurd (hfp _ hk) (by omega))).trans hr2;have hst:=aK hz9 rfl)
 exact⟨rfl,_,results_cell_row rfl _ _ _ _ _ _ _ rfl (setRow_heap _ _ _ _ _ _ hz9) Tryz.underlying51 rfl (by kernel_rfl),rfl,M',hM'.row hz9 _,hst',((aF.of_below hE2.bl).trans hK').row hrB _,fun k hk=>(hfp' k hk).imp id (fun hk=>by omega)⟩
end Go.Proofs.YtdeiocppghhfdaaGreat
namespace Go.Proofs.YtdeiocppghhfdaaGreat
open Go.RowKit Go.Lib Go.Shelf
theorem flat_get (z:List Value) (hz:0<z.length):∀ (n i:Nat),(List.replicate n z).flatten[i]? = if i<n*z.length then z[i % z.length]? else none
 |0,i=>by simp
 |n+1,i=>by
  rw[List.replicate_succ,List.flatten_cons,List.getElem?_append]
  have hm:(n+1)*z.length=n*z.length+z.length:=Nat.succ_mul ..
  by_cases hi:i<z.length
  ·rw[if_pos hi,if_pos (by omega),Nat.mod_eq_of_lt hi]
  ·rw[if_neg hi,flat_get z hz n (i-z.length)]
   have:i % z.length=(i-z.length) % z.length:=Nat.mod_eq_sub_mod (by omega)
   rw[this]
   by_cases h2:i<(n+1)*z.length
   ·rw[if_pos h2,if_pos (by omega)]
   ·rw[if_neg h2,if_neg (by omega)]
theorem yF (z:List Value) (hz:0<z.length) (n:Nat):(madeCells z.toArray (n*z.length)).toList=(List.replicate n z).flatten:=by
 refine List.ext_getElem? fun i => ?_
 rw[flat_get z hz]
 unfold madeCells
 rw[Array.toList_map,List.getElem?_map,Array.toList_range]
 by_cases hi:i<n*z.length
 ·rw[if_pos hi,List.getElem?_range hi]
  have hm:i % z.length<z.length:=Nat.mod_lt _ hz
  rw[gEz hm]
  simp[hm]
 ·rw[if_neg hi,List.getElem?_eq_none (by rw[List.length_range];omega)]
  rfl
def zSe:SeM:=⟨false,.slice none 0 0,[]⟩
def zSn:SnM:=⟨jN,.slice none 0 0⟩
theorem aEk (n:Nat):(madeCells #[.bool false,.slice none 0 0] (n*2)).toList=sesL (List.replicate n zSe):=by
 have h:=yF (seL zSe) (by decide) n
 unfold sesL
 rw[List.flatMap_def,List.map_replicate]
 exact h
theorem vI (n:Nat):(madeCells #[.bool false,.string ⟨#[]⟩,.slice none 0 0,.int .i64 0] (n*4)).toList=slL (List.replicate n zSn):=by
 have h:=yF (snL zSn) (by decide) n
 unfold slL
 rw[List.flatMap_def,List.map_replicate]
 exact h
theorem nV (n k:Nat) (h:k<n):List.replicate (n-k) zSe=zSe::List.replicate (n-k-1) zSe:=by
 rw[← List.replicate_succ];congr 1;omega
theorem nW (A:List SeM) (S:SeM) (R:List SeM):sesL (A++S::R)=sesL A++(seL S++sesL R):=by rw[iT];rfl
theorem aBw (A:List SeM) (S:SeM) (R:List SeM) (v:Value) (l:List SnM):(sesL (A++S::R)).set (A.length*2+1) v=sesL (A++⟨S.sub,v,l⟩::R):=by
 have e:(sesL A).length=A.length*2:=jO A
 rw[nW,nW,List.set_append_right _ _ (by omega),e,Nat.add_sub_cancel_left]
 rfl
theorem aK7 (A:List SeM) (S:SeM) (R:List SeM) (u:Bool):(sesL (A++S::R)).set (A.length*2) (.bool u)=sesL (A++⟨u,S.v,S.sl⟩::R):=by
 have e:(sesL A).length=A.length*2:=jO A
 rw[nW,nW,List.set_append_right _ _ (by omega),e,Nat.sub_self]
 rfl
structure Bld (s:Nat) (W:World) (b gs n:Nat) (M:MM) (D:List SeM):Prop where
 blk:W.heap[b]? = some (.cells (mdL M).toArray 136 (0,0))
 sv:M.sv = .slice (some ⟨gs,0,none⟩) n n
 marks:MOwn W 0 M.mv M.marks
 seats:W.heap[gs]? = some (.cells (sesL (D++List.replicate (n-D.length) zSe)).toArray 139 (0,0))
 len:D.length≤n
 slots:∀ S∈D,W.ownsRow s 168 4 S.v S.sl.length (slL S.sl)
 smarks:∀ S∈D,∀ x∈S.sl,MOwn W 0 x.mv x.s.marks
 some_:∀ S∈D,S.v.ownBlock≠none
 nodup:(D.map (·.v.ownBlock)).Nodup
theorem Bld.below {s:Nat} {W W':World} {b gs n:Nat} {M:MM} {D:List SeM} (h:Bld s W b gs n M D) (hb:Below W.heap.size W W'):Bld s W' b gs n M D :=
 ⟨(hb.block b (gAz h.blk).1).trans h.blk,h.sv,aI h.marks hb,(hb.block gs (gAz h.seats).1).trans h.seats,h.len,fun S hS=>aI (h.slots S hS) hb,fun S hS x hx=>aI (h.smarks S hS x hx) hb,h.some_,h.nodup⟩
theorem Bld.mdAt {s:Nat} {W:World} {b gs n:Nat} {M:MM} {D:List SeM} (h:Bld s W b gs n M D) (hn:D.length=n) (hm:n≤maxLen):MdAt W b { M with seats:=D }:=by
 have hse:=h.seats
 rw[hn,Nat.sub_self,List.replicate_zero,List.append_nil] at hse
 refine⟨h.blk,h.marks,⟨jO D,.inr ⟨gs,n,_,by show M.sv=_;rw[h.sv,hn],Nat.zero_le _,hse,(by show D.length≤n;omega),hm,by show (sesL D).length=_;rw[jO,hn],?_⟩⟩,fun S hS=>aV (Nat.zero_le _) (h.slots S hS),h.smarks,⟨by show M.sv.ownBlock≠none;rw[h.sv];simp[Value.ownBlock],h.some_⟩,h.nodup⟩
 show (sesL D).take _=_
 rw[List.take_of_length_le (by rw[jO];exact Nat.le_refl _)]
theorem Bld.cell {s:Nat} {W:World} {b gs n:Nat} {M:MM} {D:List SeM} (h:Bld s W b gs n M D) {j:Nat} {S:SeM} (hS:(D++List.replicate (n-D.length) zSe)[j]? = some S):W.cell? ⟨gs,j*2,none⟩=some (.bool S.sub)∧W.cell? ⟨gs,j*2+1,none⟩=some S.v∧∀ i,W.frozen? ⟨gs,i,none⟩=false:=by
 obtain⟨a1,a2⟩:=aF7 _ j S hS
 refine⟨?_,?_,fun i=>by simp[World.frozen?,h.seats]⟩
 ·simp only[World.cell?,h.seats];simpa using a1
 ·simp only[World.cell?,h.seats];simpa using a2
theorem Bld.push {s:Nat} {W W':World} {b gs n:Nat} {M:MM} {D:List SeM} (h:Bld s W b gs n M D) (S:SeM) (hk:D.length<n)
  (hgs:W'.heap[gs]? = some (.cells (sesL (D++S::List.replicate (n-D.length-1) zSe)).toArray 139 (0,0)))
  (hkeep:∀ k,k<W.heap.size→k≠gs→W'.heap[k]? = W.heap[k]?) (hsz:s≤W.heap.size)
  (hslot:W'.ownsRow W.heap.size 168 4 S.v S.sl.length (slL S.sl)) (hsome:S.v.ownBlock≠none) (hsm:∀ x∈S.sl,MOwn W' 0 x.mv x.s.marks):Bld s W' b gs n M (D++[S]):=by
 have hbg:b≠gs:=fun e=>by subst e;have:=h.blk;rw[h.seats] at this;injection this with this;injection this with _ h2 _;exact absurd h2 (by decide)
 refine⟨(hkeep b (gAz h.blk).1 hbg).trans h.blk,h.sv,aH h.marks h.seats (by decide) hkeep,?_,by rw[List.length_append];show _+1≤n;omega,?_,?_,?_,?_⟩
 ·rw[List.length_append,List.append_assoc]
  show W'.heap[gs]? = some (.cells (sesL (D++S::List.replicate (n-(D.length+1)) zSe)).toArray _ _)
  rw[Nat.sub_add_eq]
  exact hgs
 ·intro S' hS'
  rcases List.mem_append.1 hS' with h1 | h1
  ·exact aH (h.slots S' h1) h.seats (by decide) hkeep
  ·rw[List.mem_singleton.1 h1];exact aV hsz hslot
 ·intro S' hS' x hx
  rcases List.mem_append.1 hS' with h1 | h1
  ·exact aH (h.smarks S' h1 x hx) h.seats (by decide) hkeep
  ·rw[List.mem_singleton.1 h1] at hx;exact hsm x hx
 ·intro S' hS'
  rcases List.mem_append.1 hS' with h1 | h1
  ·exact h.some_ S' h1
  ·rw[List.mem_singleton.1 h1];exact hsome
 ·rw[List.map_append,List.nodup_append]
  refine⟨h.nodup,by simp,fun a ha c hc e => ?_⟩
  obtain⟨S',hS',rfl⟩:=List.mem_map.1 ha
  have hc2:c=S.v.ownBlock:=by simpa using hc
  rw[hc2] at e
  cases ho:S.v.ownBlock with
  |none=>exact hsome ho
  |some g =>
   rw[ho] at e
   have h1:=lN (h.slots S' hS') e
   have h2:=(World.ownsRow.lt hslot g ho).1
   omega
theorem aQz:(Tryz.prog.info? 139).map (fun i=>(i.zero,i.size,i.bytes))=some (some (.agg #[.bool false,.slice none 0 0]),2,32):=by kernel_rfl
theorem aK8:(Tryz.prog.info? 168).map (fun i=>(i.zero,i.size,i.bytes))=some (some (.agg #[.bool false,.string ⟨#[]⟩,.slice none 0 0,.int .i64 0]),4,56):=by kernel_rfl
@[irreducible] def aK9 (w:World) (n:Nat):World:=w.alloc (.cells (sesL (List.replicate n zSe)).toArray 139)
@[irreducible] def aLa (w:World) (n:Nat):World:=w.alloc (.cells (slL (List.replicate n zSn)).toArray 168)
theorem qM (w:World) (n:Nat):aK9 w n=w.alloc (.cells (sesL (List.replicate n zSe)).toArray 139):=by unfold aK9;rfl
theorem qN (w:World) (n:Nat):aLa w n=w.alloc (.cells (slL (List.replicate n zSn)).toArray 168):=by unfold aLa;rfl
theorem aId (w:World) (n:Nat) (hn:n≤1000):(Instr.makeSlice 134 (.int .i64 n) (.int .i64 n)).run Tryz.prog w = .ok (.slice (some ⟨w.heap.size,0,none⟩) n n) (aK9 w n):=by
 obtain⟨i0,hi0,hz0,hz1,hz2⟩:=info_parts aQz
 have:=run_make (P := Tryz.prog) w 134 139 i0 _ Tryz.underlying134 hi0 hz0 .i64 .i64 n n (by omega) (Int.le_refl _) (by rw[hz2];omega) (by omega)
 have e:madeCells (Value.cells (.agg #[.bool false,.slice none 0 0])) ((n:Int).toNat*i0.size)=(sesL (List.replicate n zSe)).toArray:=by rw[hz1,Int.toNat_natCast];exact Array.toList_inj.1 (aEk n)
 rw[this,e,qM,Int.toNat_natCast]
theorem aIe (w:World) (n:Nat) (hn:n≤1000):(Instr.makeSlice 137 (.int .i64 n) (.int .i64 n)).run Tryz.prog w = .ok (.slice (some ⟨w.heap.size,0,none⟩) n n) (aLa w n):=by
 obtain⟨i0,hi0,hz0,hz1,hz2⟩:=info_parts aK8
 have:=run_make (P := Tryz.prog) w 137 168 i0 _ Tryz.underlying137 hi0 hz0 .i64 .i64 n n (by omega) (Int.le_refl _) (by rw[hz2];omega) (by omega)
 have e:madeCells (Value.cells (.agg #[.bool false,.string ⟨#[]⟩,.slice none 0 0,.int .i64 0])) ((n:Int).toNat*i0.size)=(slL (List.replicate n zSn)).toArray:=by rw[hz1,Int.toNat_natCast];exact Array.toList_inj.1 (vI n)
 rw[this,e,qN,Int.toNat_natCast]
theorem pK (w:World) (n:Nat) (hn:n≤1000):∃ V,(Instr.makeSlice 134 (.int .i64 n) (.int .i64 n)).run Tryz.prog w = .ok (.slice (some ⟨w.heap.size,0,none⟩) n n) V∧V.heap.size=w.heap.size+1∧V.heap[w.heap.size]? = some (.cells (sesL (List.replicate n zSe)).toArray 139 (0,0))∧Below w.heap.size w V :=
 ⟨_,aId w n hn,by rw[qM,World.size_alloc],by rw[qM];exact heap_alloc_new _ _,by rw[qM];exact (Below.refl _ w).alloc (Nat.le_refl _) _⟩
theorem aEl (w:World) (n:Nat) (hn:n≤1000):∃ V,(Instr.makeSlice 137 (.int .i64 n) (.int .i64 n)).run Tryz.prog w = .ok (.slice (some ⟨w.heap.size,0,none⟩) n n) V∧V.heap.size=w.heap.size+1∧V.heap[w.heap.size]? = some (.cells (slL (List.replicate n zSn)).toArray 168 (0,0))∧Below w.heap.size w V :=
 ⟨_,aIe w n hn,by rw[qN,World.size_alloc],by rw[qN];exact heap_alloc_new _ _,by rw[qN];exact (Below.refl _ w).alloc (Nat.le_refl _) _⟩
theorem aIf {W:World} {g n:Nat} (h:W.heap[g]? = some (.cells (slL (List.replicate n zSn)).toArray 168 (0,0))) (hn:n≤1000):W.ownsRow g 168 4 (.slice (some ⟨g,0,none⟩) n n) (List.replicate n zSn).length (slL (List.replicate n zSn)):=by
 have e:(List.replicate n zSn).length=n:=List.length_replicate ..
 refine⟨gX _,.inr ⟨g,n,_,by rw[e],Nat.le_refl _,h,by omega,by unfold maxLen;omega,by show (slL _).length=_;rw[gX,e],?_⟩⟩
 show (slL _).take _=_
 rw[List.take_of_length_le (by rw[gX];exact Nat.le_refl _)]
theorem aLb (x:SnM) (a:Bool):(snL x).set 0 (.bool a)=snL ⟨⟨a,x.s.text,x.s.marks,x.s.cursor⟩,x.mv⟩:=rfl
theorem aLc (x:SnM) (a:ByteArray):(snL x).set 1 (.string a)=snL ⟨⟨x.s.held,a,x.s.marks,x.s.cursor⟩,x.mv⟩:=rfl
theorem aLd (x:SnM) (v:Value):(snL x).set 2 v=snL ⟨x.s,v⟩:=rfl
attribute [local go_sem, local simp] aLb aLc aLd resF bD bS fK fM fO dQ eX eY snF uA zS
theorem aBx (W:World) (y:SnM) (hy:y.mv.oneCell'=true):∃ W6,(storeCells ⟨W.heap.size,0,none⟩ (snL y)).run Tryz.prog (W.alloc (.cells (snL ⟨⟨false,⟨#[]⟩,[],0⟩,.slice none 0 0⟩).toArray 168)) = .ok () W6∧W6.cell? ⟨W.heap.size,0,none⟩=some (.bool y.s.held)∧Below W.heap.size W W6:=by
 have hz:=heap_alloc_new W (.cells (snL ⟨⟨false,⟨#[]⟩,[],0⟩,.slice none 0 0⟩).toArray 168)
 refine⟨_,mQ hz rfl (snL y) rfl (by
  rw[Array.all_eq_true']
  intro v hv
  simp only[snL,List.mem_toArray,List.mem_cons,List.not_mem_nil,or_false] at hv
  rcases hv with rfl | rfl | rfl | rfl
  ·rfl
  ·rfl
  ·exact hy
  ·rfl),?_,bM ((Below.refl _ W).alloc (Nat.le_refl _) _) (Nat.le_refl _) _⟩
 have:((W.alloc (.cells (snL ⟨⟨false,⟨#[]⟩,[],0⟩,.slice none 0 0⟩).toArray 168)).setRow W.heap.size (snL y).toArray).heap[W.heap.size]? = some (.cells (snL y).toArray 168 (0,0)):=setRow_heap _ _ _ _ _ _ hz
 simp only[World.cell?,this]
 rfl
theorem aF.cell {F:Nat→Prop} {W W':World} {a:Addr} {v:Value} (hk:aF F W W') (ha:¬ F a.block) (h:W.cell? a=some v):W'.cell? a=some v:=by
 have hl:a.block<W.heap.size:=by
  by_cases hl:a.block<W.heap.size
  ·exact hl
  ·have:W.heap[a.block]? = none:=Array.getElem?_eq_none (by omega)
   simp[World.cell?,this] at h
 have e:W'.cell? a=W.cell? a:=by simp[World.cell?,hk.block _ hl ha]
 rw[e];exact h
theorem g_ne {W:World} {b c gs cs g cp:Nat} {M:MM} {S:SeM} {cur:Array Value} (h:MdAt W b M) (hA:lM W M c S gs cs g cp cur):b≠g∧gs≠g:=by
 have h1:=h.seats
 rw[hA.sv] at h1
 obtain⟨curS,hgs⟩:∃ curS,W.heap[gs]? = some (.cells curS 139 (0,0)):=by
  rcases h1.2 with⟨e1,_⟩ | ⟨g',_,cu,e1,_,hg,_⟩
  ·injection e1 with e1;cases e1
  ·injection e1 with e1;injection e1 with e1;injection e1 with e1;subst e1;exact⟨cu,hg⟩
 refine⟨fun e => ?_,fun e => ?_⟩
 ·subst e;have:=h.blk;rw[hA.blk] at this;injection this with this;injection this with _ h2 _;exact absurd h2 (by decide)
 ·subst e;have:=hA.blk;rw[hgs] at this;injection this with this;injection this with _ h2 _;exact absurd h2 (by decide)
theorem sU (W:World) (g o:Nat) (a:Bool) (t:ByteArray) (l l':List MkV) (p:Int) (v:Value):putSn W g o ⟨⟨a,t,l,p⟩,v⟩=putSn W g o ⟨⟨a,t,l',p⟩,v⟩:=by rw[iR,iR];rfl
theorem aBy (b c:Nat) (M:MM) (o:OpV) (w:World) (h:MdAt w b M) (S:SeM) (hS:M.seats[c]? = some S) (hl:S.sl.length≤8) (hcl:M.seats.length≤8) (hmk:M.marks.length≤64) :
  Calls Tryz.prog 141 #[.pointer (some ⟨b,0,none⟩),.int .i64 (c:Int),.agg #[.int .u8 o.kind,.int .i64 o.slot,.int .i64 o.at_,.int .i64 o.n,.int .u32 o.id,.int .u8 o.grav,.string o.text]] w (Post b w (acqS M.st c) M):=by
 obtain⟨hc,_⟩:=gLz hS
 have ho:=fun W hW=>kS b M W hW
 have hE:=aY w o
 have hM0:=h.below hE.bl
 have hrB:w.heap.size≤w.heap.size+1:=by omega
 obtain⟨gs,cs,g,cp,cur,hA⟩:=hM0.seatAt hS
 have c5:=hM0.c5 hA.sv
 have a1:=hA.c1
 have hcp:=hA.cap
 have e0:M.st.seat c=S.st:=MM.seat_st hS
 cases hs:M.closed with
 |true =>
  have hR:acqS M.st c=(aS 13,M.st):=by unfold acqS;rw[if_pos (by exact hs)]
  simp only[hs,if_true] at ho
  rw[hR]
  go_enter Tryz.func141,Tryz.ntmps141
  go_wp2_with (first | (go_at_call 189;refine (ho _ hM0).mono ?_;rintro e w1 ⟨rfl,rfl⟩) | (go_at_call 99;refine (bT _ _).mono ?_;rintro e v7 ⟨rfl,hb7⟩;have hE7:=hE.on hb7;have hst:=aK hE7.res rfl))
  exact⟨rfl,_,results_cell_row rfl _ _ _ _ _ _ _ rfl (setRow_heap _ _ _ _ _ _ hE7.res) Tryz.underlying51 rfl (by kernel_rfl),rfl,M,(hM0.below hb7).row hE7.res _,rfl,(aF.of_below hE7.bl).row hrB _,fun k hk => .inl hk⟩
 |false =>
  simp only[hs,Bool.false_eq_true,if_false] at ho
  go_enter Tryz.func141,Tryz.ntmps141
  go_wp2_with (go_at_call 189;refine (ho _ hM0).mono ?_;rintro e w1 ⟨rfl,rfl⟩)
  generalize hW0:(w.alloc (.cells #[.int .u8 o.kind,.int .i64 o.slot,.int .i64 o.at_,.int .i64 o.n,.int .u32 o.id,.int .u8 o.grav,.string o.text] 54)).alloc (.cells (resL {}).toArray 51)=W0 at *
  go_loopw [8,9,25,26,27,28,29,30,31,32,33,34,35,36,37,38,39,40,41,42,43,44,45,46,47,48,49,50,51,52,53,54,55,56,57,58,59] (fun x8 x9 i x26 x27 x28 x29 x30 x31 x32 x33 x34 x35 x36 x37 x38 x39 x40 x41 x42 x43 x44 x45 x46 x47 x48 x49 x50 x51 x52 x53 x54 x55 x56 x57 x58 x59 wr=>∃ k:Nat,i = .int .i64 k∧k≤S.sl.length∧(∀ j,j<k→∀ x,S.sl[j]? = some x→x.s.held=true)∧Below W0.heap.size W0 wr) (fun x8 x9 i x26 x27 x28 x29 x30 x31 x32 x33 x34 x35 x36 x37 x38 x39 x40 x41 x42 x43 x44 x45 x46 x47 x48 x49 x50 x51 x52 x53 x54 x55 x56 x57 x58 x59 wr=>S.sl.length-(intOf i).toNat)
  case atStart=>exact⟨0,rfl,by omega,fun j hj=>absurd hj (by omega),Below.refl _ _⟩
  case round =>
   obtain⟨k,rfl,hk,hf,hB⟩:=hrel
   have HF:=Lib.hid hf;clear hf
   by_cases hlt:k<S.sl.length
   ·have hx:=gEz hlt
    generalize S.sl[k]=x at hx
    have hA1:=hA.below hB
    have hSn:=hA1.sn k x hx
    obtain⟨⟨s0,s1,s2,s3⟩,_⟩:=hSn.cells
    obtain⟨av,cv,hxv⟩:=aC hSn.marks
    rw[hxv] at s2
    cases hh:x.s.held with
    |true =>
     obtain⟨W6,hs6,hc6,hb6⟩:=aBx wr ⟨⟨true,x.s.text,[],x.s.cursor⟩,.slice av x.s.marks.length cv⟩ rfl
     have hB6:=hB.trans (hb6.mono hB.size)
     go_wp2
     go_roundw
     case rel=>exact⟨k+1,by go_num,by omega,fun j hj y hy=>(by
      by_cases hjk:j=k
      ·subst hjk;rw[hx] at hy;injection hy with hy;subst hy;exact hh
      ·exact HF.out j (by omega) y hy),hB6⟩
     case measure=>simp[intOf];omega
    |false =>
     obtain⟨W6,hs6,hc6,hb6⟩:=aBx wr ⟨⟨false,x.s.text,[],x.s.cursor⟩,.slice av x.s.marks.length cv⟩ rfl
     have hB6:=hB.trans (hb6.mono hB.size)
     have hR:acqS M.st c=({ slot:=k,rev:=M.number },M.st.putSlot c k ⟨true,M.text,M.marks,0⟩):=by
      unfold acqS
      rw[if_neg (by show ¬ (M.closed=true);simp[hs]),e0]
      have hn:S.st.slots.findIdx? (fun s => !s.held)=some k:=by
       rw[List.findIdx?_eq_some_iff_getElem]
       have h2:S.st.slots.length=S.sl.length:=List.length_map ..
       have h3:∀ j (hj:j<S.st.slots.length),S.st.slots[j]=(S.sl[j]'(by omega)).s:=fun j hj=>List.getElem_map ..
       refine⟨by omega,?_,fun j hj => ?_⟩
       ·rw[h3]
        have:=(gLz hx).2
        rw[this,hh];rfl
       ·rw[h3 j (by omega)]
        have:=HF.out j hj _ (gEz (by omega))
        simp[this]
      rw[hn]
      rfl
     rw[hR]
     have hM6:=hM0.below hB6
     have hA6:=hA.below hB6
     have hE6:=hE.on hB6
     obtain⟨hbg,hgsg⟩:=g_ne hM6 hA6
     obtain⟨am,cm,hmv⟩:=aC hM6.marks
     have hm6:=hM6.marks
     rw[hmv] at hm6
     obtain⟨hrow,hcpm⟩:=bV rfl hm6
     have kx:∀ W,aF (fun k=>k=g) W6 W→W.cell? ⟨b,5,none⟩=some (.slice (some ⟨gs,0,none⟩) M.seats.length cs)∧W.cell? ⟨gs,c*2+1,none⟩=some (.slice (some ⟨g,0,none⟩) S.sl.length cp)∧W.cell? ⟨b,0,none⟩=some (.string M.text)∧W.cell? ⟨b,1,none⟩=some (.slice am M.marks.length cm):=fun W hW =>
      ⟨hW.cell hbg (hM6.c5 hA.sv),hW.cell hgsg hA6.c1,hW.cell hbg hM6.c0,hW.cell hbg (hM6.c1 hmv)⟩
     have Kx:=Lib.hid kx
     clear kx
     have hx0:aF (fun k=>k=g) W6 W6.drew:=(aF.refl _ _).drew
     clear hbg hgsg
     go_wp2
     refine aP (S:=fun W=>W.cell? ⟨b,5,none⟩=some (.slice (some ⟨gs,0,none⟩) M.seats.length cs)∧W.cell? ⟨gs,c*2+1,none⟩=some (.slice (some ⟨g,0,none⟩) S.sl.length cp)∧W.cell? ⟨b,0,none⟩=some (.string M.text)∧W.cell? ⟨b,1,none⟩=some (.slice am M.marks.length cm)) ?_ (fun hHeld => ?_)
     ·first | exact Kx.out _ hx3 | exact Kx.out _ hx7 | exact Kx.out _ hx0
     iterate 17 (((first | refine np_q ?_ | refine aL 0 ?_);(try simp only[nSO])))
     (refine np_c 17 (fun K hK => ?_);go_simp;((go_at_call 132;refine (fZ am cm M.marks _ (hrow.on (Below.refl _ _).drew) (by omega)).mono ?_;rintro e w7 ⟨v,rfl,hov,hb7⟩;obtain⟨an,cn,rfl⟩:=aC hov;have hb7':Below W6.heap.size W6 w7:=(Below.refl _ _).drew.trans hb7;have hx7:aF (fun k=>k=g) W6 w7:=aF.of_below hb7';have hsn:=((hA6.below hb7').sn k x hx).stP ⟨⟨true,M.text,[],0⟩,.slice an M.marks.length cn⟩ rfl));(try go_wp2_with fail);refine hK.out _ _ ?_ (fun hHeld => ?_);(· (first | exact Kx.out _ hx3 | exact Kx.out _ hx7 | exact Kx.out _ hx0));clear hK K;(try simp only[nSO]))
     iterate 2 ((refine np_q ?_;(try simp only[nSO])))
     (refine np_c 20 (fun K hK => ?_);go_simp;((have hx3:=hx7.trans (aF.putSn w7 g (k*4) ⟨⟨true,M.text,[],0⟩,.slice an M.marks.length cn⟩)));(try go_wp2_with fail);refine hK.out _ _ ?_ (fun hHeld => ?_);(· (first | exact Kx.out _ hx3 | exact Kx.out _ hx7 | exact Kx.out _ hx0));clear hK K;(try simp only[nSO]))
     refine np_z ?_
     have hM7:=hM6.below hb7'
     have hA7:=hA6.below hb7'
     have hE7:=hE6.on hb7'
     have hN8:=(hA7.sn k x hx).put (y:=⟨⟨true,M.text,M.marks,0⟩,.slice an M.marks.length cn⟩) (aV (Nat.zero_le _) hov)
     rw[sU w7 g (k*4) true M.text M.marks [] 0 (.slice an M.marks.length cn)] at hN8
     have hK8:=aF.putSn w7 g (k*4) ⟨⟨true,M.text,[],0⟩,.slice an M.marks.length cn⟩
     have hM8:=hM7.putSlot hS hA7 hx hN8 hK8
     have hz8:=(mZ w7 g (k*4) ⟨⟨true,M.text,[],0⟩,.slice an M.marks.length cn⟩ _ (aEg hA7.blk hE7.res).symm).trans hE7.res
     have hst:=aK hz8 rfl
     have d2:(putSn w7 g (k*4) ⟨⟨true,M.text,[],0⟩,.slice an M.marks.length cn⟩).cell? ⟨b,2,none⟩=some (.int .i64 M.number):=hM8.c2
     have hfp:M.fp b g := .inr (.inr ⟨S,mGz hS,by rw[hA7.v];rfl⟩)
     clear hHeld hsn Kx
     go_wp2
     exact⟨rfl,_,results_cell_row rfl _ _ _ _ _ _ _ rfl (setRow_heap _ _ _ _ _ _ hz8) Tryz.underlying51 rfl (by kernel_rfl),(by first | rfl | rw[hR]),_,hM8.row hz8 _,(by first | exact MM.putSlot_st hS | (rw[hR];exact MM.putSlot_st hS)),((aF.of_below hE7.bl).trans (hK8.fp (F:=M.fp b) hfp)).row hrB _,fun k hk => .inl (aF8 hS k hk)⟩
   ·have hR:acqS M.st c=(aS 15,M.st):=by
     unfold acqS
     rw[if_neg (by show ¬ (M.closed=true);simp[hs]),e0]
     have hn:S.st.slots.findIdx? (fun s => !s.held)=none:=by
      rw[List.findIdx?_eq_none_iff]
      intro s hsm
      obtain⟨x,hxm,rfl⟩:=List.mem_map.1 hsm
      obtain⟨j,hj,hxe⟩:=List.getElem_of_mem hxm
      have:=HF.out j (by omega) x (by rw[gEz hj,hxe])
      simp[this]
     rw[hn]
    rw[hR]
    have hE1:=hE.on hB
    go_wp2_with (go_at_call 99;refine (bT _ _).mono ?_;rintro e v7 ⟨rfl,hb7⟩;have hE7:=hE1.on hb7;have hst:=aK hE7.res rfl)
    exact⟨rfl,_,results_cell_row rfl _ _ _ _ _ _ _ rfl (setRow_heap _ _ _ _ _ _ hE7.res) Tryz.underlying51 rfl (by kernel_rfl),(by first | rfl | rw[hR]),M,((hM0.below hB).below hb7).row hE7.res _,(by first | rfl | rw[hR]),(aF.of_below hE7.bl).row hrB _,fun k hk => .inl hk⟩
end Go.Proofs.YtdeiocppghhfdaaGreat
namespace Go.Proofs.YtdeiocppghhfdaaGreat
open Go.RowKit Go.Lib Go.Shelf
theorem aLe (L:List SnM) (j:Nat) (y:SnM) (mv:Value) (h:L[j]? = some y):(slL L).set (j*4+2) mv=slL (L.set j ⟨y.s,mv⟩):=by
 obtain⟨hj,hy⟩:=gLz h
 have e:slL L=slL (L.take j)++(snL y++slL (L.drop (j+1))):=by
  conv=>lhs;rw[← List.take_append_drop j L,qI,List.drop_eq_getElem_cons hj,hy]
  rfl
 have e2:(slL (L.take j)).length=j*4:=by rw[gX,List.length_take,Nat.min_eq_left (by omega)]
 rw[e,List.set_append_right _ _ (by omega),e2,Nat.add_sub_cancel_left]
 show slL (L.take j)++(snL ⟨y.s,mv⟩++slL (L.drop (j+1)))=_
 rw[List.set_eq_take_append_cons_drop,if_pos hj,qI]
 rfl
theorem Bld.setMv {s:Nat} {W:World} {b gs n g cp:Nat} {M:MM} {D:List SeM} {u:Bool} {v mv:Value} {L:List SnM} (h:Bld s W b gs n M (D++[⟨u,v,L⟩])) (hv:v = .slice (some ⟨g,0,none⟩) L.length cp) {j:Nat} {y:SnM} (hy:L[j]? = some y) (hm:MOwn W 0 mv y.s.marks) :
  Bld s (W.setCell ⟨g,j*4+2,none⟩ mv) b gs n M (D++[⟨u,v,L.set j ⟨y.s,mv⟩⟩])∧aF (fun k=>k=g) W (W.setCell ⟨g,j*4+2,none⟩ mv)∧s≤g:=by
 have hk:aF (fun k=>k=g) W (W.setCell ⟨g,j*4+2,none⟩ mv):=aF.set (F:=fun k=>k=g) (a:=⟨g,j*4+2,none⟩) rfl _
 have hlast:=h.slots ⟨u,v,L⟩ (by simp)
 rw[hv] at hlast
 obtain⟨hj,_⟩:=gLz hy
 have hsg:=(World.ownsRow.lt hlast g rfl).1
 obtain⟨cur,hg⟩:∃ cur,W.heap[g]? = some (.cells cur 168 (0,0)):=by
  rcases hlast.2 with⟨e1,_⟩ | ⟨g',_,cu,e1,_,hg,_⟩
  ·injection e1 with e1;cases e1
  ·injection e1 with e1;injection e1 with e1;injection e1 with e1;subst e1;exact⟨cu,hg⟩
 have hkb:∀ k,k<W.heap.size→k≠g→(W.setCell ⟨g,j*4+2,none⟩ mv).heap[k]? = W.heap[k]? := fun k _ hn=>aG _ _ _ _ hn
 have hbg:b≠g:=fun e=>by subst e;have:=h.blk;rw[hg] at this;injection this with this;injection this with _ h2 _;exact absurd h2 (by decide)
 have hgg:gs≠g:=fun e=>by subst e;have:=h.seats;rw[hg] at this;injection this with this;injection this with _ h2 _;exact absurd h2 (by decide)
 have hlen:(D++[(⟨u,v,L.set j ⟨y.s,mv⟩⟩:SeM)]).length=(D++[(⟨u,v,L⟩:SeM)]).length:=by simp
 have hmap:(D++[(⟨u,v,L.set j ⟨y.s,mv⟩⟩:SeM)]).map (·.v.ownBlock)=(D++[(⟨u,v,L⟩:SeM)]).map (·.v.ownBlock):=by simp
 refine⟨⟨(aG _ _ _ _ hbg).trans h.blk,h.sv,aH h.marks hg (by decide) hkb,?_,by rw[hlen];exact h.len,?_,?_,?_,by rw[hmap];exact h.nodup⟩,hk,hsg⟩
 ·rw[hlen]
  have e:sesL (D++[(⟨u,v,L.set j ⟨y.s,mv⟩⟩:SeM)]++List.replicate (n-(D++[(⟨u,v,L⟩:SeM)]).length) zSe)=sesL (D++[(⟨u,v,L⟩:SeM)]++List.replicate (n-(D++[(⟨u,v,L⟩:SeM)]).length) zSe):=by
   rw[iT,iT,iT,iT];rfl
  rw[e]
  exact (aG _ _ _ _ hgg).trans h.seats
 ·intro S hS
  rcases List.mem_append.1 hS with h1 | h1
  ·refine rU (h.slots S (List.mem_append_left _ h1)) hk (fun e => ?_)
   have hnd:=h.nodup
   rw[List.map_append,List.nodup_append] at hnd
   exact hnd.2.2 S.v.ownBlock (List.mem_map.2 ⟨S,h1,rfl⟩) v.ownBlock (by simp) (by rw[e,hv];rfl)
  ·rw[List.mem_singleton.1 h1]
   show (W.setCell ⟨g,j*4+2,none⟩ mv).ownsRow s _ 4 v (L.set j ⟨y.s,mv⟩).length (slL (L.set j ⟨y.s,mv⟩))
   rw[List.length_set,← aLe L j y mv hy,hv]
   exact (mW hlast (j*4+2) (by omega) mv).1
 ·intro S hS x hx
  rcases List.mem_append.1 hS with h1 | h1
  ·exact aH (h.smarks S (List.mem_append_left _ h1) x hx) hg (by decide) hkb
  ·rw[List.mem_singleton.1 h1] at hx
   rcases bJ hx with rfl | ⟨d,_,hx⟩
   ·exact aH hm hg (by decide) hkb
   ·exact aH (h.smarks ⟨u,v,L⟩ (by simp) x (mGz hx)) hg (by decide) hkb
 ·intro S hS
  rcases List.mem_append.1 hS with h1 | h1
  ·exact h.some_ S (List.mem_append_left _ h1)
  ·rw[List.mem_singleton.1 h1];exact h.some_ ⟨u,v,L⟩ (by simp)
theorem aBz (L:List SnM) (h:∀ x∈L,x.mv.oneCell'=true):∀ v∈slL L,v.oneCell'=true:=by
 intro v hv2
 obtain⟨x,hx,hv3⟩:=List.mem_flatMap.1 hv2
 simp only[snL,List.mem_cons,List.not_mem_nil,or_false] at hv3
 rcases hv3 with rfl | rfl | rfl | rfl
 ·rfl
 ·rfl
 ·exact h x hx
 ·rfl
theorem aEm (g cp:Nat) (L:List SnM) (w:World) (hs:L.length≤1000) (hc:L.length≤cp) (hcells:∀ j u,(slL L)[j]? = some u→w.cell? ⟨g,j,none⟩=some u) (h1:∀ x∈L,x.mv.oneCell'=true) :
  Calls Tryz.prog 154 #[.slice (some ⟨g,0,none⟩) L.length cp] w fun e w'=>∃ v,e = .returned v∧w'.ownsRow w.heap.size 168 4 v L.length (slL L)∧v.ownBlock≠none∧Below w.heap.size w w':=by
 obtain⟨i0,hi0,hz0,hz1,hz2⟩:=info_parts aK8
 refine (AnyE.slices_Clone (P := Tryz.prog) Tryz.cloneS i0 _ 4 56 hi0 hz0 hz1 hz2 rfl (by decide) (fun w => Tryz.sizeOf168 w) g 0 L.length cp (slL L) w (gX L) (by unfold maxLen;omega) (by omega) (fun j u hj=>by rw[Nat.zero_add];exact hcells j u hj) (aBz L h1)).mono ?_
 rintro e w' ⟨v,rfl,ho,hne,hB⟩
 refine⟨v,rfl,ho,?_,hB⟩
 rcases ho.2 with⟨e1,_⟩ | ⟨g',_,_,e1,_⟩
 ·exact absurd e1 hne
 ·rw[e1];simp[Value.ownBlock]
end Go.Proofs.YtdeiocppghhfdaaGreat
