/- Texts, one behind another. -/
import Derived.Test.YtdeiocppghhfdaaGreatZfaj
import Derived.Test.YtdeiocppghhfdaaGreatZfak
set_option linter.unusedVariables false
set_option linter.unusedSimpArgs false
set_option maxRecDepth 100000
set_option maxHeartbeats 40000000
namespace Go.Proofs.YtdeiocppghhfdaaGreat
open Go.RowKit Go.Lib Go.Shelf
theorem wY {P : Program} (w : World) {o : Oper} {a : Act} {K : Act → World → Prop} {Q : Exit → Act → World → Prop} (d : Operand) (t : TypeId)
    (ho:o.op = .call { callee := .builtin .clear,args := #[d],argTypes := #[t] }) (v:Value) (hd:a.eval d=v) {v':Value} {w':World}
    (hr:(Builtin.clear_ #[t] o.type #[v]).run P w = .ok v' w') (h:K (a.put o.dst v') w'):o.wp P a w K Q:=by
  unfold Oper.wp execOp
  simp only[ho,resolve,invoke,builtin,Sem.run_bind,Sem.run_pure,Result.andThen_ok,List.map_toArray,List.map_cons,List.map_nil,hd,hr]
  exact h
theorem jV {P : Program} (w : World) {ops : Array Oper} {rest : List Oper} {o : Oper} {a : Act} {Q : Exit → Act → World → Prop} (hgd : o.guard = none) (d : Operand) (t : TypeId)
    (ho:o.op = .call { callee := .builtin .clear,args := #[d],argTypes := #[t] }) (v:Value) (hd:a.eval d=v) {v':Value} {w':World}
    (hr:(Builtin.clear_ #[t] o.type #[v]).run P w = .ok v' w') (h:wpList P ops Q rest (a.put o.dst v') w'):wpList P ops Q (o::rest) a w :=
  wpList_plain hgd fun _ hK=>wY w d t ho v hd hr (hK _ _ h)
theorem kR {P : Program} {ops : Array Oper} {o : Oper} {a : Act} {w : World} {K : Act → World → Prop} {Q : Exit → Act → World → Prop} {E : Prop}
    (hg:o.guard=none) (d x:Operand) (dT sT:TypeId) (hop:o.op=Op.call { callee:=Callee.builtin Builtin.append,args := #[d,x],argTypes := #[dT,sT] })
    (v u:Value) (hd:a.eval d=v) (hx:a.eval x=u) {v':Value} {w':World} (hr:(Builtin.append_ #[dT,sT] o.type #[v,u]).run P w = .ok v' w') (hK:K (a.put o.dst v') w') :
    if Region.wanted o (yielded ops a.tmps)=true then Oper.wp P o a w K Q else E:=by
  have hw:Region.wanted o (yielded ops a.tmps)=true:=by simp[Region.wanted,hg]
  rw[if_pos hw]
  unfold Oper.wp
  simp[execOp,hop,resolve,invoke,builtin,hd,hx,hr,Result.andThen]
  exact hK
theorem aEb (w : World) (ty : TypeId) (g o c : Nat) (cur : Array Value) (hg : w.heap[g]? = some (.cells cur 74 (0, 0))) (ho : o + 3 ≤ cur.size) :
    (Builtin.clear_ #[65] ty #[.slice (some ⟨g,o,none⟩) 1 c]).run Tryz.prog w = .ok (.tuple #[]) (w.setRow g (cur.toList.take o++mkL iY++cur.toList.drop (o+3)).toArray):=by
  have hst:=run_storeCells_at Tryz.prog g o 74 (mkL iY) 0 cur w hg (by simpa [dB] using ho) (mM _)
  have hz:(Builtin.zeroCells (Value.agg #[.int .u32 0,.int .i64 0,.int .u8 0]).cells 1).toList=mkL iY:=by kernel_rfl
  simp[Builtin.clear_,run_underlying Tryz.underlying65,Tryz.zeroValue74,hz,hst,dB]
def delL (l:List MkV) (i:Nat):List MkV:=l.take i++l.drop (i+1)
theorem aKr (l:List MkV) (i:Nat) (hi:i<l.length):(delL l i).length=l.length-1:=by
  unfold delL;simp;omega
theorem aH3 (cur : List Value) (l : List MkV) (i : Nat) (hi : i < l.length) (hc : cur.take (l.length * 3) = mksL l) (hl : l.length * 3 ≤ cur.length) (Z : List Value) (T : List Value) :
    ((cur.take (i*3)++(mksL l).drop ((i+1)*3)++T).take ((l.length-1)*3)++Z).take ((l.length-1)*3)=mksL (delL l i):=by
  have h1:(mksL l).drop ((i+1)*3)=mksL (l.drop (i+1)):=nQ l (i+1) (by omega)
  have h2:cur.take (i*3)=mksL (l.take i):=by
    rw[← nP l i (by omega),← hc,List.take_take,Nat.min_eq_left (by omega)]
  have hlen:(mksL (l.take i)++mksL (l.drop (i+1))).length=(l.length-1)*3:=by
    simp only[List.length_append,dH,List.length_take,List.length_drop];omega
  rw[h1,h2,List.take_left' (l₁:=mksL (l.take i)++mksL (l.drop (i+1))) hlen,List.take_left' hlen]
  unfold delL
  rw[eU]
theorem aEc (B g cap : Nat) (l : List MkV) (i : Nat) (w : World) (hown : MOwn w B (.slice (some ⟨g, 0, none⟩) l.length cap) l) (hs : l.length ≤ 1000) (hi : i < l.length) :
    Calls Tryz.prog 244 #[.slice (some ⟨g,0,none⟩) l.length cap,.int .i64 i,.int .i64 ((i:Int)+1)] w fun e w'=>∃ v',e = .returned v'∧MOwn w' B v' (delL l i)∧Below B w w':=by
  obtain⟨i0,hi0,hz0,hz1,hz2⟩:=info_parts mO
  obtain⟨cur,hBg,hg,hcn,hcm,hcs,hct⟩:∃ cur,B≤g∧w.heap[g]? = some (.cells cur 74 (0,0))∧l.length≤cap∧cap≤maxLen∧cur.size=cap*3∧cur.toList.take (l.length*3)=mksL l:=by
    rcases hown.2 with⟨h1,_⟩ | ⟨g',cap',cur,h1,hBg,hg,h2,h3,h4,h5⟩
    · injection h1 with h1;cases h1
    · injection h1 with h1 _ h6;injection h1 with h1;injection h1 with h1 _ _;subst h1;subst h6
      exact⟨cur,hBg,hg,h2,h3,h4,h5⟩
  have hcm':=hcm
  unfold maxLen at hcm'
  have hcl:cur.toList.length=cap*3:=by simpa using hcs
  have hfin:=aH3 cur.toList l i hi hct (by rw[hcl];omega)
  have hdl':=aKr l i hi
  generalize hn:l.length=n at *
  have hdl:((mksL l).drop ((i+1)*3)).length=(n-(i+1))*3:=by rw[List.length_drop,dH,hn];omega
  have hap:∀ ty c2 (A:Addr),(A=⟨g,(i+1)*3,none⟩∨n=i+1)→(Builtin.append_ #[65,65] ty #[.slice (some ⟨g,0,none⟩) i cap,.slice (some A) (n-(i+1)) c2]).run Tryz.prog w.drew = .ok (.slice (some ⟨g,0,none⟩) (n-1) cap) (w.drew.setRow g (cur.toList.take (i*3)++(mksL l).drop ((i+1)*3)++cur.toList.drop (i*3+((mksL l).drop ((i+1)*3)).length)).toArray):=fun ty c2 A hA=>by
    have h:=run_append_room (P := Tryz.prog) w.drew 65 ty 74 i0 Tryz.underlying65 hi0 g i cap cur hg A (n-(i+1)) c2 ((mksL l).drop ((i+1)*3)) (by rw[hz1,hdl]) (fun j u hj=>by
      have hjl:=(gLz hj).1
      rw[hdl] at hjl
      rcases hA with hA | hA
      rotate_left
      · omega
      subst hA
      rw[Addr.add_lit]
      rw[List.getElem?_drop,← hct,List.getElem?_take] at hj
      split at hj
      · simp only[World.cell?];rw[show w.drew.heap[g]? = _ from hg];simpa using hj
      · cases hj) (fun u hu=>nR l u (List.mem_of_mem_drop hu)) (by omega) (by rw[hz1,hdl,hcs];omega)
    rw[hz1,show i+(n-(i+1))=n-1 by omega] at h
    exact h
  generalize hC1:(cur.toList.take (i*3)++(mksL l).drop ((i+1)*3)++cur.toList.drop (i*3+((mksL l).drop ((i+1)*3)).length))=C1 at hap
  have hC1l:C1.length=cap*3:=by rw[← hC1];simp only[List.length_append,hdl,List.length_take,List.length_drop,hcl];omega
  have hcr:∀ (W:World),W.heap=(w.drew.setRow g C1.toArray).heap→∀ ty c,(Builtin.clear_ #[65] ty #[.slice (some ⟨g,(n-1)*3,none⟩) 1 c]).run Tryz.prog W = .ok (.tuple #[]) (W.setRow g (C1.take ((n-1)*3)++mkL iY++C1.drop ((n-1)*3+3)).toArray):=fun W hW ty c=>by
    exact aEb W ty g ((n-1)*3) c C1.toArray (by rw[hW];exact setRow_heap _ _ _ _ _ _ hg) (by simp only[List.size_toArray,hC1l];omega)
  have hf2:=hfin (mkL iY++C1.drop ((n-1)*3+3)) (cur.toList.drop (i*3+((mksL l).drop ((i+1)*3)).length))
  rw[hC1,← List.append_assoc] at hf2
  generalize hC2:C1.take ((n-1)*3)++mkL iY++C1.drop ((n-1)*3+3)=C2 at hcr hf2
  have hC2l:C2.length=cap*3:=by rw[← hC2];simp only[List.length_append,dB,List.length_take,List.length_drop,hC1l];omega
  have H:=Lib.hid (And.intro hf2 (And.intro hC2l hdl'));clear hf2 hC2l hdl' hfin hC2 hC1 hC1l hdl hcl hct hcs
  have mixed : Tryz.prog.follows Departure.mixedOrders=true:=by kernel_rfl
  have hd1:((i:Int) == (i:Int)+1)=false:=by simp;omega
  have htn:((i:Int)+1).toNat=i+1:=by omega
  have hb1:(0:Int)≤(i:Int)+1:=by omega
  have hb2:(i:Int)≤(i:Int)+1:=by omega
  have hb3:(i:Int)+1≤(n:Int):=by omega
  have hb4:(i:Int)≤(n:Int):=by omega
  have hb6:(n-1)+1=n:=by omega
  have hb7:¬ (cap=n-1):=by omega
  have hb8:((n-1:Nat):Int)≤(n:Int):=by omega
  have hb9:n-(n-1)=1:=by omega
  have hb10:i≤cap:=by omega
  by_cases hcap:cap=i+1
  · have hni:n=i+1:=by omega
    have hap2:=fun ty c2 A=>hap ty c2 A (.inr hni)
    clear hap
    subst hcap;subst hni
    simp only[Nat.add_sub_cancel,Nat.sub_self] at *
    go_enter Tryz.func244,Tryz.ntmps244
    go_wp2
    go_region_law_o (refine kR rfl _ _ 65 65 rfl (.slice (some ⟨g,0,none⟩) i (i+1)) (.slice (some ⟨g,0,none⟩) 0 0) (by simp[Act.eval,Act.put]) (by simp[Act.eval,Act.put]) (hap2 _ _ _) ?_)
    all_goals go_wp2_with (at_builtin;refine jV _ rfl _ 65 rfl _ rfl (hcr _ rfl _ _) ?_)
    all_goals go_returns
    all_goals
      obtain⟨h1,h2,h3⟩:=H.out
      refine⟨_,rfl,?_,bM (bM (Below.refl B w).drew hBg _) hBg _⟩
      unfold MOwn
      rw[h3]
      exact⟨by rw[dH,h3],.inr ⟨g,_,C2.toArray,rfl,hBg,setRow_heap _ _ _ _ _ _ (setRow_heap _ _ _ _ _ _ hg),by omega,hcm,by simpa using h2,h1⟩⟩
  · have hap2:=fun ty c2=>hap ty c2 _ (.inl rfl)
    go_enter Tryz.func244,Tryz.ntmps244
    go_wp2
    go_region_law_o (refine kR rfl _ _ 65 65 rfl (.slice (some ⟨g,0,none⟩) i cap) (.slice (some ⟨g,(i+1)*3,none⟩) (n-(i+1)) (cap-(i+1))) (by simp[Act.eval,Act.put]) (by simp[Act.eval,Act.put]) (hap2 _ _) ?_)
    all_goals go_wp2_with (at_builtin;refine jV _ rfl _ 65 rfl _ rfl (hcr _ rfl _ _) ?_)
    all_goals go_returns
    all_goals
      obtain⟨h1,h2,h3⟩:=H.out
      refine⟨_,rfl,?_,bM (bM (Below.refl B w).drew hBg _) hBg _⟩
      unfold MOwn
      rw[h3]
      exact⟨by rw[dH,h3],.inr ⟨g,_,C2.toArray,rfl,hBg,setRow_heap _ _ _ _ _ _ (setRow_heap _ _ _ _ _ _ hg),by omega,hcm,by simpa using h2,h1⟩⟩
theorem aOc {m:MkV} {l:List MkV} (h:l.Pairwise (fun a b=>a.id<b.id)) (hs:hasM m.id l=true):setM m l=l.take (idxM m.id l)++m::l.drop (idxM m.id l+1):=by
  obtain⟨q,_,_,h1,_⟩:=sP h hs
  unfold setM;rw[(iK m.id h).1,h1]
theorem aOd {m:MkV} {l:List MkV} (h:l.Pairwise (fun a b=>a.id<b.id)) (hs:hasM m.id l=false):setM m l=insL l (idxM m.id l) m:=by
  unfold setM insL;rw[(iK m.id h).1,(aKj h hs).1]
theorem aKs {id:Int} {l:List MkV} (h:l.Pairwise (fun a b=>a.id<b.id)) (hs:hasM id l=true):bP id l=delL l (idxM id l):=by
  obtain⟨q,_,_,h1,_⟩:=sP h hs
  rw[tY h];unfold delL;rw[(iK id h).1,h1]
theorem fZ (a : Option Addr) (c : Nat) (l : List MkV) (w : World) (hr : MRow w a l) (hs : l.length ≤ 1000) :
    Calls Tryz.prog 132 #[.slice a l.length c] w fun e w'=>∃ v,e = .returned v∧MOwn w' w.heap.size v l∧Below w.heap.size w w':=by
  obtain⟨i0,hi0,hz0,hz1,hz2⟩:=info_parts mO
  rcases hr with⟨rfl,rfl⟩ | ⟨b,off,rfl,hb,hc⟩
  · refine (AnyE.slices_Clone_nil (P := Tryz.prog) Tryz.cloneM _ _ _).mono ?_
    rintro e w' ⟨rfl,rfl⟩
    exact⟨_,rfl,World.ownsRow_nil _ _ _ _,Below.refl _ _⟩
  · refine (AnyE.slices_Clone (P := Tryz.prog) Tryz.cloneM i0 _ 3 24 hi0 hz0 hz1 hz2 rfl (by decide) (fun w => Tryz.sizeOf74 w) b off l.length c (mksL l) w (dH l) (by unfold maxLen;omega) (by omega) (fun j u hj => ?_) (nR l)).mono ?_
    · have hj3:j=j / 3*3+j % 3:=by omega
      have hm3:j % 3<3:=Nat.mod_lt _ (by decide)
      have h1:=uZ l (j / 3) (j % 3) hm3
      rw[← hj3,hj] at h1
      cases hq:l[j / 3]? with
      | none=>rw[hq] at h1;cases h1
      | some p=>rw[hq] at h1;have:=hc (j / 3) p hq (j % 3) u h1.symm;rwa [← hj3] at this
    · rintro e w' ⟨v,rfl,ho,_,hB⟩
      exact⟨v,rfl,ho,hB⟩
theorem mV (W:World) (m:MkV):MRow (W.alloc (.cells (mkL m).toArray 74)) (some ⟨W.heap.size,0,none⟩) [m]:=by
  have h:=heap_alloc_new W (.cells (mkL m).toArray 74)
  refine .inr ⟨W.heap.size,0,rfl,by rw[World.size_alloc];exact Nat.lt_succ_self _,fun k p hp i u hu => ?_⟩
  cases k with
  | zero =>
    have hpm:m=p:=by injection hp
    subst hpm
    have h2:=kQ h i u hu
    rw[Addr.add_lit] at h2
    rw[Nat.zero_mul]
    simpa only[Nat.zero_add] using h2
  | succ k=>cases hp
theorem zQ {w w1 w2:World} {m:MkV} {cs:Array Value} {T:TypeId} {k:Nat} (hB1:Below w.heap.size w w1) (hp1:w1.heap[k]? = some (.cells cs T (0,0))) (hB2:Below (w1.alloc (.cells (mkL m).toArray 74)).heap.size (w1.alloc (.cells (mkL m).toArray 74)) w2):Below w.heap.size w w2∧w2.heap[k]? = some (.cells cs T (0,0)):=by
  have hs:=hB1.size
  have hl:=(gAz hp1).1
  refine⟨(hB1.alloc hs _).trans (hB2.mono (by rw[World.size_alloc];omega)),(hB2.block _ (by rw[World.size_alloc];omega)).trans ((heap_alloc_old _ _ hl).trans hp1)⟩
theorem aI {w w':World} {B s n:Nat} {e:TypeId} {v:Value} {xs:List Value} (h:w.ownsRow B e s v n xs) (hb:Below w.heap.size w w'):w'.ownsRow B e s v n xs:=by
  refine⟨h.1,?_⟩
  rcases h.2 with hn | ⟨g,cap,cur,rfl,hB,hg,rest⟩
  · exact .inl hn
  · exact .inr ⟨g,cap,cur,rfl,hB,(hb.block g (gAz hg).1).trans hg,rest⟩
theorem aBk {w:World} {B:Nat} {v:Value} {l:List MkV} (h:MOwn w B v l) (hp:0<l.length):∃ g cp cur,v = .slice (some ⟨g,0,none⟩) l.length cp∧w.heap[g]? = some (.cells cur 74 (0,0))∧l.length≤cp∧cur.size=cp*3:=by
  rcases h.2 with⟨_,h0⟩ | ⟨g,cap,cur,rfl,hB,hg,h1,h2,h3,h4⟩
  · omega
  · exact⟨g,cap,cur,rfl,hg,h1,h3⟩
theorem row3 {w:World} {g:Nat} {cur:Array Value} {T:TypeId} (hg:w.heap[g]? = some (.cells cur T (0,0))) (o:Nat) (ho:o+3≤cur.size):∃ u0 u1 u2,w.cell? ⟨g,o,none⟩=some u0∧w.cell? ⟨g,o+1,none⟩=some u1∧w.cell? ⟨g,o+2,none⟩=some u2∧w.frozen? ⟨g,o,none⟩=false∧w.frozen? ⟨g,o+1,none⟩=false∧w.frozen? ⟨g,o+2,none⟩=false:=by
  have hc:∀ j,j<cur.size→w.cell? ⟨g,j,none⟩=some cur[j]! := fun j hj=>by simp[World.cell?,hg,hj]
  exact⟨_,_,_,hc o (by omega),hc (o+1) (by omega),hc (o+2) (by omega),by simp[World.frozen?,hg],by simp[World.frozen?,hg],by simp[World.frozen?,hg]⟩
theorem aKt {w : World} {g : Nat} {cur : Array Value} {T : TypeId} (hg : w.heap[g]? = some (.cells cur T (0, 0))) (o : Nat) (ho : o + 3 ≤ cur.size) (u v x : Value) (h1 : u.oneCell' = true) (h2 : v.oneCell' = true) (h3 : x.oneCell' = true) :
    ((w.setCell ⟨g,o,none⟩ u).setCell ⟨g,o+1,none⟩ v).setCell ⟨g,o+2,none⟩ x=w.setRow g (cur.toList.take o++[u,v,x]++cur.toList.drop (o+3)).toArray:=by
  have hon:∀ y∈[u,v,x],y.oneCell'=true:=by
    intro y hy
    simp only[List.mem_cons,List.not_mem_nil,or_false] at hy
    rcases hy with rfl | rfl | rfl<;>assumption
  have e1:=run_storeCells_at Tryz.prog g o T [u,v,x] 0 cur w hg (by simpa using ho) hon
  have e2:=run_storeCells_cells (P := Tryz.prog) g o [u,v,x] 0 w (fun j hj=>by
    have:o+j<cur.size:=by simp at hj;omega
    simp[World.cell?,hg,this]) (fun j hj=>by simp[World.frozen?,hg]) hon
  rw[e1] at e2
  injection e2 with _ e2
  exact e2.symm
theorem aKu {w:World} {B s n n' g cp:Nat} {e:TypeId} {xs:List Value} (h:w.ownsRow B e s (.slice (some ⟨g,0,none⟩) n' cp) n xs):B≤g:=by
  rcases h.2 with⟨h1,_⟩ | ⟨g',_,_,h1,hB,_⟩
  · injection h1 with h1;cases h1
  · injection h1 with h1;injection h1 with h1;injection h1 with h1;rw[h1];exact hB
theorem aOe {w : World} {B g cp : Nat} {l : List MkV} {cur : Array Value} (h : MOwn w B (.slice (some ⟨g, 0, none⟩) l.length cp) l) (hg : w.heap[g]? = some (.cells cur 74 (0, 0))) (i : Nat) (hi : i < l.length) (m : MkV) :
    (w.setRow g (cur.toList.take (i*3)++mkL m++cur.toList.drop (i*3+3)).toArray).ownsRow B 74 3 (.slice (some ⟨g,0,none⟩) l.length cp) l.length (mksL (l.take i++m::l.drop (i+1))):=by
  have hlen:(l.take i++m::l.drop (i+1)).length=l.length:=by simp;omega
  rcases h.2 with⟨h1,_⟩ | ⟨g',cap',cur',h1,hB,hg',h2,h3,h4,h5⟩
  · injection h1 with h1;cases h1
  · injection h1 with h1 _ h6;injection h1 with h1;injection h1 with h1 _ _;subst h1;subst h6
    rw[hg] at hg';injection hg' with hg';injection hg' with hg' _ _;subst hg'
    have hcl:cur.toList.length=cp*3:=by simpa using h4
    refine⟨by rw[dH,hlen],.inr ⟨g,cp,_,rfl,hB,setRow_heap _ _ _ _ _ _ hg,h2,h3,?_,?_⟩⟩
    · simp only[List.size_toArray,List.length_append,List.length_take,List.length_drop,dB,hcl];omega
    · show (cur.toList.take (i*3)++mkL m++cur.toList.drop (i*3+3)).take (l.length*3)=_
      have e1:cur.toList.take (i*3)=mksL (l.take i):=by rw[← nP l i (by omega),← h5,List.take_take,Nat.min_eq_left (by omega)]
      have e2:(cur.toList.drop (i*3+3)).take ((l.length-(i+1))*3)=mksL (l.drop (i+1)):=by
        rw[← nQ l (i+1) (by omega),← h5,List.drop_take,show (i+1)*3=i*3+3 by omega,show l.length*3-(i*3+3)=(l.length-(i+1))*3 by omega]
      rw[eU,show m::l.drop (i+1)=[m]++l.drop (i+1) from rfl,eU,mK,← e1,← e2,← List.append_assoc]
      have e3:(cur.toList.take (i*3)++mkL m).length=(i+1)*3:=by rw[List.length_append,dB,List.length_take,hcl];omega
      rw[List.take_append,e3,List.take_of_length_le (by omega)]
      congr 2
      omega
def bigN:Int:=9223372036854775807
theorem jM:0≤bigN:=by unfold bigN;omega
theorem aKv (a : Option Addr) (c : Nat) (l : List MkV) (m : MkV) (w : World) (hr : MRow w a l) (hok : MkOK bigN l) (hm : MkIn bigN m) (hl : hasM m.id l = true ∨ l.length < 64) :
    Calls Tryz.prog 194 #[.slice a l.length c,.agg #[.int .u32 m.id,.int .i64 m.at_,.int .u8 m.grav]] w fun e w'=>∃ v,e = .returned (.tuple #[v,.int .i64 0])∧MOwn w' w.heap.size v (setM m l)∧Below w.heap.size w w':=by
  have h64:=hok.1
  have hr':=fun W (hB:Below w.heap.size w W)=>hr.on hB
  have hc1:=fun W (hB:Below w.heap.size w W)=>fJ a c bigN l W (hr.on hB) hok jM
  have hBa:=(Below.refl w.heap.size w).alloc (Nat.le_refl _) (.cells #[.int .u32 m.id,.int .i64 m.at_,.int .u8 m.grav] 74)
  have hpw:=hok.2.1
  have hok1:MkOK bigN [m]:=⟨by simp,by simp,fun x hx=>by rw[List.mem_singleton.1 hx];exact hm⟩
  have hl:=Lib.hid hl;have hok:=Lib.hid hok;have hm:=Lib.hid hm
  clear hr
  cases hs:hasM m.id l with
  | true =>
    have hset:=Lib.hid (aOc hpw hs)
    obtain⟨q,hq,_⟩:=sP hpw hs
    have hix:=(gLz hq).1
    have hpos:0<l.length:=by omega
    go_enter Tryz.func194,Tryz.ntmps194
    go_wp2_with (first | (go_at_call 241;refine (hc1 _ hBa).mono ?_;rintro e w1 ⟨rfl,hB1'⟩;have hB1:=hBa.trans (hB1'.mono hBa.size);have hp1:=(hB1'.block _ (by simp)).trans (heap_alloc_new w (.cells #[.int .u32 m.id,.int .i64 m.at_,.int .u8 m.grav] 74));obtain⟨m0,m1,m2⟩:=cZ hp1;clear hc1) | (go_at_call 241;refine (fJ (some ⟨_,0,none⟩) 1 bigN [m] _ (mV _ m) hok1 jM).mono ?_;rintro e w2 ⟨rfl,hB2⟩;obtain⟨hB3,hp2⟩:=zQ hB1 hp1 hB2) | (go_at_call 132;refine (fZ a c l _ (hr' _ hB3) (by omega)).mono ?_;rintro e w3 ⟨v,rfl,ho,hB4⟩;have hp3:=(hB4.block _ (gAz hp2).1).trans hp2;obtain⟨n0,n1,n2⟩:=cZ hp3;obtain⟨g,cp,cur,rfl,hg3,hcur⟩:=aBk ho hpos;obtain⟨hrow,hcp⟩:=bV rfl ho;have hB5:=hB3.trans (hB4.mono hB3.size)) | (go_at_call 242;refine (kM (some ⟨g,0,none⟩) cp l m.id _ hrow hpw (by omega) hcp).mono ?_;rw[hs];rintro e w4 ⟨rfl,hB6⟩;have hp4:=(hB6.block _ (gAz hp3).1).trans hp3;obtain⟨k0,k1,k2⟩:=cZ hp4;have hg4:=(hB6.block _ (gAz hg3).1).trans hg3;obtain⟨u0,u1,u2,e0,e1,e2,y0,y1,y2⟩:=row3 hg4 (idxM m.id l*3) (by have:=hcur.1;have:=hcur.2;omega);have hB7:=hB5.trans (hB6.mono hB5.size)))
    go_returns
    have ho4:=aI ho hB6
    rw[aKt hg4 (idxM m.id l*3) (by have:=hcur.1;have:=hcur.2;omega) _ _ _ rfl rfl rfl]
    refine⟨_,rfl,?_,bM hB7 (Nat.le_trans hB3.size (aKu ho)) _⟩
    have hrow:=aOe ho4 hg4 (idxM m.id l) hix m
    unfold MOwn
    rw[hset.out]
    have hlen:(l.take (idxM m.id l)++m::l.drop (idxM m.id l+1)).length=l.length:=by simp;omega
    rw[hlen]
    exact aV hB3.size hrow
  | false =>
    have hset:=Lib.hid (aOd hpw hs)
    have hlt : l.length < 64 := by rcases hl.out with h | h; · rw [hs] at h; cases h
                                   · exact h
    have hd64:((l.length:Int) == 64)=false:=by simp;omega
    go_enter Tryz.func194,Tryz.ntmps194
    go_wp2_with (first | (go_at_call 241;refine (hc1 _ hBa).mono ?_;rintro e w1 ⟨rfl,hB1'⟩;have hB1:=hBa.trans (hB1'.mono hBa.size);have hp1:=(hB1'.block _ (by simp)).trans (heap_alloc_new w (.cells #[.int .u32 m.id,.int .i64 m.at_,.int .u8 m.grav] 74));obtain⟨m0,m1,m2⟩:=cZ hp1;clear hc1) | (go_at_call 241;refine (fJ (some ⟨_,0,none⟩) 1 bigN [m] _ (mV _ m) hok1 jM).mono ?_;rintro e w2 ⟨rfl,hB2⟩;obtain⟨hB3,hp2⟩:=zQ hB1 hp1 hB2) | (go_at_call 132;refine (fZ a c l _ (hr' _ hB3) (by omega)).mono ?_;rintro e w3 ⟨v,rfl,ho,hB4⟩;have hp3:=(hB4.block _ (gAz hp2).1).trans hp2;obtain⟨n0,n1,n2⟩:=cZ hp3;obtain⟨ao,cp,rfl⟩:=aC ho;obtain⟨hrow,hcp⟩:=bV rfl ho;have hB5:=hB3.trans (hB4.mono hB3.size)) | (go_at_call 242;refine (kM ao cp l m.id _ hrow hpw (by omega) hcp).mono ?_;rw[hs];rintro e w4 ⟨rfl,hB6⟩;have hp4:=(hB6.block _ (gAz hp3).1).trans hp3;obtain⟨k0,k1,k2⟩:=cZ hp4;have ho4:=aI ho hB6;have hB7:=hB5.trans (hB6.mono hB5.size)) | (go_at_call 243;refine (aD9 w.heap.size _ _ l _ m _ (aV hB3.size (ho4.alloc _)) (heap_alloc_new w4 (.cells (mkL m).toArray 74)) (by omega) (aFw _ _) (by have:=hB7.size;simp;omega) (fun e=>by have:=(ho4.lt _ e.symm).2;omega)).mono ?_;rintro e w5 ⟨v',rfl,ho5,hB8⟩;obtain⟨ao5,cp5,rfl⟩:=aC ho5))
    go_returns
    refine⟨_,rfl,?_,(hB7.alloc hB7.size _).trans hB8⟩
    unfold MOwn
    rw[hset.out]
    exact ho5
theorem aH4 (a : Option Addr) (c : Nat) (l : List MkV) (id : Int) (w : World) (hr : MRow w a l) (hok : MkOK bigN l) (hc : l.length ≤ c) (hs : hasM id l = true) :
    Calls Tryz.prog 196 #[.slice a l.length c,.int .u32 id] w fun e w'=>∃ v,e = .returned (.tuple #[v,.int .i64 0])∧MOwn w' w.heap.size v (bP id l)∧Below w.heap.size w w':=by
  have h64:=hok.1
  have hc1:=fJ a c bigN l w hr hok jM
  have hr':=fun W (hB:Below w.heap.size w W)=>hr.on hB
  have hpw:=hok.2.1
  obtain⟨q,hq,_⟩:=sP hpw hs
  have hix:=(gLz hq).1
  have hset:=Lib.hid (aKs hpw hs)
  have hw1:IntKind.i64.wrap ((idxM id l:Int)+1)=(idxM id l:Int)+1:=IntWalk.i64_in _ (by omega)
  have hok:=Lib.hid hok
  clear hr hq
  go_enter Tryz.func196,Tryz.ntmps196
  go_wp2_with (first | (go_at_call 241;refine hc1.mono ?_;rintro e w1 ⟨rfl,hB1⟩) | (go_at_call 242;refine (kM a c l id _ (hr' _ hB1) hpw (by omega) hc).mono ?_;rw[hs];rintro e w2 ⟨rfl,hB2⟩;have hB3:=hB1.trans (hB2.mono hB1.size)) | (go_at_call 132;refine (fZ a c l _ (hr' _ hB3) (by omega)).mono ?_;rintro e w3 ⟨v,rfl,ho,hB4⟩;obtain⟨g,cp,cur,rfl,hg3,hcur⟩:=aBk ho (by omega);have hB5:=hB3.trans (hB4.mono hB3.size)) | (go_at_call 244;refine (aEc w.heap.size g cp l _ _ (aV hB3.size ho) (by omega) hix).mono ?_;rintro e w4 ⟨v',rfl,ho4,hB6⟩;obtain⟨ao5,cp5,rfl⟩:=aC ho4))
  go_returns
  refine⟨_,rfl,?_,hB5.trans hB6⟩
  unfold MOwn
  rw[hset.out]
  exact ho4
def ShI (w:World) (d:List PcV) (l:List MkV) (ao:Option Addr) (cp:Nat) (i:Value) (wr:World):Prop :=
  ∃ k:Nat,i = .int .i64 k∧k≤l.length∧wr.ownsRow w.heap.size 74 3 (.slice ao l.length cp) l.length (mksL ((bI d l).take k++l.drop k))∧Below w.heap.size w wr
theorem mW {w:World} {B g cp s n:Nat} {e:TypeId} {xs:List Value} (h:w.ownsRow B e s (.slice (some ⟨g,0,none⟩) n cp) n xs) (j:Nat) (hj:j<n*s) (u:Value):(w.setCell ⟨g,j,none⟩ u).ownsRow B e s (.slice (some ⟨g,0,none⟩) n cp) n (xs.set j u)∧w.frozen? ⟨g,j,none⟩=false:=by
  rcases h.2 with⟨h1,_⟩ | ⟨g',cap',cur,h1,hB,hg,h2,h3,h4,h5⟩
  · injection h1 with h1;cases h1
  · injection h1 with h1 _ h6;injection h1 with h1;injection h1 with h1 _ _;subst h1;subst h6
    refine⟨⟨by rw[List.length_set];exact h.1,.inr ⟨g,cp,cur.setIfInBounds j u,rfl,hB,by simp[World.setCell,Array.getElem?_modify,hg],h2,h3,by simpa using h4,?_⟩⟩,by simp[World.frozen?,hg]⟩
    rw[← h5,Array.toList_setIfInBounds,List.take_set]
theorem aKw (A:List MkV) (m:MkV) (R:List MkV) (p:Int):(mksL (A++m::R)).set (A.length*3+1) (.int .i64 p)=mksL (A++{ m with at_:=p }::R):=by
  have e:∀ x:MkV,mksL (A++x::R)=mksL A++(mkL x++mksL R):=fun x=>by rw[eU,show x::R=[x]++R from rfl,eU,mK]
  rw[e,e,List.set_append_right _ _ (by rw[dH];omega),dH,Nat.add_sub_cancel_left,List.set_append_left _ _ (by rw[dB];omega)]
  rfl
theorem aOf {w wr : World} {d : List PcV} {l : List MkV} {ao : Option Addr} {cp k : Nat} {m : MkV} (h : wr.ownsRow w.heap.size 74 3 (.slice ao l.length cp) l.length (mksL ((bI d l).take k ++ l.drop k))) (hlt : k < l.length) (hm : l[k]? = some m) :
    ∃ g,ao=some ⟨g,0,none⟩∧wr.cell? ⟨g,k*3+1,none⟩=some (.int .i64 m.at_)∧wr.cell? ⟨g,k*3+2,none⟩=some (.int .u8 m.grav)∧wr.frozen? ⟨g,k*3+1,none⟩=false ∧
      ∀ W:World,Below wr.heap.size wr W→W.cell? ⟨g,k*3+1,none⟩=some (.int .i64 m.at_)∧W.frozen? ⟨g,k*3+1,none⟩=false∧(W.setCell ⟨g,k*3+1,none⟩ (.int .i64 (posS d m.at_ m.grav))).ownsRow w.heap.size 74 3 (.slice ao l.length cp) l.length (mksL ((bI d l).take (k+1)++l.drop (k+1))):=by
  have hsl:(bI d l).length=l.length:=by unfold bI;simp
  obtain⟨h1,h2⟩:=gLz hm
  have hdr:l.drop k=m::l.drop (k+1):=by rw[List.drop_eq_getElem_cons h1,h2]
  have htl:((bI d l).take k).length=k:=by rw[List.length_take,hsl];omega
  have hsm:(bI d l).take (k+1)=(bI d l).take k++[{ m with at_:=posS d m.at_ m.grav }]:=by
    rw[List.take_add_one]
    congr 1
    unfold bI
    rw[List.getElem?_map,hm]
    rfl
  rcases h.2 with⟨h3,h4⟩ | ⟨g,cap',cur,h3,hB,hg,_⟩
  · omega
  injection h3 with h3 _ h6
  subst h3;subst h6
  have hget:∀ i u,(mkL m)[i]? = some u→wr.cell? ⟨g,k*3+i,none⟩=some u:=fun i u hu=>by
    have hi:i<3:=by have:=(gLz hu).1;rwa [dB] at this
    have h7:=uZ ((bI d l).take k++l.drop k) k i hi
    rw[hdr,List.getElem?_append_right (by omega),htl,Nat.sub_self,List.getElem?_cons_zero] at h7
    have h8:=h.cells (g:=g) rfl (k*3+i) u (by rw[hdr,h7];exact hu)
    rw[Addr.add_lit,Nat.zero_add] at h8
    exact h8
  refine⟨g,rfl,hget 1 _ rfl,hget 2 _ rfl,(mW h (k*3+1) (by omega) (.int .i64 0)).2,fun W hW => ?_⟩
  have hown:=aI h hW
  obtain⟨h9,h10⟩:=mW hown (k*3+1) (by omega) (.int .i64 (posS d m.at_ m.grav))
  refine⟨(hW.cell (p:=⟨g,k*3+1,none⟩) (gAz hg).1).trans (hget 1 _ rfl),h10,?_⟩
  have h11:=aKw ((bI d l).take k) m (l.drop (k+1)) (posS d m.at_ m.grav)
  rw[htl] at h11
  rw[hdr,h11] at h9
  rw[hsm,List.append_assoc]
  exact h9
theorem aEd (a ad : Option Addr) (c cd : Nat) (l : List MkV) (d : List PcV) (w : World) (hr : MRow w a l) (hd : PRow w ad d) (hok : MkOK (lenS d).1 l) (hds : d.length ≤ 4096) (hdc : d.length ≤ cd) (hl : (lenS d).2.2 = 0) (h0 : 0 ≤ (lenS d).1) (hin : (lenS d).1 ≤ 1048576) :
    Calls Tryz.prog 240 #[.slice a l.length c,.slice ad d.length cd] w fun e w'=>∃ v,e = .returned (.tuple #[v,.int .i64 0])∧MOwn w' w.heap.size v (bI d l)∧Below w.heap.size w w':=by
  have h64:=hok.1
  have hln:=mJ ad cd d w hd (by omega) hdc
  rw[hl] at hln
  have hc1:=fun W (hB:Below w.heap.size w W)=>fJ a c (lenS d).1 l W (hr.on hB) hok h0
  have hcl:=fun W (hB:Below w.heap.size w W)=>fZ a c l W (hr.on hB) (by omega)
  have hps:=fun W (hB:Below w.heap.size w W) p g (h1:0≤p) (h2:p≤(lenS d).1) (h3:g=0∨g=1)=>zP ad cd d p g W (hd.on hB) hds hdc hl h1 h2 hin h3
  have hok:=Lib.hid hok
  clear hr hd h0 hin hl
  go_enter Tryz.func240,Tryz.ntmps240
  go_wp2_with (first | (go_at_call 111;refine hln.mono ?_;rintro e w1 ⟨rfl,hB1⟩) | (go_at_call 241;refine (hc1 _ hB1).mono ?_;rintro e w2 ⟨rfl,hB2⟩;have hB3:=hB1.trans (hB2.mono hB1.size)) | (go_at_call 132;refine (hcl _ hB3).mono ?_;rintro e w3 ⟨v,rfl,ho,hB4⟩;obtain⟨ao,cp,rfl⟩:=aC ho;have hB5:=hB3.trans (hB4.mono hB3.size)))
  have hB6:Below w.heap.size w w3:=hB5
  have hrow0:ShI w d l ao cp (.int .i64 0) w3:=⟨0,rfl,by omega,by simpa using aV hB3.size ho,hB5⟩
  clear ho hB4 hc1 hcl hln
  go_loopw [4,5,8,11,31,32,33,34,35,36,37,38,39,40,41,42,43,44,45,46,47,48,49,50,51,52,53,54,55,56] (fun x4 x5 x8 x11 i x32 x33 x34 x35 x36 x37 x38 x39 x40 x41 x42 x43 x44 x45 x46 x47 x48 x49 x50 x51 x52 x53 x54 x55 x56 wr=>ShI w d l ao cp i wr) (fun x4 x5 x8 x11 i x32 x33 x34 x35 x36 x37 x38 x39 x40 x41 x42 x43 x44 x45 x46 x47 x48 x49 x50 x51 x52 x53 x54 x55 x56 wr=>l.length-(intOf i).toNat)
  case atStart=>exact hrow0
  case round =>
    obtain⟨k,rfl,hk,hown,hB⟩:=hrel
    by_cases hlt:k<l.length
    · have hp:l[k]? = some l[k]:=gEz hlt
      generalize l[k]=m at hp
      obtain⟨_,_,i3,i4,i5⟩:=(hok.out.get hp).1
      obtain⟨g,rfl,c1,c2,f1,hset⟩:=aOf hown hlt hp
      have hgB:=aKu hown
      have hBd:Below w.heap.size w wr.drew:=hB.drew
      go_wp2
      go_region_with (go_at_call 278;refine (hps _ hBd m.at_ m.grav i4 i5 i3).mono ?_;rintro e w4 ⟨rfl,hB4⟩;obtain⟨e1,e2,e3⟩:=hset w4 ((Below.refl _ wr).drew.trans hB4))
      all_goals go_wp2
      all_goals (exact⟨⟨k+1,by go_num,by omega,e3,((hB.drew).trans (hB4.mono hB.size)).setCell (p:=⟨g,k*3+1,none⟩) hgB _⟩,by simp[intOf];omega⟩)
    · go_wp2
      go_returns
      have hkk:k=l.length:=by omega
      subst hkk
      refine⟨_,rfl,?_,hB⟩
      unfold MOwn
      have hsl:(bI d l).length=l.length:=by unfold bI;simp
      rw[hsl]
      rw[List.drop_length,List.append_nil,List.take_of_length_le (by omega)] at hown
      exact hown
end Go.Proofs.YtdeiocppghhfdaaGreat
namespace Go.Proofs.YtdeiocppghhfdaaGreat
structure SnV where
 held:Bool
 text:ByteArray
 marks:List MkV
 cursor:Int
deriving Inhabited
def jN:SnV:=⟨false,⟨#[]⟩,[],0⟩
structure SeV where
 sub:Bool
 slots:List SnV
deriving Inhabited
structure MS where
 text:ByteArray
 marks:List MkV
 number:Int
 closed:Bool
 readers:Nat
 seats:List SeV
structure ResV where
 err:Int:=0
 rev:Int:=0
 slot:Int:=0
 at_:Int:=0
 grav:Int:=0
 text:ByteArray:=⟨#[]⟩
 m1:Int:=0
 m2:Int:=0
 m3:Int:=0
def aS (e:Int):ResV:={ err:=e }
def bndE (t:ByteArray) (n:Int):Int:=if (t.size:Int)<n then 3 else if bndB t.data.toList n then 0 else 12
def repT (t:ByteArray) (a n:Int) (x:ByteArray):ByteArray:=⟨(t.data.toList.take a.toNat++x.data.toList++t.data.toList.drop (a+n).toNat).toArray⟩
def cutT (t:ByteArray) (a n:Int):ByteArray:=⟨((t.data.toList.drop a.toNat).take n.toNat).toArray⟩
def lK (st:MS):ResV × MS:=({ rev:=st.number+1 },{ st with number:=st.number+1 })
def repS (st:MS) (a n:Int) (x:ByteArray):ResV × MS:=lK { st with text:=repT st.text a n x,marks:=bI (repD st.text.size a n x) st.marks }
def insE (st:MS) (o:OpV):Int:=if st.closed then 13 else if bndE st.text o.at_≠0 then bndE st.text o.at_ else if 65536<(st.text.size:Int)+o.text.size then 5 else 0
def insS (st:MS) (o:OpV):ResV × MS:=if insE st o≠0 then (aS (insE st o),st) else repS st o.at_ 0 o.text
def delE (st:MS) (o:OpV):Int:=if st.closed then 13 else if (st.text.size:Int)<o.at_∨(st.text.size:Int)-o.at_<o.n then 3 else if bndE st.text o.at_≠0 then bndE st.text o.at_ else bndE st.text (o.at_+o.n)
def delS (st:MS) (o:OpV):ResV × MS:=if delE st o≠0 then (aS (delE st o),st) else repS st o.at_ o.n ⟨#[]⟩
def setE (st:MS) (o:OpV):Int:=if st.closed then 13 else bndE st.text o.at_
def setS (st:MS) (o:OpV):ResV × MS:=if setE st o≠0 then (aS (setE st o),st) else if hasM o.id st.marks=true∨st.marks.length<64 then lK { st with marks:=setM ⟨o.id,o.at_,o.grav⟩ st.marks } else (aS 20,st)
def drpS (st:MS) (o:OpV):ResV × MS:=if st.closed then (aS 13,st) else if hasM o.id st.marks then lK { st with marks:=bP o.id st.marks } else (aS 7,st)
def MS.seat (st:MS) (c:Nat):SeV:=st.seats.getD c default
def MS.put (st:MS) (c:Nat) (s:SeV):MS:={ st with seats:=st.seats.set c s }
def MS.putSlot (st:MS) (c k:Nat) (x:SnV):MS:=st.put c { st.seat c with slots:=(st.seat c).slots.set k x }
def acqS (st:MS) (c:Nat):ResV × MS :=
 if st.closed then (aS 13,st) else
 match (st.seat c).slots.findIdx? (fun s => !s.held) with
 |none=>(aS 15,st)
 |some k=>({ slot:=k,rev:=st.number },st.putSlot c k ⟨true,st.text,st.marks,0⟩)
def subS (st:MS) (c:Nat):ResV × MS:=if (st.seat c).sub then (aS 18,st) else if st.closed then (aS 13,st) else ({ rev:=st.number },st.put c { st.seat c with sub:=true })
def recS (st:MS) (c:Nat):ResV × MS:=if !(st.seat c).sub then (aS 19,st) else if st.closed then (aS 13,st) else (aS 17,st)
def cloS (st:MS):ResV × MS:=if st.closed then (aS 13,st) else ({},{ st with closed:=true })
def snpS (s:SnV) (o:OpV):ResV × SnV :=
 if o.kind=6 then ({ m1:=s.text.size,m2:=cntB begB s.text.data.toList,m3:=cntB bY s.text.data.toList },s)
 else if o.kind=7 then (if (s.text.size:Int)<o.at_∨(s.text.size:Int)-o.at_<o.n then (aS 3,s) else ({ text:=cutT s.text o.at_ o.n },s))
 else if o.kind=8 then ({ err:=(dW s.text.data.toList o.n).2,at_:=(dW s.text.data.toList o.n).1 },s)
 else if o.kind=9 then ({ err:=(dX s.text.data.toList o.n).2,at_:=(dX s.text.data.toList o.n).1 },s)
 else if o.kind=10 then (match iD o.id s.marks with | none=>(aS 7,s) | some m=>({ at_:=m.at_,grav:=m.grav },s))
 else if o.kind=11 then (if (s.text.size:Int)<o.at_ then (aS 3,s) else ({ at_:=o.at_ },{ s with cursor:=o.at_ }))
 else if o.kind=12 then ({ text:=cutT s.text s.cursor (min o.n (s.text.size-s.cursor)),at_:=s.cursor+min o.n (s.text.size-s.cursor) },{ s with cursor:=s.cursor+min o.n (s.text.size-s.cursor) })
 else ({},jN)
def gF (se:SeV) (o:OpV):Int:=if o.slot<0∨(se.slots.length:Int)≤o.slot then 2 else if (se.slots.getD o.slot.toNat default).held then 0 else 16
def reaS (st:MS) (c:Nat) (o:OpV):ResV × MS :=
 if gF (st.seat c) o≠0 then (aS (gF (st.seat c) o),st) else
 ((snpS ((st.seat c).slots.getD o.slot.toNat default) o).1,st.putSlot c o.slot.toNat (snpS ((st.seat c).slots.getD o.slot.toNat default) o).2)
def opS (st:MS) (c:Nat) (o:OpV):ResV × MS :=
 if o.kind=1 then insS st o else if o.kind=2 then delS st o else if o.kind=3 then setS st o else if o.kind=4 then drpS st o else if o.kind=5 then acqS st c
 else if o.kind=14 then subS st c else if o.kind=15 then recS st c else if o.kind=16 then cloS st else reaS st c o
def dL (st:MS) (c:Int) (o:OpV):Int:=if c<0∨(st.seats.length:Int)≤c then 3 else opE o
def doS (st:MS) (c:Int) (o:OpV):ResV × MS:=if dL st c o≠0 then (aS (dL st c o),st) else opS st c.toNat o
def SnOK (s:SnV):Prop:=s.text.size≤65536∧MkOK s.text.size s.marks∧0≤s.cursor∧s.cursor≤s.text.size
structure MSok (st:MS) (K:Int):Prop where
 size:st.text.size≤65536
 valid:bN st.text.data.toList=true
 marks:MkOK st.text.size st.marks
 bound:∀ m∈st.marks,bndB st.text.data.toList m.at_=true
 num0:0≤st.number
 num1:st.number≤K
 readers:st.readers≤8
 clients:st.seats.length≤8
 slots:∀ s∈st.seats,s.slots.length=st.readers∧∀ x∈s.slots,SnOK x
def newS (c:CfgV):MS:=⟨c.text,[],0,false,c.readers.toNat,List.replicate c.clients.toNat ⟨false,List.replicate c.readers.toNat jN⟩⟩
end Go.Proofs.YtdeiocppghhfdaaGreat
