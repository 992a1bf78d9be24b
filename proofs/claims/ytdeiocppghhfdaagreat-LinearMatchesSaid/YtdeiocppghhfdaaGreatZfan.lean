/- Texts, one behind another. -/
import Derived.Test.YtdeiocppghhfdaaGreatZfam
import Derived.Deep.MidRow
set_option linter.unusedVariables false
set_option linter.unusedSimpArgs false
set_option maxRecDepth 100000
set_option maxHeartbeats 40000000
namespace Go.Proofs.YtdeiocppghhfdaaGreat
structure OpIn (o:OpV):Prop where
 k0:0≤o.kind
 k1:o.kind≤255
 id0:0≤o.id
 id1:o.id≤4294967295
 g0:0≤o.grav
 slot : -9223372036854775808≤o.slot∧o.slot≤9223372036854775807
 at_ : -9223372036854775808≤o.at_∧o.at_≤9223372036854775807
 n : -9223372036854775808≤o.n∧o.n≤9223372036854775807
theorem pG {o:OpV} (h:opE o=0):opP o∧o.text.size≤256∧bN o.text.data.toList=true:=by
 unfold opE at h
 split at h
 ·rename_i hp
  split at h
  ·simp at h
  ·split at h
   ·rename_i h2 h3;exact⟨hp,by omega,h3⟩
   ·simp at h
 ·simp at h
theorem qH {st:MS} {c:Int} {o:OpV} (h:dL st c o=0):0≤c∧c<st.seats.length∧opE o=0:=by
 unfold dL at h
 split at h
 ·simp at h
 ·exact⟨by omega,by omega,h⟩
theorem bsz (t:ByteArray):t.data.toList.length=t.size:=Array.length_toList
theorem aH9 (t:ByteArray) (a n:Int) (x:ByteArray) (ha:0≤a) (hn:0≤n) (hl:a+n≤t.size):((repT t a n x).size:Int)=t.size-n+x.size:=by
 have e1:=bsz t
 have e2:=bsz x
 rw[← bsz]
 unfold repT
 simp only[List.length_append,List.length_take,List.length_drop,e1,e2]
 omega
theorem aBo (t x:ByteArray) (a n:Nat):repT t a n x=⟨(t.data.toList.take a++x.data.toList++t.data.toList.drop (a+n)).toArray⟩:=by
 unfold repT;rw[← Int.natCast_add,Int.toNat_natCast,Int.toNat_natCast]
theorem eT {l:List UInt8} (h:bN l=true) (k:Nat) (hk:k≤l.length):bN (l.take k)=bndB l k∧bN (l.drop k)=bndB l k:=aH8 l.length l (Nat.le_refl _) h k hk
theorem xY {l x:List UInt8} (a n:Nat) (hv:bN l=true) (hx:bN x=true) (h1:bndB l a=true) (h2:bndB l (a+n:Nat)=true) (hl:a+n≤l.length):bN (l.take a++x++l.drop (a+n))=true:=by
 have e1:=(eT hv a (by omega)).1
 have e2:=(eT hv (a+n) (by omega)).2
 exact gW _ (by rw[e2];exact h2) _ _ (Nat.le_refl _) (gW _ hx _ _ (Nat.le_refl _) (by rw[e1];exact h1))
theorem aOg (p a t r:Int):gP p [] a t r=r:=rfl
theorem aOh (p n a t r:Int) (x:ByteArray) (d:List PcV):gP p (⟨1,n,x⟩::d) a t r=if p≤a then r else gP p d (a+n) (t+n) (t+min n (p-a)):=by simp[gP]
theorem aOi (p n a t r:Int) (x:ByteArray) (d:List PcV):gP p (⟨2,n,x⟩::d) a t r=gP p d a (t+x.size) r:=by simp[gP]
theorem aOj (p n a t r:Int) (x:ByteArray) (d:List PcV):gP p (⟨3,n,x⟩::d) a t r=gP p d (a+n) t r:=by simp[gP]
theorem aKy (p a t e:Int):eD p [] a t e=e:=rfl
theorem aKz (p n a t e:Int) (x:ByteArray) (d:List PcV):eD p (⟨1,n,x⟩::d) a t e=if p<a+n then t+max 0 (p-a) else eD p d (a+n) (t+n) e:=by simp[eD]
theorem aK0 (p n a t e:Int) (x:ByteArray) (d:List PcV):eD p (⟨2,n,x⟩::d) a t e=eD p d a (t+x.size) e:=by simp[eD]
theorem aK1 (p n a t e:Int) (x:ByteArray) (d:List PcV):eD p (⟨3,n,x⟩::d) a t e=eD p d (a+n) t e:=by simp[eD]
theorem aBp (N a k:Int) (x:ByteArray) (p:Int) (ha:0≤a) (hk:0≤k) (hl:a+k≤N) (hp:0≤p) (hp2:p≤N):gP p (repD N a k x) 0 0 0=if p≤a+k then min a p else p-k+x.size:=by
 unfold repD
 by_cases h1:0<a<;>by_cases h2:x.size=0<;>by_cases h3:0<k<;>by_cases h4:0<N-a-k<;>simp only[h1,h2,h3,h4,ne_eq,not_true_eq_false,not_false_eq_true,if_true,if_false,List.nil_append,List.cons_append,List.append_nil]<;>(repeat' (first | rw[aOg] | rw[aOh] | rw[aOi] | rw[aOj] | split))<;>omega
theorem xZ (N a k:Int) (x:ByteArray) (p e:Int) (ha:0≤a) (hk:0≤k) (hl:a+k≤N) (hp:0≤p) (hp2:p≤N) (he:e=N-k+x.size):eD p (repD N a k x) 0 0 e=if p<a then p else a+x.size+max 0 (p-a-k):=by
 unfold repD
 by_cases h1:0<a<;>by_cases h2:x.size=0<;>by_cases h3:0<k<;>by_cases h4:0<N-a-k<;>simp only[h1,h2,h3,h4,ne_eq,not_true_eq_false,not_false_eq_true,if_true,if_false,List.nil_append,List.cons_append,List.append_nil]<;>(repeat' (first | rw[aKy] | rw[aKz] | rw[aK0] | rw[aK1] | split))<;>omega
theorem aOk {N a k:Int} {x:ByteArray} (h:iP N a k x) (p g:Int) (hp:0≤p) (hp2:p≤N):posS (repD N a k x) p g=if g=0 then (if p≤a+k then min a p else p-k+x.size) else (if p<a then p else a+x.size+max 0 (p-a-k)):=by
 have hlen:=(zL h).2.2.2
 obtain⟨ha,hk,hl,_⟩:=h
 unfold posS
 rw[aBp N a k x p ha hk hl hp hp2,xZ N a k x p _ ha hk hl hp hp2 (by rw[hlen])]
theorem aOl {l x:List UInt8} (a k:Nat) (hv:bN l=true) (hx:bN x=true) (h1:bndB l a=true) (h2:bndB l (a+k:Nat)=true) (hl:a+k≤l.length) (p q:Nat) (hp:bndB l p=true) (hpl:p≤l.length)
  (hq:(q=p∧p≤a)∨q=a∨q=a+x.length∨(q+k=p+x.length∧a+k≤p)):bndB (l.take a++x++l.drop (a+k)) q=true:=by
 have hV:=xY a k hv hx h1 h2 hl
 have et:(l.take a).length=a:=by rw[List.length_take];omega
 have hlen:(l.take a++x++l.drop (a+k)).length=a+x.length+(l.length-(a+k)):=by simp only[List.length_append,et,List.length_drop]
 have hql:q≤(l.take a++x++l.drop (a+k)).length:=by rw[hlen];omega
 rw[← (eT hV q hql).1]
 rcases hq with⟨rfl,hq⟩ | rfl | rfl | ⟨hq,hq2⟩
 ·rw[List.append_assoc,List.take_append_of_le_length (by rw[et];exact hq),List.take_take,Nat.min_eq_left hq,(eT hv q hpl).1];exact hp
 ·rw[List.append_assoc,List.take_append_of_le_length (by rw[et];exact Nat.le_refl _),List.take_take,Nat.min_self,(eT hv q (by omega)).1];exact h1
 ·have e:(l.take a++x).length=a+x.length:=by rw[List.length_append,et]
  rw[List.take_append_of_le_length (by rw[e];exact Nat.le_refl _),← e,List.take_length]
  exact gW _ hx _ _ (Nat.le_refl _) (by rw[(eT hv a (by omega)).1];exact h1)
 ·have e:(l.take a++x).length=a+x.length:=by rw[List.length_append,et]
  rw[List.take_append,List.take_of_length_le (by rw[e];omega),e]
  have hd:bN (l.drop (a+k))=true:=by rw[(eT hv (a+k) hl).2];exact h2
  have he:q-(a+x.length)=p-(a+k):=by omega
  rw[he]
  refine gW _ ?_ _ _ (Nat.le_refl _) (gW _ hx _ _ (Nat.le_refl _) (by rw[(eT hv a (by omega)).1];exact h1))
  rw[(eT hd (p-(a+k)) (by rw[List.length_drop];omega)).1,aBn l (a+k) _ (by omega) hl]
  have:((a+k:Nat):Int)+((p-(a+k):Nat):Int)=(p:Int):=by omega
  rw[this];exact hp
theorem aF0 {st:MS} {K:Int} (h:MSok st K) {a n:Int} {x:ByteArray} (hr:iP st.text.size a n x) (hx:bN x.data.toList=true) (hs:(st.text.size:Int)-n+x.size≤65536) (h1:bndB st.text.data.toList a=true) (h2:bndB st.text.data.toList (a+n)=true):MSok (repS st a n x).2 (K+1):=by
 have hr':=hr
 obtain⟨ha,hn,han,_⟩:=hr
 have hsz:=aH9 st.text a n x ha hn han
 obtain⟨a',rfl⟩:=Int.eq_ofNat_of_zero_le ha
 obtain⟨n',rfl⟩:=Int.eq_ofNat_of_zero_le hn
 have hl:a'+n'≤st.text.data.toList.length:=by rw[bsz];omega
 have h2':bndB st.text.data.toList (a'+n':Nat)=true:=by rw[Int.natCast_add];exact h2
 have hpos:∀ m∈st.marks,0≤posS (repD st.text.size a' n' x) m.at_ m.grav∧posS (repD st.text.size a' n' x) m.at_ m.grav≤(repT st.text a' n' x).size∧bndB (repT st.text a' n' x).data.toList (posS (repD st.text.size a' n' x) m.at_ m.grav)=true:=by
  intro m hm
  obtain⟨_,_,_,g1,g2⟩:=h.marks.2.2 m hm
  have hb:=h.bound m hm
  rw[aOk hr' m.at_ m.grav g1 g2]
  generalize hq:(if m.grav=0 then (if m.at_≤(a':Int)+n' then min (a':Int) m.at_ else m.at_-n'+x.size) else (if m.at_<(a':Int) then m.at_ else (a':Int)+x.size+max 0 (m.at_-a'-n')))=q
  have hq0:0≤q∧q≤(st.text.size:Int)-n'+x.size:=by subst hq;(repeat' split)<;>omega
  refine⟨hq0.1,by rw[hsz];exact hq0.2,?_⟩
  obtain⟨p,hp⟩:=Int.eq_ofNat_of_zero_le g1
  obtain⟨q',rfl⟩:=Int.eq_ofNat_of_zero_le hq0.1
  have:=aOl a' n' h.valid hx h1 h2' hl p q' (by rw[← hp];exact hb) (by rw[bsz];omega) (by
   rw[bsz]
   rw[hp] at hq
   split at hq
   ·split at hq
    ·rw[Int.min_def] at hq;split at hq<;>omega
    ·omega
   ·split at hq
    ·omega
    ·rw[Int.max_def] at hq;split at hq<;>omega)
  rw[aBo]
  exact this
 refine⟨?_,?_,?_,?_,?_,?_,h.readers,h.clients,h.slots⟩
 ·have:((repT st.text a' n' x).size:Int)≤65536:=by rw[hsz];exact hs
  exact Int.ofNat_le.1 this
 ·have:=xY a' n' h.valid hx h1 h2' hl
  show bN (repT st.text a' n' x).data.toList=true
  rw[aBo]
  exact this
 ·refine⟨by show (bI _ _).length≤64;unfold bI;rw[List.length_map];exact h.marks.1,?_,?_⟩
  ·show (bI _ _).Pairwise _
   unfold bI
   rw[List.pairwise_map]
   exact h.marks.2.1
  ·intro m hm
   obtain⟨m0,hm0,rfl⟩:=List.mem_map.1 hm
   obtain⟨g1,g2,g3,_,_⟩:=h.marks.2.2 m0 hm0
   exact⟨g1,g2,g3,(hpos m0 hm0).1,(hpos m0 hm0).2.1⟩
 ·intro m hm
  obtain⟨m0,hm0,rfl⟩:=List.mem_map.1 hm
  exact (hpos m0 hm0).2.2
 ·have:=h.num0;show 0≤st.number+1;omega
 ·have:=h.num1;show st.number+1≤K+1;omega
theorem MSok.mono {st:MS} {K K':Int} (h:MSok st K) (hk:K≤K'):MSok st K':=⟨h.size,h.valid,h.marks,h.bound,h.num0,Int.le_trans h.num1 hk,h.readers,h.clients,h.slots⟩
theorem tZ {t:ByteArray} {n:Int} (h:bndE t n=0):bndB t.data.toList n=true∧n≤t.size:=by
 unfold bndE at h
 split at h
 ·simp at h
 ·split at h
  ·rename_i h1 h2;exact⟨h2,by omega⟩
  ·simp at h
theorem aOm {st:MS} {o:OpV} (h:insE st o=0):st.closed=false∧bndE st.text o.at_=0∧(st.text.size:Int)+o.text.size≤65536:=by
 unfold insE at h
 split at h
 ·simp at h
 ·rename_i h1
  split at h
  ·rename_i h2;exact absurd h h2
  ·rename_i h2
   split at h
   ·simp at h
   ·exact⟨by simpa using h1,by omega,by omega⟩
theorem aOn {st:MS} {K:Int} {o:OpV} (h:MSok st K) (ho:opE o=0) (hk:o.kind=1):MSok (insS st o).2 (K+1):=by
 obtain⟨⟨_,_,g1,g2,g3,g4,g5,g6,g7,g8,g9,g10,g11⟩,gs,gv⟩:=pG ho
 unfold insS
 split
 ·exact h.mono (by omega)
 ·rename_i he
  obtain⟨e1,e2,e3⟩:=aOm (Decidable.not_not.1 he)
  obtain⟨e4,e5⟩:=tZ e2
  have hsz:=h.size
  exact aF0 h ⟨g1,by omega,by omega,by omega,by omega,.inl ⟨rfl,by omega⟩⟩ gv (by omega) e4 (by simpa using e4)
theorem aOo {st:MS} {o:OpV} (h:delE st o=0):st.closed=false∧o.at_≤st.text.size∧o.n≤(st.text.size:Int)-o.at_∧bndE st.text o.at_=0∧bndE st.text (o.at_+o.n)=0:=by
 unfold delE at h
 split at h
 ·simp at h
 ·rename_i h1
  split at h
  ·simp at h
  ·rename_i h2
   split at h
   ·rename_i h3;exact absurd h h3
   ·rename_i h3;exact⟨by simpa using h1,by omega,by omega,by omega,h⟩
theorem aOp {st:MS} {K:Int} {o:OpV} (h:MSok st K) (ho:opE o=0) (hk:o.kind=2):MSok (delS st o).2 (K+1):=by
 obtain⟨⟨_,_,g1,g2,g3,g4,g5,g6,g7,g8,g9,g10,g11⟩,gs,gv⟩:=pG ho
 unfold delS
 split
 ·exact h.mono (by omega)
 ·rename_i he
  obtain⟨e1,e2,e3,e4,e5⟩:=aOo (Decidable.not_not.1 he)
  have hsz:=h.size
  have hn:=g11 hk
  have e0:(⟨#[]⟩:ByteArray).size=0:=rfl
  exact aF0 h ⟨g1,by omega,by omega,by omega,by rw[e0];omega,.inr ⟨by omega,rfl⟩⟩ rfl (by rw[e0];omega) (tZ e4).1 (tZ e5).1
theorem aOq {st:MS} {K:Int} {o:OpV} (h:MSok st K) (ho:opE o=0) (hi:OpIn o) (hk:o.kind=3):MSok (setS st o).2 (K+1):=by
 obtain⟨⟨_,_,g1,g2,g3,g4,g5,g6,g7,g8,g9,g10,g11⟩,gs,gv⟩:=pG ho
 unfold setS
 split
 ·exact h.mono (by omega)
 ·rename_i he
  have he:=Decidable.not_not.1 he
  unfold setE at he
  split at he
  ·simp at he
  ·obtain⟨e4,e5⟩:=tZ he
   split
   ·rename_i hl
    have:=hi.id0;have:=hi.id1;have:=hi.g0
    have hm:MkIn st.text.size ⟨o.id,o.at_,o.grav⟩:=⟨by show 1≤o.id;omega,by show o.id≤4294967295;omega,by show o.grav=0∨o.grav=1;omega,g1,e5⟩
    have n0:=h.num0
    have n1:=h.num1
    refine⟨h.size,h.valid,aN5 h.marks hm hl,?_,by show 0≤st.number+1;omega,by show st.number+1≤K+1;omega,h.readers,h.clients,h.slots⟩
    intro m hm'
    rcases List.mem_append.1 hm' with hx | hx
    ·exact h.bound m (List.mem_filter.1 hx).1
    ·rcases List.mem_cons.1 hx with rfl | hx
     ·exact e4
     ·exact h.bound m (List.mem_filter.1 hx).1
   ·exact h.mono (by omega)
theorem aOr {st:MS} {K:Int} {o:OpV} (h:MSok st K):MSok (drpS st o).2 (K+1):=by
 have n0:=h.num0
 have n1:=h.num1
 unfold drpS
 split
 ·exact h.mono (by omega)
 ·split
  ·exact⟨h.size,h.valid,aKl h.marks,fun m hm=>h.bound m (List.mem_filter.1 hm).1,by show 0≤st.number+1;omega,by show st.number+1≤K+1;omega,h.readers,h.clients,h.slots⟩
  ·exact h.mono (by omega)
theorem MS.put_ok {st:MS} {K:Int} (h:MSok st K) {c:Nat} {s:SeV} (hs:s.slots.length=st.readers∧∀ x∈s.slots,SnOK x):MSok (st.put c s) K :=
 ⟨h.size,h.valid,h.marks,h.bound,h.num0,h.num1,h.readers,by show (st.seats.set c s).length≤8;rw[List.length_set];exact h.clients,fun x hx=>by rcases List.mem_or_eq_of_mem_set hx with hx | rfl;exact h.slots x hx;exact hs⟩
theorem MS.seat_mem {st:MS} {c:Nat} (h:c<st.seats.length):st.seat c∈st.seats:=by
 unfold MS.seat;rw[List.getD_eq_getElem?_getD,gEz h];exact List.getElem_mem h
theorem MS.putSlot_ok {st:MS} {K:Int} (h:MSok st K) {c k:Nat} (hc:c<st.seats.length) {x:SnV} (hx:SnOK x):MSok (st.putSlot c k x) K:=by
 have hs:=h.slots _ (MS.seat_mem hc)
 refine MS.put_ok h ⟨by show ((st.seat c).slots.set k x).length=_;rw[List.length_set];exact hs.1,fun y hy => ?_⟩
 rcases List.mem_or_eq_of_mem_set hy with hy | rfl
 ·exact hs.2 y hy
 ·exact hx
theorem aOs {st:MS} {K:Int} {c:Nat} (h:MSok st K) (hc:c<st.seats.length):MSok (acqS st c).2 K:=by
 unfold acqS
 split
 ·exact h
 ·split
  ·exact h
  ·exact MS.putSlot_ok h hc ⟨h.size,h.marks,Int.le_refl _,Int.natCast_nonneg _⟩
theorem aOt {st:MS} {K:Int} {c:Nat} (h:MSok st K) (hc:c<st.seats.length):MSok (subS st c).2 K:=by
 unfold subS
 split
 ·exact h
 ·split
  ·exact h
  ·exact MS.put_ok h (s:={ st.seat c with sub:=true }) (h.slots (st.seat c) (MS.seat_mem hc))
theorem aOu {st:MS} {K:Int} {c:Nat} (h:MSok st K):MSok (recS st c).2 K:=by
 unfold recS
 (repeat' split)<;>exact h
theorem aOv {st:MS} {K:Int} (h:MSok st K):MSok (cloS st).2 K:=by
 unfold cloS
 split
 ·exact h
 ·exact⟨h.size,h.valid,h.marks,h.bound,h.num0,h.num1,h.readers,h.clients,h.slots⟩
theorem yA:SnOK jN:=⟨by show 0≤65536;omega,⟨by simp[jN],List.Pairwise.nil,fun m hm=>by simp[jN] at hm⟩,Int.le_refl _,Int.natCast_nonneg _⟩
theorem aOw {s:SnV} {o:OpV} (h:SnOK s) (ho:opE o=0):SnOK (snpS s o).2:=by
 obtain⟨⟨_,_,g1,g2,_⟩,_⟩:=pG ho
 obtain⟨h1,h2,h3,h4⟩:=h
 unfold snpS
 repeat' split
 all_goals first | exact⟨h1,h2,h3,h4⟩ | exact yA | skip
 ·exact⟨h1,h2,g1,by show o.at_≤(s.text.size:Int);omega⟩
 ·exact⟨h1,h2,by show 0≤s.cursor+min o.n ((s.text.size:Int)-s.cursor);omega,by show s.cursor+min o.n ((s.text.size:Int)-s.cursor)≤(s.text.size:Int);omega⟩
theorem aK2 {se:SeV} {o:OpV} (h:gF se o=0):0≤o.slot∧o.slot<se.slots.length∧(se.slots.getD o.slot.toNat default).held=true:=by
 unfold gF at h
 split at h
 ·simp at h
 ·split at h
  ·rename_i h1 h2;exact⟨by omega,by omega,h2⟩
  ·simp at h
theorem aOx {st:MS} {K:Int} {c:Nat} {o:OpV} (h:MSok st K) (hc:c<st.seats.length) (ho:opE o=0):MSok (reaS st c o).2 K:=by
 unfold reaS
 split
 ·exact h
 ·rename_i he
  obtain⟨e1,e2,e3⟩:=aK2 (Decidable.not_not.1 he)
  refine MS.putSlot_ok h hc (aOw ((h.slots _ (MS.seat_mem hc)).2 _ ?_) ho)
  rw[List.getD_eq_getElem?_getD,gEz (by omega)];exact List.getElem_mem _
theorem aQu {st:MS} {K:Int} {c:Nat} {o:OpV} (h:MSok st K) (hc:c<st.seats.length) (ho:opE o=0) (hi:OpIn o):MSok (opS st c o).2 (K+1):=by
 unfold opS
 have hm:∀ {s:MS},MSok s K→MSok s (K+1):=fun h=>h.mono (by omega)
 split
 ·exact aOn h ho (by assumption)
 split
 ·exact aOp h ho (by assumption)
 split
 ·exact aOq h ho hi (by assumption)
 split
 ·exact aOr h
 split
 ·exact hm (aOs h hc)
 split
 ·exact hm (aOt h hc)
 split
 ·exact hm (aOu (c:=c) h)
 split
 ·exact hm (aOv h)
 ·exact hm (aOx h hc ho)
theorem aEf {st:MS} {K:Int} {c:Int} {o:OpV} (h:MSok st K) (hi:OpIn o):MSok (doS st c o).2 (K+1):=by
 unfold doS
 split
 ·exact h.mono (by omega)
 ·rename_i he
  obtain⟨e1,e2,e3⟩:=qH (Decidable.not_not.1 he)
  exact aQu h (by omega) e3 hi
open Go.RowKit Go.Lib Go.Shelf
attribute [local go_sem, local simp] resF bD bS fK fM fO dQ eX eY
theorem aF1 (r:ResV) (x:Int):(resL r).set 6 (.int .i64 x)=resL { r with m1:=x }:=rfl
theorem aF2 (r:ResV) (x:Int):(resL r).set 7 (.int .i64 x)=resL { r with m2:=x }:=rfl
theorem aF3 (r:ResV) (x:Int):(resL r).set 8 (.int .i64 x)=resL { r with m3:=x }:=rfl
def segA (cur:Array Value) (o:Nat) (L:List Value):Array Value:=(cur.toList.take o++L++cur.toList.drop (o+L.length)).toArray
theorem vG {cur:Array Value} {o:Nat} {L:List Value} (h:(cur.toList.drop o).take L.length=L):segA cur o L=cur:=by
 unfold segA
 have e:L++cur.toList.drop (o+L.length)=cur.toList.drop o:=by
  have:=List.take_append_drop L.length (cur.toList.drop o)
  rw[h,List.drop_drop] at this
  exact this
 rw[List.append_assoc,e,List.take_append_drop]
theorem mY {cur:Array Value} {o:Nat} {L:List Value} (h:o+L.length≤cur.size):(segA cur o L).size=cur.size:=by
 unfold segA;simp;omega
theorem zR {cur:Array Value} {o:Nat} {L:List Value} (h:o+L.length≤cur.size):((segA cur o L).toList.drop o).take L.length=L:=by
 unfold segA
 have e:(cur.toList.take o).length=o:=by rw[List.length_take,Array.length_toList];omega
 rw[List.append_assoc,List.drop_append_of_le_length (by rw[e];exact Nat.le_refl _),List.drop_of_length_le (by rw[e];exact Nat.le_refl _),List.nil_append,List.take_left]
theorem aF4 {cur:Array Value} {o i:Nat} {L:List Value} {u:Value} (h:o+L.length≤cur.size) (hl:(cur.toList.drop o).take L.length=L) (hi:i<L.length):cur.setIfInBounds (o+i) u=segA cur o (L.set i u):=by
 apply Array.toList_inj.1
 have e0:cur.toList=cur.toList.take o++(L++cur.toList.drop (o+L.length)):=by
  have:=List.take_append_drop L.length (cur.toList.drop o)
  rw[hl,List.drop_drop] at this
  rw[this,List.take_append_drop]
 have e:(cur.toList.take o).length=o:=by rw[List.length_take,Array.length_toList];omega
 rw[Array.toList_setIfInBounds]
 show cur.toList.set (o+i) u=(cur.toList.take o++L.set i u++cur.toList.drop (o+(L.set i u).length)).toArray.toList
 rw[List.length_set]
 conv=>lhs;rw[e0]
 rw[List.set_append_right (o+i) u (by rw[e];omega),e,Nat.add_sub_cancel_left,List.set_append_left i u hi]
 simp
structure SnAt (W:World) (g o:Nat) (cur:Array Value) (x:SnM):Prop where
 blk:W.heap[g]? = some (.cells cur 168 (0,0))
 sz:o+4≤cur.size
 seg:(cur.toList.drop o).take 4=snL x
 marks:MOwn W 0 x.mv x.s.marks
theorem SnAt.cells {W:World} {g o:Nat} {cur:Array Value} {x:SnM} (h:SnAt W g o cur x):(W.cell? ⟨g,o,none⟩=some (.bool x.s.held)∧W.cell? ⟨g,o+1,none⟩=some (.string x.s.text)∧W.cell? ⟨g,o+2,none⟩=some x.mv∧W.cell? ⟨g,o+3,none⟩=some (.int .i64 x.s.cursor)) ∧
  (W.frozen? ⟨g,o,none⟩=false∧W.frozen? ⟨g,o+1,none⟩=false∧W.frozen? ⟨g,o+2,none⟩=false∧W.frozen? ⟨g,o+3,none⟩=false):=by
 have hc:∀ i u,(snL x)[i]? = some u→W.cell? ⟨g,o+i,none⟩=some u:=by
  intro i u hu
  rw[← h.seg] at hu
  have hi:i<4:=by
   by_cases hi:i<4
   ·exact hi
   ·rw[List.getElem?_take,if_neg (by omega)] at hu;cases hu
  rw[List.getElem?_take_of_lt hi,List.getElem?_drop,Array.getElem?_toList] at hu
  simp[World.cell?,h.blk,hu]
 exact⟨⟨hc 0 _ rfl,hc 1 _ rfl,hc 2 _ rfl,hc 3 _ rfl⟩,by simp[World.frozen?,h.blk],by simp[World.frozen?,h.blk],by simp[World.frozen?,h.blk],by simp[World.frozen?,h.blk]⟩
theorem SnAt.below {W W':World} {g o:Nat} {cur:Array Value} {x:SnM} (h:SnAt W g o cur x) (hb:Below W.heap.size W W'):SnAt W' g o cur x :=
 ⟨(hb.block g (gAz h.blk).1).trans h.blk,h.sz,h.seg,aI h.marks hb⟩
def kD (g o:Nat) (cur:Array Value) (w:World) (x:SnM) (R:ResV × SnV) (e:Ending) (w':World):Prop:=e = .returned (.agg (resL R.1).toArray)∧∃ x':SnM,x'.s=R.2∧SnAt w' g o (segA cur o (snL x')) x'∧aF (fun k=>k=g) w w'
theorem SnAt.same {W:World} {g o:Nat} {cur:Array Value} {x:SnM} (h:SnAt W g o cur x):SnAt W g o (segA cur o (snL x)) x:=by
 have e:segA cur o (snL x)=cur:=vG (by have:=h.seg;exact this)
 rw[e];exact h
theorem SnAt.set3 {W:World} {g o:Nat} {cur:Array Value} {x:SnM} (h:SnAt W g o cur x) (p:Int):SnAt (W.setCell ⟨g,o+3,none⟩ (.int .i64 p)) g o (segA cur o (snL ⟨{ x.s with cursor:=p },x.mv⟩)) ⟨{ x.s with cursor:=p },x.mv⟩:=by
 have hl:(cur.toList.drop o).take (snL x).length=snL x:=h.seg
 have hs:o+(snL x).length≤cur.size:=h.sz
 have e:=aF4 (u := .int .i64 p) hs hl (show 3<(snL x).length from (by show 3<4;omega))
 have hs2:o+(snL ⟨{ x.s with cursor:=p },x.mv⟩).length≤cur.size:=h.sz
 refine⟨?_,by rw[mY hs2];exact h.sz,zR hs2,aH h.marks h.blk (by decide) (fun k _ hk=>aG _ _ _ _ hk)⟩
 have:(W.setCell ⟨g,o+3,none⟩ (.int .i64 p)).heap[g]? = some (.cells (cur.setIfInBounds (o+3) (.int .i64 p)) 168 (0,0)):=by
  simp[World.setCell,Array.getElem?_modify,h.blk]
 rw[this,e];rfl
theorem aEg {W:World} {g r:Nat} {cur cs:Array Value} (h:W.heap[g]? = some (.cells cur 168 (0,0))) (hr:W.heap[r]? = some (.cells cs 51 (0,0))):g≠r:=by
 rintro rfl;rw[h] at hr;injection hr with hr;injection hr with _ h2 _;exact absurd h2 (by decide)
theorem SnAt.row {W:World} {g o r:Nat} {cur cs:Array Value} {x:SnM} (h:SnAt W g o cur x) (hr:W.heap[r]? = some (.cells cs 51 (0,0))) (R:Array Value):SnAt (W.setRow r R) g o cur x :=
 ⟨(setRow_other _ _ _ _ (aEg h.blk hr)).trans h.blk,h.sz,h.seg,aH h.marks hr (by decide) (fun k _ hk=>setRow_other _ _ _ _ hk)⟩
theorem snp6 {s:SnV} {q:OpV} (h:q.kind=6):snpS s q=({ m1:=s.text.size,m2:=cntB begB s.text.data.toList,m3:=cntB bY s.text.data.toList },s):=by unfold snpS;rw[if_pos h]
theorem snp7 {s:SnV} {q:OpV} (h:q.kind=7):snpS s q=if (s.text.size:Int)<q.at_∨(s.text.size:Int)-q.at_<q.n then (aS 3,s) else ({ text:=cutT s.text q.at_ q.n },s):=by unfold snpS;rw[if_neg (by omega),if_pos h]
theorem snp8 {s:SnV} {q:OpV} (h:q.kind=8):snpS s q=({ err:=(dW s.text.data.toList q.n).2,at_:=(dW s.text.data.toList q.n).1 },s):=by unfold snpS;rw[if_neg (by omega),if_neg (by omega),if_pos h]
theorem snp9 {s:SnV} {q:OpV} (h:q.kind=9):snpS s q=({ err:=(dX s.text.data.toList q.n).2,at_:=(dX s.text.data.toList q.n).1 },s):=by unfold snpS;rw[if_neg (by omega),if_neg (by omega),if_neg (by omega),if_pos h]
theorem aQj {s:SnV} {q:OpV} (h:q.kind=10):snpS s q=(match iD q.id s.marks with | none=>(aS 7,s) | some m=>({ at_:=m.at_,grav:=m.grav },s)):=by unfold snpS;rw[if_neg (by omega),if_neg (by omega),if_neg (by omega),if_neg (by omega),if_pos h];cases iD q.id s.marks<;>rfl
theorem aQk {s:SnV} {q:OpV} (h:q.kind=11):snpS s q=if (s.text.size:Int)<q.at_ then (aS 3,s) else ({ at_:=q.at_ },{ s with cursor:=q.at_ }):=by unfold snpS;rw[if_neg (by omega),if_neg (by omega),if_neg (by omega),if_neg (by omega),if_neg (by omega),if_pos h]
theorem aQl {s:SnV} {q:OpV} (h:q.kind=12):snpS s q=({ text:=cutT s.text s.cursor (min q.n (s.text.size-s.cursor)),at_:=s.cursor+min q.n (s.text.size-s.cursor) },{ s with cursor:=s.cursor+min q.n (s.text.size-s.cursor) }):=by unfold snpS;rw[if_neg (by omega),if_neg (by omega),if_neg (by omega),if_neg (by omega),if_neg (by omega),if_neg (by omega),if_pos h]
theorem aQm {s:SnV} {q:OpV} (h:q.kind=13):snpS s q=({},jN):=by unfold snpS;rw[if_neg (by omega),if_neg (by omega),if_neg (by omega),if_neg (by omega),if_neg (by omega),if_neg (by omega),if_neg (by omega)]
theorem aK3 {cur:Array Value} {o:Nat} {v:Value} {r:List Value} (h:o<cur.size):segA (cur.setIfInBounds o v) (o+1) r=segA cur o (v::r):=by
 unfold segA
 have hl:o<cur.toList.length:=by rw[Array.length_toList];exact h
 have e:(cur.toList.take o).length=o:=by rw[List.length_take];omega
 have e1:(cur.toList.set o v).take (o+1)=cur.toList.take o++[v]:=by
  rw[List.set_eq_take_append_cons_drop,if_pos hl,List.take_append,e,Nat.add_sub_cancel_left,List.take_of_length_le (by omega)]
  rfl
 rw[Array.toList_setIfInBounds,e1,List.drop_set_of_lt (by omega),List.length_cons,show o+1+r.length=o+(r.length+1) by omega]
 simp only[List.append_assoc,List.cons_append,List.nil_append]
theorem lL {g:Nat} {T:TypeId}:∀ (L:List Value) (o:Nat) (cur:Array Value) (W:World),W.heap[g]? = some (.cells cur T (0,0))→o+L.length≤cur.size→(W.setCells g o L).heap[g]? = some (.cells (segA cur o L) T (0,0))
 |[],o,cur,W,h,hs=>by
  have e:segA cur o []=cur:=vG rfl
  rw[e];exact h
 |v::r,o,cur,W,h,hs=>by
  have hs':o+(r.length+1)≤cur.size:=hs
  rw[World.setCells,← aK3 (by omega)]
  refine lL r (o+1) (cur.setIfInBounds o v) _ ?_ (by rw[Array.size_setIfInBounds];omega)
  simp[World.setCell,Array.getElem?_modify,h]
theorem iQ {g:Nat}:∀ (L:List Value) (o:Nat) (W:World) (k:Nat),k≠g→(W.setCells g o L).heap[k]? = W.heap[k]?
 |[],_,_,_,_=>rfl
 |v::r,o,W,k,h=>by rw[World.setCells,iQ r (o+1) _ k h,aG _ _ _ _ h]
theorem sQ (g:Nat):∀ (L:List Value) (o:Nat) (W:World),(W.setCells g o L).os=W.os∧(W.setCells g o L).tape=W.tape∧(W.setCells g o L).output=W.output∧(W.setCells g o L).heap.size=W.heap.size
 |[],_,_=>⟨rfl,rfl,rfl,rfl⟩
 |v::r,o,W=>by
  obtain⟨h1,h2,h3,h4⟩:=sQ g r (o+1) (W.setCell ⟨g,o,none⟩ v)
  rw[World.setCells]
  exact⟨h1,h2,h3,h4.trans (eQ _ _ _)⟩
theorem aF.cells (w:World) (g o:Nat) (L:List Value):aF (fun k=>k=g) w (w.setCells g o L):=by
 obtain⟨h1,h2,h3,h4⟩:=sQ g L o w
 exact⟨h1,h2,h3,Nat.le_of_eq h4.symm,fun k _ hk=>iQ L o w k hk⟩
theorem SnAt.drew {W:World} {g o:Nat} {cur:Array Value} {x:SnM} (h:SnAt W g o cur x):SnAt W.drew g o cur x:=⟨h.blk,h.sz,h.seg,h.marks⟩
theorem SnAt.there {W:World} {g o:Nat} {cur:Array Value} {x:SnM} (h:SnAt W g o cur x):W.there g o 4:=by
 have hs:=h.sz
 intro j hj
 refine⟨?_,by simp[World.frozen?,h.blk]⟩
 simp only[World.cell?,h.blk]
 simp
 omega
theorem snF (a:Bool) (t:ByteArray) (v:Value) (p:Int):Value.agg #[.bool a,.string t,v,.int .i64 p] = .agg (snL ⟨⟨a,t,[],p⟩,v⟩).toArray:=rfl
theorem uA (x:SnM):(snL x).length=4:=rfl
theorem zS (x:SnM):snL x≠[]:=by simp[snL]
theorem SnAt.st {W:World} {g o:Nat} {cur:Array Value} {x:SnM} (h:SnAt W g o cur x) (y:SnM) (hy:y.mv.oneCell'=true):(storeCells ⟨g,o,none⟩ (snL y)).run Tryz.prog W = .ok () (W.setCells g o (snL y)):=by
 have ht:=h.there
 have:=run_storeCells_cells (P := Tryz.prog) g o (snL y) 0 W (fun j hj=>(ht j hj).1) (fun j hj=>(ht j hj).2) (fun v hv=>by
  simp only[snL,List.mem_cons,List.not_mem_nil,or_false] at hv
  rcases hv with rfl | rfl | rfl | rfl
  ·rfl
  ·rfl
  ·exact hy
  ·rfl)
 exact this
@[irreducible] def putSn (W:World) (g o:Nat) (y:SnM):World:=W.setCells g o (snL y)
theorem iR (W:World) (g o:Nat) (y:SnM):putSn W g o y=W.setCells g o (snL y):=by unfold putSn;rfl
theorem SnAt.stP {W:World} {g o:Nat} {cur:Array Value} {x:SnM} (h:SnAt W g o cur x) (y:SnM) (hy:y.mv.oneCell'=true):(storeCells ⟨g,o,none⟩ (snL y)).run Tryz.prog W = .ok () (putSn W g o y):=by rw[iR];exact h.st y hy
theorem mZ (W:World) (g o:Nat) (y:SnM) (k:Nat) (h:k≠g):(putSn W g o y).heap[k]? = W.heap[k]? := by rw[iR];exact iQ _ _ _ _ h
theorem aF.putSn (w:World) (g o:Nat) (y:SnM):aF (fun k=>k=g) w (putSn w g o y):=by rw[iR];exact aF.cells _ _ _ _
theorem SnAt.setAll {W:World} {g o:Nat} {cur:Array Value} {x y:SnM} (h:SnAt W g o cur x) (hy:MOwn W 0 y.mv y.s.marks):SnAt (W.setCells g o (snL y)) g o (segA cur o (snL y)) y:=by
 have hs:o+(snL y).length≤cur.size:=h.sz
 exact⟨lL _ _ _ _ h.blk hs,by rw[mY hs];exact h.sz,zR hs,aH hy h.blk (by decide) (fun k _ hk=>iQ _ _ _ _ hk)⟩
theorem SnAt.put {W:World} {g o:Nat} {cur:Array Value} {x y:SnM} (h:SnAt W g o cur x) (hy:MOwn W 0 y.mv y.s.marks):SnAt (putSn W g o y) g o (segA cur o (snL y)) y:=by rw[iR];exact h.setAll hy
theorem SnAt.post2 {w v u:World} {g o r:Nat} {cur cs:Array Value} {x:SnM} {s':SnV} (hN:∃ x':SnM,x'.s=s'∧SnAt u g o (segA cur o (snL x')) x') (hB:Below w.heap.size w v) (hK:aF (fun k=>k=g) v u) (hz:u.heap[r]? = some (.cells cs 51 (0,0))) (hr:w.heap.size≤r) (R:Array Value) :
  ∃ x':SnM,x'.s=s'∧SnAt (u.setRow r R) g o (segA cur o (snL x')) x'∧aF (fun k=>k=g) w (u.setRow r R):=by
 obtain⟨x',h1,h2⟩:=hN
 exact⟨x',h1,h2.row hz R,((aF.of_below hB).trans hK).row hr R⟩
theorem SnAt.post {w v:World} {g o r:Nat} {cur cs:Array Value} {x:SnM} (h:SnAt w g o cur x) (hB:Below w.heap.size w v) (hz:v.heap[r]? = some (.cells cs 51 (0,0))) (hr:w.heap.size≤r) (R:Array Value) :
  ∃ x':SnM,x'.s=x.s∧SnAt (v.setRow r R) g o (segA cur o (snL x')) x'∧aF (fun k=>k=g) w (v.setRow r R) :=
 ⟨x,rfl,((h.below hB).row hz R).same,(aF.of_below hB).row hr R⟩
end Go.Proofs.YtdeiocppghhfdaaGreat
