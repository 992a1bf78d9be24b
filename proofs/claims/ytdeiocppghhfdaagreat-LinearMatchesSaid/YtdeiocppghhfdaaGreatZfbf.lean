/- Texts, one behind another. -/
import Derived.Test.YtdeiocppghhfdaaGreatZfan
set_option linter.unusedVariables false
set_option linter.unusedSimpArgs false
set_option maxRecDepth 100000
set_option maxHeartbeats 40000000
namespace Go.Proofs.YtdeiocppghhfdaaGreat
structure PaS where
 out:List UInt8
 gone:List UInt8
 ins:List UInt8
 rest:List UInt8
def dU (s:PaS) (p:PcV):PaS :=
 if p.kind=1 then { s with out:=s.out++s.rest.take p.n.toNat,rest:=s.rest.drop p.n.toNat }
 else if p.kind=2 then { s with out:=s.out++p.text.data.toList,ins:=s.ins++p.text.data.toList }
 else { s with gone:=s.gone++s.rest.take p.n.toNat,rest:=s.rest.drop p.n.toNat }
def paF (s:List UInt8) (d:List PcV):PaS:=d.foldl dU ⟨[],[],[],s⟩
theorem aL8 {s:List UInt8} {d:List PcV} {k:Nat} {p:PcV} (h:d[k]? = some p):paF s (d.take (k+1))=dU (paF s (d.take k)) p:=by
 unfold paF;rw[List.take_add_one,h,Option.toList_some,List.foldl_append];rfl
def qZ (s:PaS) (p:PcV) (last:Bool):Bool :=
 decide (0≤p.n) && decide (p.n≤100000) && decide (p.text.size≤100000) && decide (s.out.length≤300000) && decide (s.gone.length≤300000) && decide (s.ins.length≤300000) &&
 ((p.kind == 2) || ((p.kind == 1) || (p.kind == 3)) && decide (p.n.toNat≤s.rest.length)) && ((last && (p.kind == 1)) || (s.gone.isEmpty && s.ins.isEmpty))
def oN:List PcV→PaS→Bool
 |[],_=>true
 |p::d,s=>qZ s p d.isEmpty && oN d (dU s p)
theorem aRd (t:ByteArray) (a n:Int) (x:ByteArray) (h:iP t.size a n x):oN (repD t.size a n x) ⟨[],[],[],t.data.toList⟩=true∧(paF t.data.toList (repD t.size a n x)).out=(repT t a n x).data.toList:=by
 obtain⟨h1,h2,h3,h4,h5,h6⟩:=h
 have e0:(⟨#[]⟩:ByteArray).size=0:=rfl
 have el:t.data.toList.length=t.size:=by simp
 have ex:x.data.toList.length=x.size:=by simp
 obtain⟨T,hT⟩:∃ T,t.data.toList=T:=⟨_,rfl⟩
 obtain⟨X,hX⟩:∃ X,x.data.toList=X:=⟨_,rfl⟩
 have er:(repT t a n x).data.toList=T.take a.toNat++X++T.drop (a+n).toNat:=by unfold repT;rw[hT,hX]
 rw[er,hT]
 rw[hT] at el;rw[hX] at ex
 generalize hm:(t.size:Int)=m at *
 have hm2:t.size=T.length:=el.symm
 unfold repD
 rcases h6 with⟨rfl,hx⟩ | ⟨hn,hx⟩
 ·by_cases ha:0<a<;>by_cases hr:0<m-a-0
  ·rw[if_pos ha,if_pos hx,if_neg (by omega),if_pos hr]
   constructor
   ·simp[oN,qZ,dU,e0,hX];omega
   ·have e:List.take (m-a-0).toNat (List.drop a.toNat T)=T.drop (a+0).toNat:=by rw[Int.add_zero,List.take_of_length_le (by rw[List.length_drop];omega)]
    simp[paF,dU,hX] at e ⊢;exact e
  ·rw[if_pos ha,if_pos hx,if_neg (by omega),if_neg hr]
   constructor
   ·simp[oN,qZ,dU,e0,hX];omega
   ·have e:T.drop (a+0).toNat=[]:=by rw[List.drop_eq_nil_iff];omega
    simp[paF,dU,hX] at e ⊢;omega
  ·rw[if_neg ha,if_pos hx,if_neg (by omega),if_pos hr]
   obtain rfl:a=0:=by omega
   constructor
   ·simp[oN,qZ,dU,e0,hX];omega
   ·have e:List.take (m-0-0).toNat T=T:=by rw[List.take_of_length_le (by omega)]
    simp[paF,dU,hX] at e ⊢;exact e
  ·rw[if_neg ha,if_pos hx,if_neg (by omega),if_neg hr]
   obtain rfl:a=0:=by omega
   constructor
   ·simp[oN,qZ,dU,e0,hX];omega
   ·have e:T=[]:=List.eq_nil_of_length_eq_zero (by omega)
    simp[paF,dU,hX,e]
 ·have hX0:X=[]:=List.eq_nil_of_length_eq_zero (by omega)
  by_cases ha:0<a<;>by_cases hr:0<m-a-n
  ·rw[if_pos ha,if_neg (by omega),if_pos hn,if_pos hr]
   constructor
   ·simp[oN,qZ,dU,e0];omega
   ·have e:List.take (m-a-n).toNat (List.drop n.toNat (List.drop a.toNat T))=T.drop (a+n).toNat:=by rw[List.drop_drop,List.take_of_length_le (by rw[List.length_drop];omega)];congr 1;omega
    simp[paF,dU,hX0] at e ⊢;exact e
  ·rw[if_pos ha,if_neg (by omega),if_pos hn,if_neg hr]
   constructor
   ·simp[oN,qZ,dU,e0];omega
   ·have e:T.drop (a+n).toNat=[]:=by rw[List.drop_eq_nil_iff];omega
    simp[paF,dU,hX0,e]
  ·rw[if_neg ha,if_neg (by omega),if_pos hn,if_pos hr]
   obtain rfl:a=0:=by omega
   constructor
   ·simp[oN,qZ,dU,e0];omega
   ·have e:List.take (m-0-n).toNat (List.drop n.toNat T)=T.drop (0+n).toNat:=by rw[Int.zero_add,List.take_of_length_le (by rw[List.length_drop];omega)]
    simp[paF,dU,hX0] at e ⊢;exact e
  ·rw[if_neg ha,if_neg (by omega),if_pos hn,if_neg hr]
   obtain rfl:a=0:=by omega
   constructor
   ·simp[oN,qZ,dU,e0];omega
   ·have e:T.drop (0+n).toNat=[]:=by rw[List.drop_eq_nil_iff];omega
    simp[paF,dU,hX0,e];omega
end Go.Proofs.YtdeiocppghhfdaaGreat
