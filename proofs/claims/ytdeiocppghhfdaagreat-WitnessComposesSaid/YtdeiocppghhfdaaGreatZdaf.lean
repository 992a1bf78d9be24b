/- Texts, one behind another. -/
import Derived.Test.YtdeiocppghhfdaaGreatChecked
import Derived.Lib.Strings
import Derived.WalkKit
import Derived.WalkSpells
import Derived.WalkLawsBesides
import Derived.Lib.Hide
import Derived.Handy
import Derived.Laws.IdiomStrings
import Derived.Lib.IndexBytes
import Derived.BigRegion
set_option linter.unusedVariables false
set_option linter.unusedSimpArgs false
set_option maxRecDepth 100000
set_option maxHeartbeats 8000000
namespace Go.Proofs.YtdeiocppghhfdaaGreat
def oU (b:Int):Bool:=decide (128≤b∧b≤191)
def annB (b:Int):Int:=if 244<b then 0 else if 240≤b then 4 else if 224≤b then 3 else if 194≤b then 2 else if b<128 then 1 else 0
def sK (r:Int):Bool:=decide (0≤r∧r≤1114111∧(r<55296∨57343<r))
def lenB (r:Int):Int:=if sK r=false then 0 else if r<128 then 1 else if r<2048 then 2 else if r<65536 then 3 else 4
def byt (l:List UInt8) (k:Nat):Int:=((l.getD k 0).toNat:Int)
def toByte (x:Int):UInt8:=UInt8.ofNat x.toNat
theorem nD (s:ByteArray) (k:Nat) (h:k<s.size):((s[k]).toNat:Int)=byt s.data.toList k:=by
 unfold byt
 have:s.data.toList.getD k 0=s[k]:=by
  rw[List.getD_eq_getElem?_getD,List.getElem?_eq_getElem (by simpa using h)];rfl
 rw[this]
theorem rM (l:List UInt8) (k:Nat):0≤byt l k:=by unfold byt;omega
theorem uS (l:List UInt8) (k:Nat):byt l k≤255:=by unfold byt;have:=(l.getD k 0).toNat_lt;omega
theorem aHc (l:List UInt8) (k:Nat) (h:k<l.length):toByte (byt l k)=l[k]:=by
 unfold toByte byt
 rw[List.getD_eq_getElem?_getD,List.getElem?_eq_getElem h]
 simp
theorem aEr (l:List UInt8) (a k:Nat):byt (l.drop a) k=byt l (a+k):=by
 unfold byt;simp[List.getD_eq_getElem?_getD]
theorem yI (l m:List UInt8) (k:Nat) (h:k<l.length):byt (l++m) k=byt l k:=by
 unfold byt;simp[List.getD_eq_getElem?_getD,List.getElem?_append_left h]
theorem aEs (l:List UInt8) (a k:Nat) (h:k<a):byt (l.take a) k=byt l k:=by
 unfold byt;simp[List.getD_eq_getElem?_getD,h]
def bndB (l:List UInt8) (n:Int):Bool:=decide (0≤n) && ((decide (n<l.length) && !oU (byt l n.toNat)) || n == l.length)
theorem aJ5 {l:List UInt8} {n:Int} {x:Bool} (h:x=true↔0≤n∧((n<l.length∧oU (byt l n.toNat)=false)∨n=l.length)):x=bndB l n:=by
 rw[Bool.eq_iff_iff,h];unfold bndB;simp
def encL (r:Int):List UInt8 :=
 if sK r=false then[] else if r<128 then[toByte r] else if r<2048 then[toByte (192+r / 64),toByte (128+r % 64)]
 else if r<65536 then[toByte (224+r / 4096),toByte (128+r / 64 % 64),toByte (128+r % 64)]
 else[toByte (240+r / 262144),toByte (128+r / 4096 % 64),toByte (128+r / 64 % 64),toByte (128+r % 64)]
def encE (r:Int):Int:=if sK r=false then 2 else 0
theorem aMh {r:Int} (h:sK r=true):0≤r∧r≤1114111:=by unfold sK at h;simp at h;omega
theorem aMi {r:Int} {n:Int} (h:lenB r=n):(n=0∧sK r=false)∨(sK r=true∧0≤r∧((n=1∧r<128)∨(n=2∧128≤r∧r<2048)∨(n=3∧2048≤r∧r<65536)∨(n=4∧65536≤r∧r≤1114111))):=by
 unfold lenB at h
 split at h
 ·exact .inl ⟨by omega,by assumption⟩
 ·have:=aMh (r:=r) (by simpa using ‹¬ sK r=false›)
  refine .inr ⟨by simpa using ‹¬ sK r=false›,by omega,?_⟩
  repeat' split at h
  all_goals omega
def decC (l:List UInt8) (n:Int):Bool:=(decide (n<2) || oU (byt l 1)) && (decide (n<3) || oU (byt l 2)) && (decide (n<4) || oU (byt l 3))
def decR (l:List UInt8) (n:Int):Int :=
 if n<2 then byt l 0 else if n<3 then 64*(byt l 0-192)+(byt l 1-128)
 else if n<4 then 64*(64*(byt l 0-224)+(byt l 1-128))+(byt l 2-128)
 else 64*(64*(64*(byt l 0-240)+(byt l 1-128))+(byt l 2-128))+(byt l 3-128)
def decL (l:List UInt8):Int × Int × Int :=
 if l=[] then (0,0,3) else if annB (byt l 0)=0∨(l.length:Int)<annB (byt l 0) then (0,0,11)
 else if decC l (annB (byt l 0)) && (lenB (decR l (annB (byt l 0))) == annB (byt l 0)) then (decR l (annB (byt l 0)),annB (byt l 0),0) else (0,0,11)
theorem aHd {b n:Int} (h:annB b=n):(n=0)∨(n=1∧b<128)∨(n=2∧194≤b∧b≤223)∨(n=3∧224≤b∧b≤239)∨(n=4∧240≤b∧b≤244):=by
 unfold annB at h
 repeat' split at h
 all_goals omega
theorem zJ {l:List UInt8} (h0:0<l.length) (h:annB (byt l 0)=0∨(l.length:Int)<annB (byt l 0)):decL l=(0,0,11):=by
 unfold decL
 rw[if_neg (by rintro rfl;simp at h0),if_pos h]
theorem tZ {l:List UInt8} {n r:Int} (hn:annB (byt l 0)=n) (h1:1≤n) (h:n≤l.length) (hr:decR l n=r) (hc:decC l n=true) (hl:lenB r=n):decL l=(r,n,0):=by
 unfold decL
 rw[hn,if_neg (by rintro rfl;simp at h;omega),if_neg (by omega),hr,hc,hl]
 simp
theorem nN {l:List UInt8} {n:Int} (hn:annB (byt l 0)=n) (h1:1≤n) (h:n≤l.length) (hc:decC l n=true→lenB (decR l n)≠n):decL l=(0,0,11):=by
 unfold decL
 rw[hn,if_neg (by rintro rfl;simp at h;omega),if_neg (by omega),if_neg]
 simpa using hc
theorem jC {b:Int} (h:oU b=true):128≤b∧b≤191:=by unfold oU at h;simpa using h
theorem vM (l:List UInt8):(∃ n r,decL l=(r,n,0)∧1≤n∧n≤4∧n≤l.length∧annB (byt l 0)=n∧decC l n=true∧decR l n=r∧lenB r=n)∨(l=[]∧decL l=(0,0,3))∨(l≠[]∧decL l=(0,0,11)):=by
 by_cases h0:l=[]
 ·exact .inr (.inl ⟨h0,by simp[decL,h0]⟩)
 by_cases h1:annB (byt l 0)=0∨(l.length:Int)<annB (byt l 0)
 ·exact .inr (.inr ⟨h0,zJ (List.length_pos_iff.2 h0) h1⟩)
 have ha:=aHd (b:=byt l 0) rfl
 by_cases h2:decC l (annB (byt l 0))=true∧lenB (decR l (annB (byt l 0)))=annB (byt l 0)
 ·exact .inl ⟨_,_,tZ rfl (by omega) (by omega) rfl h2.1 h2.2,by omega,by omega,by omega,rfl,h2.1,rfl,h2.2⟩
 ·exact .inr (.inr ⟨h0,nN rfl (by omega) (by omega) fun hc hl=>h2 ⟨hc,hl⟩⟩)
theorem aMj {l:List UInt8} {n:Int} (h1:1≤n) (hn:n≤4) (hlen:n≤l.length) (hc:decC l n=true) (hl:lenB (decR l n)=n)
  (hlo:(n=1∧byt l 0<192)∨(n=2∧192≤byt l 0∧byt l 0<224)∨(n=3∧224≤byt l 0∧byt l 0<240)∨(n=4∧240≤byt l 0)):encL (decR l n)=l.take n.toNat:=by
 have b0:=rM l 0
 have hL:=aMi hl
 have tk:∀ (k:Nat),k≤l.length→l.take k=(List.range k).map fun i=>toByte (byt l i):=by
  intro k hk
  apply List.ext_getElem
  ·simp;omega
  ·intro i hi1 hi2
   simp at hi1 hi2
   simp[aHc l i (by omega)]
 rw[tk _ (by omega)]
 unfold decC at hc
 simp only[Bool.and_eq_true,Bool.or_eq_true,decide_eq_true_eq] at hc
 obtain⟨⟨c1,c2⟩,c3⟩:=hc
 have hr:sK (decR l n)=true:=by
  rcases hL with h | h
  ·omega
  ·exact h.1
 unfold encL
 rw[if_neg (by simp[hr])]
 rcases hL with h | ⟨_,h0,h⟩
 ·omega
 generalize hd:decR l n=r at *
 unfold decR at hd
 rcases hlo with⟨rfl,h⟩ | ⟨rfl,h⟩ | ⟨rfl,h⟩ | ⟨rfl,h⟩
 ·rw[if_pos (by omega)] at hd
  rw[if_pos (by omega),← hd]
  rfl
 ·have c1:=jC (c1.resolve_left (by omega))
  simp only[show ¬ ((2:Int)<2) from by omega,if_false,show ((2:Int)<3) from by omega,if_true] at hd
  rw[if_neg (by omega),if_pos (by omega),show 192+r / 64=byt l 0 from by omega,show 128+r % 64=byt l 1 from by omega]
  rfl
 ·have c1:=jC (c1.resolve_left (by omega))
  have c2:=jC (c2.resolve_left (by omega))
  simp only[show ¬ ((3:Int)<2) from by omega,if_false,show ¬ ((3:Int)<3) from by omega,show ((3:Int)<4) from by omega,if_true] at hd
  rw[if_neg (by omega),if_neg (by omega),if_pos (by omega),show 224+r / 4096=byt l 0 from by omega,show 128+r / 64 % 64=byt l 1 from by omega,show 128+r % 64=byt l 2 from by omega]
  rfl
 ·have c1:=jC (c1.resolve_left (by omega))
  have c2:=jC (c2.resolve_left (by omega))
  have c3:=jC (c3.resolve_left (by omega))
  simp only[show ¬ ((4:Int)<2) from by omega,if_false,show ¬ ((4:Int)<3) from by omega,show ¬ ((4:Int)<4) from by omega] at hd
  rw[if_neg (by omega),if_neg (by omega),if_neg (by omega),show 240+r / 262144=byt l 0 from by omega,show 128+r / 4096 % 64=byt l 1 from by omega,show 128+r / 64 % 64=byt l 2 from by omega,show 128+r % 64=byt l 3 from by omega]
  rfl
def uT:Nat→List UInt8→Bool
 | _,[]=>true
 | 0,_=>false
 | f+1,l=>if (decL l).2.2=0 then uT f (l.drop (decL l).2.1.toNat) else false
def eT (l:List UInt8):Bool:=uT l.length l
theorem zK (f:Nat):uT f []=true:=by cases f<;>rfl
theorem aC2 {l:List UInt8} (h:(decL l).2.2=0):1≤(decL l).2.1∧(decL l).2.1≤l.length:=by
 rcases vM l with⟨n,r,he,h1,h2,h3,_⟩ | ⟨_,he⟩ | ⟨_,he⟩
 ·rw[he];exact⟨h1,h3⟩
 ·rw[he] at h;cases h
 ·rw[he] at h;cases h
theorem aJ6:∀ (f:Nat) (l:List UInt8),l.length≤f→uT f l=uT l.length l:=by
 intro f
 induction f using Nat.strongRecOn with
 | ind f ih =>
  intro l hl
  cases l with
  | nil=>rw[zK,zK]
  | cons a l =>
   cases f with
   | zero=>simp at hl
   | succ f =>
    simp only[List.length_cons,uT]
    split
    ·next h =>
     have hp:=aC2 h
     have hlen:((a::l).drop (decL (a::l)).2.1.toNat).length≤l.length:=by rw[List.length_drop];simp only[List.length_cons] at hp ⊢;omega
     simp only[List.length_cons] at hl
     rw[ih f (by omega) _ (by omega)]
     by_cases hfl:l.length=f
     ·rw[hfl,ih f (by omega) _ (by omega)]
     ·rw[ih l.length (by omega) _ hlen]
    ·rfl
theorem nQ {l:List UInt8} (h:l≠[]):eT l=if (decL l).2.2=0 then eT (l.drop (decL l).2.1.toNat) else false:=by
 cases l with
 | nil=>exact absurd rfl h
 | cons a l =>
  unfold eT
  simp only[List.length_cons,uT]
  split
  ·next h =>
   have hp:=aC2 h
   rw[aJ6 l.length _ (by rw[List.length_drop];simp only[List.length_cons] at hp ⊢;omega)]
  ·rfl
end Go.Proofs.YtdeiocppghhfdaaGreat
namespace Go.Proofs.YtdeiocppghhfdaaGreat
open Go.RowKit
theorem iL {a b:Bool} (h:a=b):Ending.returned (.bool a) = .returned (.bool b):=by rw[h]
theorem yN {k:IntKind} {a b:Int} (h:a=b):Ending.returned (.int k a) = .returned (.int k b):=by rw[h]
theorem nO (b:Int) (w:World):Calls Tryz.prog 235 #[.int .u8 b] w fun e w'=>e = .returned (.bool (oU b))∧w=w':=by
 go_enter Tryz.func235,Tryz.ntmps235
 go_wp2
 all_goals (go_ret;exact⟨iL (by simp[oU];omega),rfl⟩)
theorem kK (b:Int) (w:World):Calls Tryz.prog 234 #[.int .u8 b] w fun e w'=>e = .returned (.int .i64 (annB b))∧w=w':=by
 go_enter Tryz.func234,Tryz.ntmps234
 go_wp2
 all_goals (go_ret;exact⟨yN (by unfold annB;repeat (first | omega | split)),rfl⟩)
theorem rO (b:Int) (w:World):Calls Tryz.prog 236 #[.int .i64 b] w fun e w'=>e = .returned (.int .i64 (lenB b))∧w=w':=by
 go_enter Tryz.func236,Tryz.ntmps236
 go_wp2
 all_goals (go_ret;exact⟨yN (by unfold lenB sK;simp only[decide_eq_false_iff_not];repeat (first | omega | split)),rfl⟩)
theorem aC3 (s:ByteArray) (n:Int) (w:World):Calls Tryz.prog 238 #[.string s,.int .i64 n] w fun e w'=>e = .returned (.bool (bndB s.data.toList n))∧w=w':=by
 have hl:s.data.toList.length=s.size:=by simp
 have hb:∀ h:n.toNat<s.size,((s[n.toNat]'h).toNat:Int)=byt s.data.toList n.toNat:=fun h=>nD s _ _
 have HB:=Lib.hid hb;clear hb
 have HL:=Lib.hid hl;clear hl
 go_enter Tryz.func238,Tryz.ntmps238
 go_wp2_with (go_at_call 235;refine (nO _ _).mono ?_;rintro e w' ⟨rfl,rfl⟩)
 all_goals (go_ret;refine⟨iL (aJ5 ?_),rfl⟩;rw[HL.out];first | (rw[← HB.out (by omega)];simp[*];done) | (simp[*];done) | (simp[*];omega))
end Go.Proofs.YtdeiocppghhfdaaGreat
namespace Go.Proofs.YtdeiocppghhfdaaGreat
open Go.RowKit
theorem aMk (a b:Nat) (ha:a<9223372036854775808) (hb:b<9223372036854775808):bits .and .i64 (a:Int) (b:Int)=((a &&& b:Nat):Int):=by
 have hx:a &&& b<2 ^ 63:=Nat.and_lt_two_pow _ (by omega)
 show IntKind.i64.wrap ((BitVec.ofInt 64 (a:Int) &&& BitVec.ofInt 64 (b:Int)).toNat:Int)=_
 rw[BitVec.toNat_and,BitVec.ofInt_natCast,BitVec.toNat_ofNat,BitVec.ofInt_natCast,BitVec.toNat_ofNat,Nat.mod_eq_of_lt (by omega),Nat.mod_eq_of_lt (by omega),IntKind.wrap_i64]
 omega
theorem aO7 (a b:Nat) (ha:a<9223372036854775808) (hb:b<9223372036854775808):bits .or .i64 (a:Int) (b:Int)=((a ||| b:Nat):Int):=by
 have hx:a ||| b<2 ^ 63:=Nat.or_lt_two_pow (by omega) (by omega)
 show IntKind.i64.wrap ((BitVec.ofInt 64 (a:Int) ||| BitVec.ofInt 64 (b:Int)).toNat:Int)=_
 rw[BitVec.toNat_or,BitVec.ofInt_natCast,BitVec.toNat_ofNat,BitVec.ofInt_natCast,BitVec.toNat_ofNat,Nat.mod_eq_of_lt (by omega),Nat.mod_eq_of_lt (by omega),IntKind.wrap_i64]
 omega
theorem zL (k:Nat) (x:Int) (hk:k≤62) (h0:0≤x) (h1:x<9223372036854775808):bits .and .i64 x ((2 ^ k-1:Nat):Int)=x % ((2 ^ k:Nat):Int):=by
 obtain⟨n,rfl⟩:=Int.eq_ofNat_of_zero_le h0
 have h2:2 ^ k≤2 ^ 62:=Nat.pow_le_pow_right (by omega) hk
 rw[aMk n _ (by omega) (by omega),Nat.and_two_pow_sub_one_eq_mod]
 simp
theorem bits_join (k a:Nat) (y:Int) (hk:k≤62) (ha:2 ^ k*a<9223372036854775808) (h0:0≤y) (h1:y<((2 ^ k:Nat):Int)):bits .or .i64 ((2 ^ k*a:Nat):Int) y=((2 ^ k*a:Nat):Int)+y:=by
 obtain⟨n,rfl⟩:=Int.eq_ofNat_of_zero_le h0
 have h2:2 ^ k≤2 ^ 62:=Nat.pow_le_pow_right (by omega) hk
 rw[aO7 _ n ha (by omega),← Nat.two_pow_add_eq_or_of_lt (by omega)]
 simp
theorem aC4 (w:World) (o:Obj):Below w.heap.size w (w.alloc o):=(Below.refl _ _).alloc (Nat.le_refl _) _
theorem jR {l:List UInt8} {a b c:Int} (h:decL l=(a,b,c)):Ending.returned (.tuple #[.int .i64 a,.int .i64 b,.int .i64 c]) = .returned (.tuple #[.int .i64 (decL l).1,.int .i64 (decL l).2.1,.int .i64 (decL l).2.2]):=by rw[h]
theorem or64 (x y:Int) (h0:0≤x) (h1:x<1048576) (h2:0≤y) (h3:y<64):bits .or .i64 (x*64) y=x*64+y:=by
 obtain⟨n,rfl⟩:=Int.eq_ofNat_of_zero_le h0
 have h:=bits_join 6 n y (by omega) (by omega) h2 h3
 have e:((2 ^ 6*n:Nat):Int)=(n:Int)*64:=by omega
 rw[e] at h
 exact h
theorem zM {s:ByteArray} (h:0<s.size):s.toList.isEmpty=false:=by
 rw[← decide_eq_emptyBytes]
 simp
 rintro rfl
 simp at h
theorem zN (s:ByteArray) (w:World):Calls Tryz.prog 187 #[.string s] w fun e w'=>e = .returned (.tuple #[.int .i64 (decL s.data.toList).1,.int .i64 (decL s.data.toList).2.1,.int .i64 (decL s.data.toList).2.2])∧w=w':=by
 by_cases hs0:s.size=0
 ·have:s=ByteArray.empty:=by apply ByteArray.ext;apply Array.toList_inj.1;apply List.eq_nil_of_length_eq_zero;simpa using hs0
  subst this
  clear hs0
  go_enter Tryz.func187,Tryz.ntmps187
  go_wp2
  go_returns
  exact⟨jR rfl,rfl⟩
 have hs:0<s.size:=by omega
 clear hs0
 have hne:=zM hs
 have hb0:=nD s 0 hs
 have l0:=rM s.data.toList 0
 have u0:=uS s.data.toList 0
 have hl:s.data.toList.length=s.size:=by simp
 have HL:=Lib.hid hl;clear hl
 have hA:=aHd (b:=byt s.data.toList 0) rfl
 have e1:bits .and .i64 (byt s.data.toList 0) 31=byt s.data.toList 0 % 32:=zL 5 _ (by omega) (by omega) (by omega)
 have e2:bits .and .i64 (byt s.data.toList 0) 15=byt s.data.toList 0 % 16:=zL 4 _ (by omega) (by omega) (by omega)
 have e3:bits .and .i64 (byt s.data.toList 0) 7=byt s.data.toList 0 % 8:=zL 3 _ (by omega) (by omega) (by omega)
 generalize hn:annB (byt s.data.toList 0)=n at hA
 have Hn:=Lib.hid hn;clear hn
 by_cases hlong:(s.size:Int)<n
 ·have hn0:(n == 0)=false:=by simp;omega
  have Hl:=Lib.hid hlong
  clear hA
  go_enter Tryz.func187,Tryz.ntmps187
  go_wp2_with (first | (go_at_call 234;refine (kK _ _).mono ?_;rw[Hn.out];rintro e w' ⟨rfl,rfl⟩))
  go_returns
  refine⟨jR (zJ (by rw[HL.out];exact hs) ?_),rfl⟩
  rw[Hn.out,HL.out]
  exact .inr Hl.out
 have hfit:n≤s.size:=by omega
 clear hlong
 rcases hA with h | ⟨h,hb⟩ | ⟨h,hb⟩ | ⟨h,hb⟩ | ⟨h,hb⟩
 ·subst h
  go_enter Tryz.func187,Tryz.ntmps187
  go_wp2_with (first | (go_at_call 234;refine (kK _ _).mono ?_;rw[Hn.out];rintro e w' ⟨rfl,rfl⟩))
  go_returns
  refine⟨jR (zJ (by rw[HL.out];exact hs) (.inl Hn.out)),rfl⟩
 ·subst h
  have hL:lenB (byt s.data.toList 0)=1:=by
   unfold lenB sK
   rw[if_neg (by simp;omega),if_pos hb]
  have HLB:=Lib.hid hL;clear hL hfit e1 e2 e3
  have hd:decide ((s.size:Int)<1)=false:=by simp;omega
  go_enter Tryz.func187,Tryz.ntmps187
  go_wp2_with (first | (go_at_call 234;refine (kK _ _).mono ?_;rw[Hn.out];rintro e w' ⟨rfl,rfl⟩))
  refine wp_loop_rounds 1 ?_
  rw[rounds_succ]
  go_wp2_with (go_at_call 236;refine (rO _ _).mono ?_;rw[HLB.out];rintro e w' ⟨rfl,rfl⟩)
  go_returns
  exact⟨jR (tZ Hn.out (by omega) (by rw[HL.out];omega) (by simp[decR]) (by simp[decC]) HLB.out),rfl⟩
 ·subst h
  obtain⟨hlo,hhi⟩:=hb
  have hb1:=nD s 1 (by omega)
  have l1:=rM s.data.toList 1
  have u1:=uS s.data.toList 1
  have f1:=or64 (byt s.data.toList 0 % 32) (byt s.data.toList 1 % 64) (by omega) (by omega) (by omega) (by omega)
  go_enter Tryz.func187,Tryz.ntmps187
  go_wp2_with (first | (go_at_call 234;refine (kK _ _).mono ?_;rw[Hn.out];rintro e w' ⟨rfl,rfl⟩))
  refine wp_loop_rounds 4 ?_
  repeat any_goals (rw[rounds_succ];go_wp2_with (first | (go_at_call 235;refine (nO _ _).mono ?_;rintro e w' ⟨rfl,rfl⟩) | (go_at_call 236;refine (rO _ _).mono ?_;rintro e w' ⟨rfl,rfl⟩)))
  ·go_returns
   refine⟨jR (nN Hn.out (by omega) (by rw[HL.out];omega) fun h => ?_),rfl⟩
   exact absurd h (by unfold decC;simp_all)
  ·go_returns
   refine⟨jR (nN Hn.out (by omega) (by rw[HL.out];omega) fun _ => ?_),rfl⟩
   have c1:=jC (b:=byt s.data.toList 1) (by simp_all)
   have ex:byt s.data.toList 0 % 32*64+byt s.data.toList 1 % 64=decR s.data.toList 2:=by
    unfold decR;simp;omega
   rw[← ex]
   simp_all
  ·go_returns
   have c1:=jC (b:=byt s.data.toList 1) (by simp_all)
   have ex:byt s.data.toList 0 % 32*64+byt s.data.toList 1 % 64=decR s.data.toList 2:=by
    unfold decR;simp;omega
   exact⟨jR (tZ Hn.out (by omega) (by rw[HL.out];omega) ex.symm (by unfold decC;simp_all) (by simp_all)),rfl⟩
 ·subst h
  obtain⟨hlo,hhi⟩:=hb
  have hb1:=nD s 1 (by omega)
  have l1:=rM s.data.toList 1
  have u1:=uS s.data.toList 1
  have hb2:=nD s 2 (by omega)
  have l2:=rM s.data.toList 2
  have u2:=uS s.data.toList 2
  have f1:=or64 (byt s.data.toList 0 % 16) (byt s.data.toList 1 % 64) (by omega) (by omega) (by omega) (by omega)
  have f2:=or64 (byt s.data.toList 0 % 16*64+byt s.data.toList 1 % 64) (byt s.data.toList 2 % 64) (by omega) (by omega) (by omega) (by omega)
  go_enter Tryz.func187,Tryz.ntmps187
  go_wp2_with (first | (go_at_call 234;refine (kK _ _).mono ?_;rw[Hn.out];rintro e w' ⟨rfl,rfl⟩))
  refine wp_loop_rounds 4 ?_
  repeat any_goals (rw[rounds_succ];go_wp2_with (first | (go_at_call 235;refine (nO _ _).mono ?_;rintro e w' ⟨rfl,rfl⟩) | (go_at_call 236;refine (rO _ _).mono ?_;rintro e w' ⟨rfl,rfl⟩)))
  ·go_returns
   refine⟨jR (nN Hn.out (by omega) (by rw[HL.out];omega) fun h => ?_),rfl⟩
   exact absurd h (by unfold decC;simp_all)
  ·go_returns
   refine⟨jR (nN Hn.out (by omega) (by rw[HL.out];omega) fun h => ?_),rfl⟩
   exact absurd h (by unfold decC;simp_all)
  ·go_returns
   refine⟨jR (nN Hn.out (by omega) (by rw[HL.out];omega) fun _ => ?_),rfl⟩
   have c1:=jC (b:=byt s.data.toList 1) (by simp_all)
   have c2:=jC (b:=byt s.data.toList 2) (by simp_all)
   have ex:(byt s.data.toList 0 % 16*64+byt s.data.toList 1 % 64)*64+byt s.data.toList 2 % 64=decR s.data.toList 3:=by
    unfold decR;simp;omega
   rw[← ex]
   simp_all
  ·go_returns
   have c1:=jC (b:=byt s.data.toList 1) (by simp_all)
   have c2:=jC (b:=byt s.data.toList 2) (by simp_all)
   have ex:(byt s.data.toList 0 % 16*64+byt s.data.toList 1 % 64)*64+byt s.data.toList 2 % 64=decR s.data.toList 3:=by
    unfold decR;simp;omega
   exact⟨jR (tZ Hn.out (by omega) (by rw[HL.out];omega) ex.symm (by unfold decC;simp_all) (by simp_all)),rfl⟩
 ·subst h
  obtain⟨hlo,hhi⟩:=hb
  have hb1:=nD s 1 (by omega)
  have l1:=rM s.data.toList 1
  have u1:=uS s.data.toList 1
  have hb2:=nD s 2 (by omega)
  have l2:=rM s.data.toList 2
  have u2:=uS s.data.toList 2
  have hb3:=nD s 3 (by omega)
  have l3:=rM s.data.toList 3
  have u3:=uS s.data.toList 3
  have f1:=or64 (byt s.data.toList 0 % 8) (byt s.data.toList 1 % 64) (by omega) (by omega) (by omega) (by omega)
  have f2:=or64 (byt s.data.toList 0 % 8*64+byt s.data.toList 1 % 64) (byt s.data.toList 2 % 64) (by omega) (by omega) (by omega) (by omega)
  have f3:=or64 ((byt s.data.toList 0 % 8*64+byt s.data.toList 1 % 64)*64+byt s.data.toList 2 % 64) (byt s.data.toList 3 % 64) (by omega) (by omega) (by omega) (by omega)
  go_enter Tryz.func187,Tryz.ntmps187
  go_wp2_with (first | (go_at_call 234;refine (kK _ _).mono ?_;rw[Hn.out];rintro e w' ⟨rfl,rfl⟩))
  refine wp_loop_rounds 4 ?_
  repeat any_goals (rw[rounds_succ];go_wp2_with (first | (go_at_call 235;refine (nO _ _).mono ?_;rintro e w' ⟨rfl,rfl⟩) | (go_at_call 236;refine (rO _ _).mono ?_;rintro e w' ⟨rfl,rfl⟩)))
  ·go_returns
   refine⟨jR (nN Hn.out (by omega) (by rw[HL.out];omega) fun h => ?_),rfl⟩
   exact absurd h (by unfold decC;simp_all)
  ·go_returns
   refine⟨jR (nN Hn.out (by omega) (by rw[HL.out];omega) fun h => ?_),rfl⟩
   exact absurd h (by unfold decC;simp_all)
  ·go_returns
   refine⟨jR (nN Hn.out (by omega) (by rw[HL.out];omega) fun h => ?_),rfl⟩
   exact absurd h (by unfold decC;simp_all)
  ·go_returns
   refine⟨jR (nN Hn.out (by omega) (by rw[HL.out];omega) fun _ => ?_),rfl⟩
   have c1:=jC (b:=byt s.data.toList 1) (by simp_all)
   have c2:=jC (b:=byt s.data.toList 2) (by simp_all)
   have c3:=jC (b:=byt s.data.toList 3) (by simp_all)
   have ex:((byt s.data.toList 0 % 8*64+byt s.data.toList 1 % 64)*64+byt s.data.toList 2 % 64)*64+byt s.data.toList 3 % 64=decR s.data.toList 4:=by
    unfold decR;simp;omega
   rw[← ex]
   simp_all
  ·go_returns
   have c1:=jC (b:=byt s.data.toList 1) (by simp_all)
   have c2:=jC (b:=byt s.data.toList 2) (by simp_all)
   have c3:=jC (b:=byt s.data.toList 3) (by simp_all)
   have ex:((byt s.data.toList 0 % 8*64+byt s.data.toList 1 % 64)*64+byt s.data.toList 2 % 64)*64+byt s.data.toList 3 % 64=decR s.data.toList 4:=by
    unfold decR;simp;omega
   exact⟨jR (tZ Hn.out (by omega) (by rw[HL.out];omega) ex.symm (by unfold decC;simp_all) (by simp_all)),rfl⟩
end Go.Proofs.YtdeiocppghhfdaaGreat
namespace Go.Proofs.YtdeiocppghhfdaaGreat
open Go.RowKit
theorem zO {s:ByteArray} (h:s.toList.isEmpty=false):0<s.size:=by
 rw[← decide_eq_emptyBytes] at h
 simp at h
 rcases Nat.eq_zero_or_pos s.size with h0 | h0
 ·exfalso;apply h;apply ByteArray.ext;apply Array.toList_inj.1;apply List.eq_nil_of_length_eq_zero;simpa using h0
 ·exact h0
theorem aC5 {s:ByteArray} (h:s.toList.isEmpty=true):s.data.toList=[]:=by
 rw[Lib.toList_data] at h;simpa using h
end Go.Proofs.YtdeiocppghhfdaaGreat
namespace Go.Proofs.YtdeiocppghhfdaaGreat
open Go.RowKit
theorem aA9 {s:ByteArray} (h:0<s.size):s.data.toList≠[]:=by
 intro h2
 have h3:s.data.toList.length=s.size:=by simp
 rw[h2,List.length_nil] at h3
 omega
theorem nE (s:ByteArray) (w:World):Calls Tryz.prog 135 #[.string s] w fun e w'=>e = .returned (.bool (eT s.data.toList))∧w=w':=by
 go_enter Tryz.func135,Tryz.ntmps135
 go_wp2
 go_loop [0,3,4,5] (fun t r n e=>∃ u:ByteArray,t = .string u∧eT u.data.toList=eT s.data.toList) (fun t r n e=>match t with | .string u=>u.size | _=>0)
 case atStart=>exact⟨s,rfl,rfl⟩
 case round =>
  obtain⟨u,rfl,hv⟩:=hrel
  have Hv:=Lib.hid hv;clear hv
  by_cases hne:u.toList.isEmpty=true
  ·have h1:(!u.toList.isEmpty)=false:=by simp[hne]
   go_wp2
   go_ret
   exact⟨iL (by rw[← Hv.out,aC5 hne];rfl),rfl⟩
  ·have hne:u.toList.isEmpty=false:=by simpa using hne
   have hpos:=zO hne
   have hstep:=nQ (l:=u.data.toList) (aA9 hpos)
   have Hs:=Lib.hid hstep;clear hstep
   by_cases hd:(decL u.data.toList).2.2=0
   ·have hp:=aC2 hd
    have hl:u.data.toList.length=u.size:=by simp
    rw[hl] at hp
    obtain⟨hp1,hp2⟩:=hp
    have hd':((decL u.data.toList).2.2 != 0)=false:=by simp[hd]
    have Hd:=Lib.hid hd;clear hd
    clear hl
    go_wp2_with (go_at_call 187;refine (zN _ _).mono ?_;rintro e w' ⟨rfl,rfl⟩)
    go_round
    case rel=>exact⟨_,rfl,by rw[Lib.extract_to_end,← Hv.out,Hs.out,if_pos Hd.out]⟩
    case measure=>simp;omega
   ·have hd':((decL u.data.toList).2.2 != 0)=true:=by simp[hd]
    have Hd:=Lib.hid hd;clear hd
    go_wp2_with (go_at_call 187;refine (zN _ _).mono ?_;rintro e w' ⟨rfl,rfl⟩)
    go_ret
    exact⟨iL (by rw[← Hv.out,Hs.out,if_neg Hd.out]),rfl⟩
end Go.Proofs.YtdeiocppghhfdaaGreat
namespace Go.Proofs.YtdeiocppghhfdaaGreat
open Go.RowKit
structure CfgV where
 slots:Int
 gens:Int
 clients:Int
 readers:Int
 queue:Int
 batch:Int
 feed:Int
 text:ByteArray
theorem aHe (v lo hi:Int) (w:World):Calls Tryz.prog 134 #[.int .i64 v,.int .i64 lo,.int .i64 hi] w fun e w'=>e = .returned (.bool (decide (lo≤v) && decide (v≤hi)))∧w=w':=by
 go_enter Tryz.func134,Tryz.ntmps134
 go_wp2
 all_goals (go_ret;exact⟨iL (by simp[*];try omega),rfl⟩)
def CfgV.v (c:CfgV):Value := .agg #[.int .i64 c.slots,.int .u64 c.gens,.int .i64 c.clients,.int .i64 c.readers,.int .i64 c.queue,.int .i64 c.batch,.int .i64 c.feed,.string c.text]
def inB (v lo hi:Int):Bool:=decide (lo≤v) && decide (v≤hi)
def cfgB (c:CfgV):Bool:=inB c.slots 1 16384 && inB c.gens 1 4294967295 && inB c.clients 0 8 && inB c.readers 0 8 && inB c.queue 1 64 && inB c.batch 1 16 && inB c.feed 1 64
def cfgE (c:CfgV):Int:=if cfgB c then (if c.text.size>65536 then 5 else if eT c.text.data.toList then 0 else 11) else 2
end Go.Proofs.YtdeiocppghhfdaaGreat
namespace Go.Proofs.YtdeiocppghhfdaaGreat
open Go.RowKit
theorem aHf (v lo hi:Int) (w:World):Calls Tryz.prog 134 #[.int .i64 v,.int .i64 lo,.int .i64 hi] w fun e w'=>e = .returned (.bool (inB v lo hi))∧w=w':=aHe v lo hi w
theorem nG {a b:Int} (h:a=b):Ending.returned (.int .i64 a) = .returned (.int .i64 b):=by rw[h]
theorem aC6 (b:Int):inB b 1 4294967295=(!(decide (b<1) || decide (4294967295<b))):=by unfold inB;rw[Bool.eq_iff_iff];simp
theorem zP (c:CfgV) (w:World):Calls Tryz.prog 98 #[c.v] w fun e w'=>e = .returned (.int .i64 (cfgE c))∧Below w.heap.size w w':=by
 obtain⟨a,b,c',d,e,f,g,s⟩:=c
 unfold CfgV.v
 go_enter Tryz.func98,Tryz.ntmps98
 go_wp2_with (first | (go_at_call 134;refine (aHf _ _ _ _).mono ?_;rintro e w' ⟨rfl,rfl⟩) | (go_at_call 135;refine (nE _ _).mono ?_;rintro e w' ⟨rfl,rfl⟩))
 all_goals (go_ret;refine⟨nG ?_,aC4 _ _⟩)
 all_goals (first | (simp[cfgE,cfgB, *];done) | (simp only[cfgE,cfgB,aC6, *];simp_all;done) | (simp only[cfgE,cfgB,aC6, *];simp_all;omega) | (rename_i h;rcases h with (h | h) | h<;>first | omega | (simp[cfgE,cfgB, *];done) | (simp only[cfgE,cfgB,aC6, *];simp_all;done)))
end Go.Proofs.YtdeiocppghhfdaaGreat
namespace Go.Proofs.YtdeiocppghhfdaaGreat
open Go.RowKit
structure OpV where
 kind:Int
 slot:Int
 at_:Int
 n:Int
 id:Int
 grav:Int
 text:ByteArray
deriving DecidableEq,Inhabited
def OpV.v (o:OpV):Value := .agg #[.int .u8 o.kind,.int .i64 o.slot,.int .i64 o.at_,.int .i64 o.n,.int .u32 o.id,.int .u8 o.grav,.string o.text]
end Go.Proofs.YtdeiocppghhfdaaGreat
namespace Go.Proofs.YtdeiocppghhfdaaGreat
open Go.RowKit
theorem te1 (t:ByteArray):(t.toList=[])=(t.size=0):=by
 rw[Lib.toList_data]
 apply propext
 constructor
 ·intro h;have:=congrArg List.length h;simpa using this
 ·intro h;apply List.eq_nil_of_length_eq_zero;simpa using h
theorem te2 (t:ByteArray):(t.toList.isEmpty=true)=(t.size=0):=by rw[List.isEmpty_iff,te1]
theorem te3 (t:ByteArray):(t.toList.isEmpty=false)=¬(t.size=0):=by rw[← te2];simp
def opP (o:OpV):Prop:=1≤o.kind∧o.kind≤16∧0≤o.at_∧0≤o.n∧0≤o.slot∧(6≤o.kind∧o.kind≤13∨o.slot=0)∧(o.kind=1∨o.kind=2∨o.kind=3∨o.kind=7∨o.kind=11∨o.at_=0) ∧
 (o.kind=2∨o.kind=7∨o.kind=8∨o.kind=9∨o.kind=12∨o.n=0)∧((o.kind=3∨o.kind=4∨o.kind=10)∧o.id≠0∨¬(o.kind=3∨o.kind=4∨o.kind=10)∧o.id=0) ∧
 (o.kind=3∨o.grav=0)∧o.grav≤1∧(o.kind=1∧o.text.size≠0∨o.kind≠1∧o.text.size=0)∧(o.kind=2→o.n≠0)
instance (o:OpV):Decidable (opP o):=by unfold opP;infer_instance
def opE (o:OpV):Int:=if opP o then (if o.text.size>256 then 5 else if eT o.text.data.toList then 0 else 11) else 2
theorem aBr {o:OpV} (h:¬opP o):2=opE o:=by unfold opE;rw[if_neg h]
theorem aBs {o:OpV} (h:opP o) (h2:256<o.text.size):5=opE o:=by unfold opE;rw[if_pos h,if_pos h2]
theorem wZ {o:OpV} (h:opP o) (h2:o.text.size≤256) (h3:(!eT o.text.data.toList)=true):11=opE o:=by unfold opE;rw[if_pos h,if_neg (by omega),if_neg (by simpa using h3)]
theorem aBt {o:OpV} (h:opP o) (h2:o.text.size≤256) (h3:(!eT o.text.data.toList)=false):0=opE o:=by unfold opE;rw[if_pos h,if_neg (by omega),if_pos (by simpa using h3)]
theorem aBa (o:OpV) (w:World) (hk:o.kind=1∨o.kind=2∨o.kind=3):Calls Tryz.prog 136 #[o.v] w fun e w'=>e = .returned (.int .i64 (opE o))∧Below w.heap.size w w':=by
 have hb:=fun (o1 o2:Obj)=>((Below.refl w.heap.size w).alloc (Nat.le_refl _) o1).alloc (by simp) o2
 obtain⟨k,s,a,n,i,g,t⟩:=o
 unfold OpV.v
 rcases hk with hk | hk | hk
 all_goals (replace hk:k=_:=hk;subst hk)
 all_goals
  go_enter Tryz.func136,Tryz.ntmps136
  go_wp2_with fail
  try go_region
  all_goals go_wp2_with (go_at_call 135;refine (nE _ _).mono ?_;rintro e w' ⟨rfl,rfl⟩)
  all_goals (go_ret;refine⟨nG ?_,by first | exact hb _ _ | exact (hb _ _).drew⟩)
  all_goals ((try simp only[te1,te2,te3,beq_iff_eq] at *);first | exact aBs (by unfold opP;dsimp only;omega) (by dsimp only;omega) | exact wZ (by unfold opP;dsimp only;omega) (by dsimp only;omega) (by assumption) | exact aBt (by unfold opP;dsimp only;omega) (by dsimp only;omega) (by assumption) | exact aBr (by unfold opP;dsimp only;omega))
theorem aBb (o:OpV) (w:World) (hk:o.kind=4∨o.kind=5∨o.kind=6):Calls Tryz.prog 136 #[o.v] w fun e w'=>e = .returned (.int .i64 (opE o))∧Below w.heap.size w w':=by
 have hb:=fun (o1 o2:Obj)=>((Below.refl w.heap.size w).alloc (Nat.le_refl _) o1).alloc (by simp) o2
 obtain⟨k,s,a,n,i,g,t⟩:=o
 unfold OpV.v
 rcases hk with hk | hk | hk
 all_goals (replace hk:k=_:=hk;subst hk)
 all_goals
  go_enter Tryz.func136,Tryz.ntmps136
  go_wp2_with fail
  try go_region
  all_goals go_wp2_with (go_at_call 135;refine (nE _ _).mono ?_;rintro e w' ⟨rfl,rfl⟩)
  all_goals (go_ret;refine⟨nG ?_,by first | exact hb _ _ | exact (hb _ _).drew⟩)
  all_goals ((try simp only[te1,te2,te3,beq_iff_eq] at *);first | exact aBs (by unfold opP;dsimp only;omega) (by dsimp only;omega) | exact wZ (by unfold opP;dsimp only;omega) (by dsimp only;omega) (by assumption) | exact aBt (by unfold opP;dsimp only;omega) (by dsimp only;omega) (by assumption) | exact aBr (by unfold opP;dsimp only;omega))
theorem aBc (o:OpV) (w:World) (hk:o.kind=7∨o.kind=8∨o.kind=9):Calls Tryz.prog 136 #[o.v] w fun e w'=>e = .returned (.int .i64 (opE o))∧Below w.heap.size w w':=by
 have hb:=fun (o1 o2:Obj)=>((Below.refl w.heap.size w).alloc (Nat.le_refl _) o1).alloc (by simp) o2
 obtain⟨k,s,a,n,i,g,t⟩:=o
 unfold OpV.v
 rcases hk with hk | hk | hk
 all_goals (replace hk:k=_:=hk;subst hk)
 all_goals
  go_enter Tryz.func136,Tryz.ntmps136
  go_wp2_with fail
  try go_region
  all_goals go_wp2_with (go_at_call 135;refine (nE _ _).mono ?_;rintro e w' ⟨rfl,rfl⟩)
  all_goals (go_ret;refine⟨nG ?_,by first | exact hb _ _ | exact (hb _ _).drew⟩)
  all_goals ((try simp only[te1,te2,te3,beq_iff_eq] at *);first | exact aBs (by unfold opP;dsimp only;omega) (by dsimp only;omega) | exact wZ (by unfold opP;dsimp only;omega) (by dsimp only;omega) (by assumption) | exact aBt (by unfold opP;dsimp only;omega) (by dsimp only;omega) (by assumption) | exact aBr (by unfold opP;dsimp only;omega))
theorem aBd (o:OpV) (w:World) (hk:o.kind=10∨o.kind=11∨o.kind=12):Calls Tryz.prog 136 #[o.v] w fun e w'=>e = .returned (.int .i64 (opE o))∧Below w.heap.size w w':=by
 have hb:=fun (o1 o2:Obj)=>((Below.refl w.heap.size w).alloc (Nat.le_refl _) o1).alloc (by simp) o2
 obtain⟨k,s,a,n,i,g,t⟩:=o
 unfold OpV.v
 rcases hk with hk | hk | hk
 all_goals (replace hk:k=_:=hk;subst hk)
 all_goals
  go_enter Tryz.func136,Tryz.ntmps136
  go_wp2_with fail
  try go_region
  all_goals go_wp2_with (go_at_call 135;refine (nE _ _).mono ?_;rintro e w' ⟨rfl,rfl⟩)
  all_goals (go_ret;refine⟨nG ?_,by first | exact hb _ _ | exact (hb _ _).drew⟩)
  all_goals ((try simp only[te1,te2,te3,beq_iff_eq] at *);first | exact aBs (by unfold opP;dsimp only;omega) (by dsimp only;omega) | exact wZ (by unfold opP;dsimp only;omega) (by dsimp only;omega) (by assumption) | exact aBt (by unfold opP;dsimp only;omega) (by dsimp only;omega) (by assumption) | exact aBr (by unfold opP;dsimp only;omega))
theorem aBe (o:OpV) (w:World) (hk:o.kind=13∨o.kind=14∨o.kind=15∨o.kind=16):Calls Tryz.prog 136 #[o.v] w fun e w'=>e = .returned (.int .i64 (opE o))∧Below w.heap.size w w':=by
 have hb:=fun (o1 o2:Obj)=>((Below.refl w.heap.size w).alloc (Nat.le_refl _) o1).alloc (by simp) o2
 obtain⟨k,s,a,n,i,g,t⟩:=o
 unfold OpV.v
 rcases hk with hk | hk | hk | hk
 all_goals (replace hk:k=_:=hk;subst hk)
 all_goals
  go_enter Tryz.func136,Tryz.ntmps136
  go_wp2_with fail
  try go_region
  all_goals go_wp2_with (go_at_call 135;refine (nE _ _).mono ?_;rintro e w' ⟨rfl,rfl⟩)
  all_goals (go_ret;refine⟨nG ?_,by first | exact hb _ _ | exact (hb _ _).drew⟩)
  all_goals ((try simp only[te1,te2,te3,beq_iff_eq] at *);first | exact aBs (by unfold opP;dsimp only;omega) (by dsimp only;omega) | exact wZ (by unfold opP;dsimp only;omega) (by dsimp only;omega) (by assumption) | exact aBt (by unfold opP;dsimp only;omega) (by dsimp only;omega) (by assumption) | exact aBr (by unfold opP;dsimp only;omega))
theorem aBf (o:OpV) (w:World) (hk:¬(1≤o.kind∧o.kind≤16)):Calls Tryz.prog 136 #[o.v] w fun e w'=>e = .returned (.int .i64 (opE o))∧Below w.heap.size w w':=by
 have hb:=fun (o1 o2:Obj)=>((Below.refl w.heap.size w).alloc (Nat.le_refl _) o1).alloc (by simp) o2
 obtain⟨k,s,a,n,i,g,t⟩:=o
 replace hk:¬(1≤k∧k≤16):=hk
 have hne:∀ j:Int,1≤j→j≤16→(k == j)=false:=fun j h1 h2=>by simp;omega
 have n1:=hne 1 (by decide) (by decide)
 have n2:=hne 2 (by decide) (by decide)
 have n3:=hne 3 (by decide) (by decide)
 have n4:=hne 4 (by decide) (by decide)
 have n5:=hne 5 (by decide) (by decide)
 have n6:=hne 6 (by decide) (by decide)
 have n7:=hne 7 (by decide) (by decide)
 have n8:=hne 8 (by decide) (by decide)
 have n9:=hne 9 (by decide) (by decide)
 have n10:=hne 10 (by decide) (by decide)
 have n11:=hne 11 (by decide) (by decide)
 have n12:=hne 12 (by decide) (by decide)
 have n13:=hne 13 (by decide) (by decide)
 have n14:=hne 14 (by decide) (by decide)
 have n15:=hne 15 (by decide) (by decide)
 have n16:=hne 16 (by decide) (by decide)
 clear hne
 have hk:=Lib.hid hk
 unfold OpV.v
 all_goals
  go_enter Tryz.func136,Tryz.ntmps136
  go_wp2_with fail
  try go_region
  all_goals go_wp2_with (go_at_call 135;refine (nE _ _).mono ?_;rintro e w' ⟨rfl,rfl⟩)
  all_goals (go_ret;refine⟨nG ?_,by first | exact hb _ _ | exact (hb _ _).drew⟩)
  all_goals (have hk:=hk.out;(try simp only[te1,te2,te3,beq_iff_eq] at *);first | exact aBs (by unfold opP;dsimp only;omega) (by dsimp only;omega) | exact wZ (by unfold opP;dsimp only;omega) (by dsimp only;omega) (by assumption) | exact aBt (by unfold opP;dsimp only;omega) (by dsimp only;omega) (by assumption) | exact aBr (by unfold opP;dsimp only;omega))
theorem yJ (o:OpV) (w:World):Calls Tryz.prog 136 #[o.v] w fun e w'=>e = .returned (.int .i64 (opE o))∧Below w.heap.size w w':=by
 by_cases h:1≤o.kind∧o.kind≤16
 ·by_cases h0:o.kind≤3
  ·exact aBa o w (by omega)
  by_cases h1:o.kind≤6
  ·exact aBb o w (by omega)
  by_cases h2:o.kind≤9
  ·exact aBc o w (by omega)
  by_cases h3:o.kind≤12
  ·exact aBd o w (by omega)
  ·exact aBe o w (by omega)
 ·exact aBf o w h
end Go.Proofs.YtdeiocppghhfdaaGreat
namespace Go.Proofs.YtdeiocppghhfdaaGreat
structure PcV where
 kind:Int
 n:Int
 text:ByteArray
deriving DecidableEq,Inhabited
def pcP (p:PcV):Prop:=((p.kind=1∨p.kind=3)∧1≤p.n∧p.text.size=0)∨(p.kind=2∧p.n=0∧p.text.size≠0)
instance (p:PcV):Decidable (pcP p):=by unfold pcP;infer_instance
def pcB (p:PcV):Bool:=decide (pcP p)
def pcIn (p:PcV):Int:=if p.kind=1∨p.kind=3 then p.n else 0
def fE (p:PcV):Int:=if p.kind=1 then p.n else if p.kind=3 then 0 else p.text.size
def lenF:List PcV→Int→Int→Int × Int × Int
 | [],i,o=>(i,o,0)
 | p::ps,i,o=>if pcB p then (if 1048576-i<pcIn p∨1048576-o<fE p then (0,0,5) else lenF ps (i+pcIn p) (o+fE p)) else (0,0,2)
def lenS (ps:List PcV):Int × Int × Int:=if 4096<ps.length then (0,0,5) else lenF ps 0 0
theorem kQ {p:PcV} (h:pcP p):0≤pcIn p:=by unfold pcP at h;unfold pcIn;split<;>omega
theorem uA {p:PcV} (h:pcP p):0≤fE p:=by unfold pcP at h;unfold fE;(repeat' split)<;>omega
def oV (out:List PcV) (text:List UInt8):List PcV:=if text=[] then out else out++[⟨2,0,⟨text.toArray⟩⟩]
def oW (out:List PcV) (gone:Int):List PcV:=if 0<gone then out++[⟨3,gone,⟨#[]⟩⟩] else out
def iF (out:List PcV) (text:List UInt8) (gone:Int):List PcV:=oW (oV out text) gone
def repD (n at_ k:Int) (t:ByteArray):List PcV :=
 (if 0<at_ then[⟨1,at_,⟨#[]⟩⟩] else[])++(if t.size≠0 then[⟨2,0,t⟩] else[])++(if 0<k then[⟨3,k,⟨#[]⟩⟩] else[])++(if 0<n-at_-k then[⟨1,n-at_-k,⟨#[]⟩⟩] else[])
end Go.Proofs.YtdeiocppghhfdaaGreat
