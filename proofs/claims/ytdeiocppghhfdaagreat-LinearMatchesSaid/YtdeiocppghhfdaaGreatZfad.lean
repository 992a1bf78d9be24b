/- Texts, one behind another. -/
import Derived.Test.YtdeiocppghhfdaaGreatZfaa
import Derived.Lib.Strings
import Derived.WalkKit
import Derived.WalkSpells
import Derived.WalkLawsBesides
import Derived.Lib.Hide
import Derived.Handy
import Derived.Laws.IdiomStrings
import Derived.Lib.IndexBytes
set_option linter.unusedVariables false
set_option linter.unusedSimpArgs false
set_option maxRecDepth 100000
set_option maxHeartbeats 40000000
namespace Go.Proofs.YtdeiocppghhfdaaGreat
def gT (b:Int):Bool:=decide (128≤b∧b≤191)
def annB (b:Int):Int:=if 244<b then 0 else if 240≤b then 4 else if 224≤b then 3 else if 194≤b then 2 else if b<128 then 1 else 0
def iM (r:Int):Bool:=decide (0≤r∧r≤1114111∧(r<55296∨57343<r))
def lenB (r:Int):Int:=if iM r=false then 0 else if r<128 then 1 else if r<2048 then 2 else if r<65536 then 3 else 4
def byt (l:List UInt8) (k:Nat):Int:=((l.getD k 0).toNat:Int)
def toByte (x:Int):UInt8:=UInt8.ofNat x.toNat
theorem dS (s:ByteArray) (k:Nat) (h:k<s.size):((s[k]).toNat:Int)=byt s.data.toList k:=by
 unfold byt
 have:s.data.toList.getD k 0=s[k]:=by
  rw[List.getD_eq_getElem?_getD,gEz (by simpa using h)];rfl
 rw[this]
theorem gU (l:List UInt8) (k:Nat):0≤byt l k:=by unfold byt;omega
theorem iW (l:List UInt8) (k:Nat):byt l k≤255:=by unfold byt;have:=(l.getD k 0).toNat_lt;omega
theorem aDw (l:List UInt8) (k:Nat) (h:k<l.length):toByte (byt l k)=l[k]:=by
 unfold toByte byt
 rw[List.getD_eq_getElem?_getD,gEz h]
 simp
theorem aA4 (l:List UInt8) (a k:Nat):byt (l.drop a) k=byt l (a+k):=by
 unfold byt;simp[List.getD_eq_getElem?_getD]
theorem tH (l m:List UInt8) (k:Nat) (h:k<l.length):byt (l++m) k=byt l k:=by
 unfold byt;simp[List.getD_eq_getElem?_getD,List.getElem?_append_left h]
theorem aA5 (l:List UInt8) (a k:Nat) (h:k<a):byt (l.take a) k=byt l k:=by
 unfold byt;simp[List.getD_eq_getElem?_getD,h]
def bndB (l:List UInt8) (n:Int):Bool:=decide (0≤n) && ((decide (n<l.length) && !gT (byt l n.toNat)) || n == l.length)
theorem xN {l:List UInt8} {n:Int} {x:Bool} (h:x=true↔0≤n∧((n<l.length∧gT (byt l n.toNat)=false)∨n=l.length)):x=bndB l n:=by
 rw[Bool.eq_iff_iff,h];unfold bndB;simp
def encL (r:Int):List UInt8 :=
 if iM r=false then[] else if r<128 then[toByte r] else if r<2048 then[toByte (192+r / 64),toByte (128+r % 64)]
 else if r<65536 then[toByte (224+r / 4096),toByte (128+r / 64 % 64),toByte (128+r % 64)]
 else[toByte (240+r / 262144),toByte (128+r / 4096 % 64),toByte (128+r / 64 % 64),toByte (128+r % 64)]
def encE (r:Int):Int:=if iM r=false then 2 else 0
theorem aA6 {r:Int} (h:iM r=true):0≤r∧r≤1114111:=by unfold iM at h;simp at h;omega
theorem zC {r:Int} {n:Int} (h:lenB r=n):(n=0∧iM r=false)∨(iM r=true∧0≤r∧((n=1∧r<128)∨(n=2∧128≤r∧r<2048)∨(n=3∧2048≤r∧r<65536)∨(n=4∧65536≤r∧r≤1114111))):=by
 unfold lenB at h
 split at h
 ·exact .inl ⟨by omega,by assumption⟩
 ·have:=aA6 (r:=r) (by simpa using ‹¬ iM r=false›)
  refine .inr ⟨by simpa using ‹¬ iM r=false›,by omega,?_⟩
  repeat' split at h
  all_goals omega
theorem aKa (r:Int):((encL r).length:Int)=lenB r:=by
 unfold encL lenB
 repeat' split
 all_goals rfl
def decC (l:List UInt8) (n:Int):Bool:=(decide (n<2) || gT (byt l 1)) && (decide (n<3) || gT (byt l 2)) && (decide (n<4) || gT (byt l 3))
def decR (l:List UInt8) (n:Int):Int :=
 if n<2 then byt l 0 else if n<3 then 64*(byt l 0-192)+(byt l 1-128)
 else if n<4 then 64*(64*(byt l 0-224)+(byt l 1-128))+(byt l 2-128)
 else 64*(64*(64*(byt l 0-240)+(byt l 1-128))+(byt l 2-128))+(byt l 3-128)
def decL (l:List UInt8):Int × Int × Int :=
 if l=[] then (0,0,3) else if annB (byt l 0)=0∨(l.length:Int)<annB (byt l 0) then (0,0,11)
 else if decC l (annB (byt l 0)) && (lenB (decR l (annB (byt l 0))) == annB (byt l 0)) then (decR l (annB (byt l 0)),annB (byt l 0),0) else (0,0,11)
theorem aDx {b n:Int} (h:annB b=n):(n=0)∨(n=1∧b<128)∨(n=2∧194≤b∧b≤223)∨(n=3∧224≤b∧b≤239)∨(n=4∧240≤b∧b≤244):=by
 unfold annB at h
 repeat' split at h
 all_goals omega
theorem lF {l:List UInt8} (h0:0<l.length) (h:annB (byt l 0)=0∨(l.length:Int)<annB (byt l 0)):decL l=(0,0,11):=by
 unfold decL
 rw[if_neg (by rintro rfl;simp at h0),if_pos h]
theorem lG {l:List UInt8} {n r:Int} (hn:annB (byt l 0)=n) (h1:1≤n) (h:n≤l.length) (hr:decR l n=r) (hc:decC l n=true) (hl:lenB r=n):decL l=(r,n,0):=by
 unfold decL
 rw[hn,if_neg (by rintro rfl;simp at h;omega),if_neg (by omega),hr,hc,hl]
 simp
theorem gJ {l:List UInt8} {n:Int} (hn:annB (byt l 0)=n) (h1:1≤n) (h:n≤l.length) (hc:decC l n=true→lenB (decR l n)≠n):decL l=(0,0,11):=by
 unfold decL
 rw[hn,if_neg (by rintro rfl;simp at h;omega),if_neg (by omega),if_neg]
 simpa using hc
theorem dA {b:Int} (h:gT b=true):128≤b∧b≤191:=by unfold gT at h;simpa using h
theorem qA (l:List UInt8):(∃ n r,decL l=(r,n,0)∧1≤n∧n≤4∧n≤l.length∧annB (byt l 0)=n∧decC l n=true∧decR l n=r∧lenB r=n)∨(l=[]∧decL l=(0,0,3))∨(l≠[]∧decL l=(0,0,11)):=by
 by_cases h0:l=[]
 ·exact .inr (.inl ⟨h0,by simp[decL,h0]⟩)
 by_cases h1:annB (byt l 0)=0∨(l.length:Int)<annB (byt l 0)
 ·exact .inr (.inr ⟨h0,lF (List.length_pos_iff.2 h0) h1⟩)
 have ha:=aDx (b:=byt l 0) rfl
 by_cases h2:decC l (annB (byt l 0))=true∧lenB (decR l (annB (byt l 0)))=annB (byt l 0)
 ·exact .inl ⟨_,_,lG rfl (by omega) (by omega) rfl h2.1 h2.2,by omega,by omega,by omega,rfl,h2.1,rfl,h2.2⟩
 ·exact .inr (.inr ⟨h0,gJ rfl (by omega) (by omega) fun hc hl=>h2 ⟨hc,hl⟩⟩)
theorem aA7 {l:List UInt8} {n:Int} (h1:1≤n) (hn:n≤4) (hlen:n≤l.length) (hc:decC l n=true) (hl:lenB (decR l n)=n)
  (hlo:(n=1∧byt l 0<192)∨(n=2∧192≤byt l 0∧byt l 0<224)∨(n=3∧224≤byt l 0∧byt l 0<240)∨(n=4∧240≤byt l 0)):encL (decR l n)=l.take n.toNat:=by
 have b0:=gU l 0
 have hL:=zC hl
 have tk:∀ (k:Nat),k≤l.length→l.take k=(List.range k).map fun i=>toByte (byt l i):=by
  intro k hk
  apply List.ext_getElem
  ·simp;omega
  ·intro i hi1 hi2
   simp at hi1 hi2
   simp[aDw l i (by omega)]
 rw[tk _ (by omega)]
 unfold decC at hc
 simp only[Bool.and_eq_true,Bool.or_eq_true,decide_eq_true_eq] at hc
 obtain⟨⟨c1,c2⟩,c3⟩:=hc
 have hr:iM (decR l n)=true:=by
  rcases hL with h | h
  ·omega
  ·exact h.1
 unfold encL
 rw[if_neg (by simp[hr])]
 rcases hL with h | ⟨_,h0,h⟩
 ·omega
 generalize hd:decR l n=r at *
 unfold decR at hd
 rcases hlo with⟨rfl,h⟩ | ⟨rfl,h⟩ | ⟨rfl,h⟩ | ⟨rfl,h⟩
 ·rw[if_pos (by omega)] at hd
  rw[if_pos (by omega),← hd]
  rfl
 ·have c1:=dA (c1.resolve_left (by omega))
  simp only[show ¬ ((2:Int)<2) from by omega,if_false,show ((2:Int)<3) from by omega,if_true] at hd
  rw[if_neg (by omega),if_pos (by omega),show 192+r / 64=byt l 0 from by omega,show 128+r % 64=byt l 1 from by omega]
  rfl
 ·have c1:=dA (c1.resolve_left (by omega))
  have c2:=dA (c2.resolve_left (by omega))
  simp only[show ¬ ((3:Int)<2) from by omega,if_false,show ¬ ((3:Int)<3) from by omega,show ((3:Int)<4) from by omega,if_true] at hd
  rw[if_neg (by omega),if_neg (by omega),if_pos (by omega),show 224+r / 4096=byt l 0 from by omega,show 128+r / 64 % 64=byt l 1 from by omega,show 128+r % 64=byt l 2 from by omega]
  rfl
 ·have c1:=dA (c1.resolve_left (by omega))
  have c2:=dA (c2.resolve_left (by omega))
  have c3:=dA (c3.resolve_left (by omega))
  simp only[show ¬ ((4:Int)<2) from by omega,if_false,show ¬ ((4:Int)<3) from by omega,show ¬ ((4:Int)<4) from by omega] at hd
  rw[if_neg (by omega),if_neg (by omega),if_neg (by omega),show 240+r / 262144=byt l 0 from by omega,show 128+r / 4096 % 64=byt l 1 from by omega,show 128+r / 64 % 64=byt l 2 from by omega,show 128+r % 64=byt l 3 from by omega]
  rfl
def refN (b:Int):Int:=if 240≤b then 4 else if 224≤b then 3 else if 192≤b then 2 else 1
theorem zD {b n:Int} (h:refN b=n):(n=1∧b<192)∨(n=2∧192≤b∧b<224)∨(n=3∧224≤b∧b<240)∨(n=4∧240≤b):=by
 unfold refN at h
 repeat' split at h
 all_goals omega
theorem uP (b:Int):annB b=0∨annB b=refN b:=by
 unfold annB refN
 repeat' split
 all_goals omega
theorem aFv {l:List UInt8} {n:Int} (h0:0<l.length) (hn:refN (byt l 0)=n) (h:(l.length:Int)<n∨decC l n=false):decL l=(0,0,11):=by
 rcases uP (byt l 0) with ha | ha
 ·exact lF h0 (.inl ha)
 ·rw[hn] at ha
  rcases h with h | h
  ·exact lF h0 (.inr (by omega))
  ·have:=zD hn
   by_cases hl:(l.length:Int)<n
   ·exact lF h0 (.inr (by omega))
   ·exact gJ ha (by omega) (by omega) fun hc=>by rw[h] at hc;cases hc
theorem tQ {l:List UInt8} {n:Int} (hn:refN (byt l 0)=n) (hlen:n≤l.length) (hc:decC l n=true):decL l=if encE (decR l n)=0∧encL (decR l n)=l.take n.toNat then (decR l n,n,0) else (0,0,11):=by
 have hlo:=zD hn
 have b0:=gU l 0
 have b1:=iW l 0
 by_cases hl:lenB (decR l n)=n
 ·have he:=aA7 (by omega) (by omega) hlen hc hl hlo
  have hr:iM (decR l n)=true:=by
   rcases zC hl with h | h
   ·omega
   ·exact h.1
  rw[if_pos ⟨by simp[encE,hr],he⟩]
  have ha:annB (byt l 0)=n:=by
   rcases uP (byt l 0) with ha | ha
   ·exfalso
    have hL:=zC hl
    generalize hd:decR l n=r at *
    unfold decR at hd
    unfold decC at hc
    simp only[Bool.and_eq_true,Bool.or_eq_true,decide_eq_true_eq] at hc
    obtain⟨⟨c1,c2⟩,c3⟩:=hc
    have hA:(byt l 0<194∧128≤byt l 0)∨244<byt l 0:=by
     unfold annB at ha
     repeat' split at ha
     all_goals omega
    rcases hlo with⟨rfl,h⟩ | ⟨rfl,h⟩ | ⟨rfl,h⟩ | ⟨rfl,h⟩
    ·rw[if_pos (by omega)] at hd;omega
    ·have c1:=dA (c1.resolve_left (by omega))
     simp only[show ¬ ((2:Int)<2) from by omega,if_false,show ((2:Int)<3) from by omega,if_true] at hd
     omega
    ·omega
    ·have c1:=dA (c1.resolve_left (by omega))
     have c2:=dA (c2.resolve_left (by omega))
     have c3:=dA (c3.resolve_left (by omega))
     simp only[show ¬ ((4:Int)<2) from by omega,if_false,show ¬ ((4:Int)<3) from by omega,show ¬ ((4:Int)<4) from by omega] at hd
     omega
   ·omega
  exact lG ha (by omega) hlen rfl hc hl
 ·rw[if_neg]
  ·rcases uP (byt l 0) with ha | ha
   ·exact lF (by omega) (.inl ha)
   ·exact gJ (ha.trans hn) (by omega) hlen fun _=>hl
  ·rintro⟨_,he⟩
   apply hl
   have:=aKa (decR l n)
   rw[he] at this
   simp at this
   omega
def oZ:Nat→List UInt8→Bool
 |_,[]=>true
 |0,_=>false
 |f+1,l=>if (decL l).2.2=0 then oZ f (l.drop (decL l).2.1.toNat) else false
def bN (l:List UInt8):Bool:=oZ l.length l
theorem uQ (f:Nat):oZ f []=true:=by cases f<;>rfl
theorem tT {l:List UInt8} (h:(decL l).2.2=0):1≤(decL l).2.1∧(decL l).2.1≤l.length:=by
 rcases qA l with⟨n,r,he,h1,h2,h3,_⟩ | ⟨_,he⟩ | ⟨_,he⟩
 ·rw[he];exact⟨h1,h3⟩
 ·rw[he] at h;cases h
 ·rw[he] at h;cases h
theorem aHq:∀ (f:Nat) (l:List UInt8),l.length≤f→oZ f l=oZ l.length l:=by
 intro f
 induction f using Nat.strongRecOn with
 |ind f ih =>
  intro l hl
  cases l with
  |nil=>rw[uQ,uQ]
  |cons a l =>
   cases f with
   |zero=>simp at hl
   |succ f =>
    simp only[List.length_cons,oZ]
    split
    ·next h =>
     have hp:=tT h
     have hlen:((a::l).drop (decL (a::l)).2.1.toNat).length≤l.length:=by rw[List.length_drop];simp only[List.length_cons] at hp ⊢;omega
     simp only[List.length_cons] at hl
     rw[ih f (by omega) _ (by omega)]
     by_cases hfl:l.length=f
     ·rw[hfl,ih f (by omega) _ (by omega)]
     ·rw[ih l.length (by omega) _ hlen]
    ·rfl
theorem gN {l:List UInt8} (h:l≠[]):bN l=if (decL l).2.2=0 then bN (l.drop (decL l).2.1.toNat) else false:=by
 cases l with
 |nil=>exact absurd rfl h
 |cons a l =>
  unfold bN
  simp only[List.length_cons,oZ]
  split
  ·next h =>
   have hp:=tT h
   rw[aHq l.length _ (by rw[List.length_drop];simp only[List.length_cons] at hp ⊢;omega)]
  ·rfl
open Go.RowKit
theorem aO {a b:Bool} (h:a=b):Ending.returned (.bool a) = .returned (.bool b):=by rw[h]
theorem zF {k:IntKind} {a b:Int} (h:a=b):Ending.returned (.int k a) = .returned (.int k b):=by rw[h]
theorem iJ (b:Int) (w:World):Calls Tryz.prog 235 #[.int .u8 b] w fun e w'=>e = .returned (.bool (gT b))∧w=w':=by
 go_enter Tryz.func235,Tryz.ntmps235
 go_wp2
 all_goals (go_ret;exact⟨aO (by simp[gT];omega),rfl⟩)
theorem iN (b:Int) (w:World):Calls Tryz.prog 267 #[.int .u8 b] w fun e w'=>e = .returned (.bool (gT b))∧w=w':=by
 go_enter Tryz.func267,Tryz.ntmps267
 go_wp2
 all_goals (go_ret;exact⟨aO (by rw[Bool.eq_iff_iff];simp[gT];omega),rfl⟩)
theorem fD (b:Int) (w:World):Calls Tryz.prog 234 #[.int .u8 b] w fun e w'=>e = .returned (.int .i64 (annB b))∧w=w':=by
 go_enter Tryz.func234,Tryz.ntmps234
 go_wp2
 all_goals (go_ret;exact⟨zF (by unfold annB;repeat (first | omega | split)),rfl⟩)
theorem lH (b:Int) (w:World):Calls Tryz.prog 236 #[.int .i64 b] w fun e w'=>e = .returned (.int .i64 (lenB b))∧w=w':=by
 go_enter Tryz.func236,Tryz.ntmps236
 go_wp2
 all_goals (go_ret;exact⟨zF (by unfold lenB iM;simp only[decide_eq_false_iff_not];repeat (first | omega | split)),rfl⟩)
theorem sK (b:Int) (w:World):Calls Tryz.prog 292 #[.int .i64 b] w fun e w'=>e = .returned (.bool (iM b))∧w=w':=by
 go_enter Tryz.func292,Tryz.ntmps292
 go_wp2
 all_goals (go_ret;exact⟨aO (by unfold iM;rw[Bool.eq_iff_iff];simp;omega),rfl⟩)
theorem zG (s:ByteArray) (n:Int) (w:World):Calls Tryz.prog 238 #[.string s,.int .i64 n] w fun e w'=>e = .returned (.bool (bndB s.data.toList n))∧w=w':=by
 have hl:s.data.toList.length=s.size:=by simp
 have hb:∀ h:n.toNat<s.size,((s[n.toNat]'h).toNat:Int)=byt s.data.toList n.toNat:=fun h=>dS s _ _
 have HB:=Lib.hid hb;clear hb
 have HL:=Lib.hid hl;clear hl
 go_enter Tryz.func238,Tryz.ntmps238
 go_wp2_with (go_at_call 235;refine (iJ _ _).mono ?_;rintro e w' ⟨rfl,rfl⟩)
 all_goals (go_ret;refine⟨aO (xN ?_),rfl⟩;rw[HL.out];first | (rw[← HB.out (by omega)];simp[*];done) | (simp[*];done) | (simp[*];omega))
theorem bU (s:ByteArray) (n:Int) (w:World):Calls Tryz.prog 228 #[.string s,.int .i64 n] w fun e w'=>e = .returned (.bool (bndB s.data.toList n))∧w=w':=by
 have hl:s.data.toList.length=s.size:=by simp
 have hb:∀ h:n.toNat<s.size,((s[n.toNat]'h).toNat:Int)=byt s.data.toList n.toNat:=fun h=>dS s _ _
 have HB:=Lib.hid hb;clear hb
 have HL:=Lib.hid hl;clear hl
 go_enter Tryz.func228,Tryz.ntmps228
 go_wp2_with (go_at_call 267;refine (iN _ _).mono ?_;rintro e w' ⟨rfl,rfl⟩)
 all_goals (go_ret;refine⟨aO (xN ?_),rfl⟩;rw[HL.out];first | (rw[← HB.out (by omega)];simp[*];done) | (simp[*];done) | (simp[*];omega))
theorem nM (W:World) (ns:List Int) (c:Nat):(convert 162 9 (.slice (some ⟨W.heap.size,0,none⟩) ns.length c)).run Tryz.prog (W.alloc (.cells (ns.map (Value.int .u8)).toArray 5)) = .ok (.string ⟨(ns.map toByte).toArray⟩) (W.alloc (.cells (ns.map (Value.int .u8)).toArray 5)):=by
 rw[run_convert_bytes_string _ _ _ 5 _ _ _ Tryz.underlying162 Tryz.underlying5 Tryz.underlying9]
 have hl:=run_loadCells_list (P := Tryz.prog) (W.alloc (.cells (ns.map (Value.int .u8)).toArray 5)) ⟨W.heap.size,0,none⟩ (ns.map (Value.int .u8)) (fun j v hj=>by
  have e:(⟨W.heap.size,0,none⟩:Addr).add j=⟨W.heap.size,j,none⟩:=by unfold Addr.add;split<;>simp_all
  rw[e,World.cell?_alloc_new];simpa using hj)
 simp only[List.length_map] at hl
 rw[run_bytesToString _ _ ns.length c _ hl]
 have key:∀ (ns:List Int) (r:ByteArray),ns.foldl (fun r n=>r.push (UInt8.ofNat n.toNat)) r=⟨r.data++(ns.map toByte).toArray⟩:=by
  intro ns
  induction ns with
  |nil=>intro r;simp
  |cons n ns ih =>
   intro r
   simp only[List.foldl_cons,ih,List.map_cons]
   simp[ByteArray.push,toByte]
 rw[key]
 show Result.ok (Value.string ⟨#[]++_⟩) _=_
 rw[Array.empty_append]
theorem aR3 (W:World) (a:Int):(convert 162 9 (.slice (some ⟨W.heap.size,0,none⟩) 1 1)).run Tryz.prog (W.alloc (.cells #[.int .u8 a] 5)) = .ok (.string ⟨#[toByte a]⟩) (W.alloc (.cells #[.int .u8 a] 5)):=nM W [a] 1
theorem aR4 (W:World) (a b:Int):(convert 162 9 (.slice (some ⟨W.heap.size,0,none⟩) 2 2)).run Tryz.prog (W.alloc (.cells #[.int .u8 a,.int .u8 b] 5)) = .ok (.string ⟨#[toByte a,toByte b]⟩) (W.alloc (.cells #[.int .u8 a,.int .u8 b] 5)):=nM W [a,b] 2
theorem aR5 (W:World) (a b c:Int):(convert 162 9 (.slice (some ⟨W.heap.size,0,none⟩) 3 3)).run Tryz.prog (W.alloc (.cells #[.int .u8 a,.int .u8 b,.int .u8 c] 5)) = .ok (.string ⟨#[toByte a,toByte b,toByte c]⟩) (W.alloc (.cells #[.int .u8 a,.int .u8 b,.int .u8 c] 5)):=nM W [a,b,c] 3
theorem aR6 (W:World) (a b c d:Int):(convert 162 9 (.slice (some ⟨W.heap.size,0,none⟩) 4 4)).run Tryz.prog (W.alloc (.cells #[.int .u8 a,.int .u8 b,.int .u8 c,.int .u8 d] 5)) = .ok (.string ⟨#[toByte a,toByte b,toByte c,toByte d]⟩) (W.alloc (.cells #[.int .u8 a,.int .u8 b,.int .u8 c,.int .u8 d] 5)):=nM W [a,b,c,d] 4
theorem mH (a b:Nat) (ha:a<9223372036854775808) (hb:b<9223372036854775808):bits .and .i64 (a:Int) (b:Int)=((a &&& b:Nat):Int):=by
 have hx:a &&& b<2 ^ 63:=Nat.and_lt_two_pow _ (by omega)
 show IntKind.i64.wrap ((BitVec.ofInt 64 (a:Int) &&& BitVec.ofInt 64 (b:Int)).toNat:Int)=_
 rw[BitVec.toNat_and,BitVec.ofInt_natCast,BitVec.toNat_ofNat,BitVec.ofInt_natCast,BitVec.toNat_ofNat,Nat.mod_eq_of_lt (by omega),Nat.mod_eq_of_lt (by omega),IntKind.wrap_i64]
 omega
theorem qB (a b:Nat) (ha:a<9223372036854775808) (hb:b<9223372036854775808):bits .or .i64 (a:Int) (b:Int)=((a ||| b:Nat):Int):=by
 have hx:a ||| b<2 ^ 63:=Nat.or_lt_two_pow (by omega) (by omega)
 show IntKind.i64.wrap ((BitVec.ofInt 64 (a:Int) ||| BitVec.ofInt 64 (b:Int)).toNat:Int)=_
 rw[BitVec.toNat_or,BitVec.ofInt_natCast,BitVec.toNat_ofNat,BitVec.ofInt_natCast,BitVec.toNat_ofNat,Nat.mod_eq_of_lt (by omega),Nat.mod_eq_of_lt (by omega),IntKind.wrap_i64]
 omega
theorem uR (k:Nat) (x:Int) (hk:k≤62) (h0:0≤x) (h1:x<9223372036854775808):bits .and .i64 x ((2 ^ k-1:Nat):Int)=x % ((2 ^ k:Nat):Int):=by
 obtain⟨n,rfl⟩:=Int.eq_ofNat_of_zero_le h0
 have h2:2 ^ k≤2 ^ 62:=Nat.pow_le_pow_right (by omega) hk
 rw[mH n _ (by omega) (by omega),Nat.and_two_pow_sub_one_eq_mod]
 simp
theorem bits_join (k a:Nat) (y:Int) (hk:k≤62) (ha:2 ^ k*a<9223372036854775808) (h0:0≤y) (h1:y<((2 ^ k:Nat):Int)):bits .or .i64 ((2 ^ k*a:Nat):Int) y=((2 ^ k*a:Nat):Int)+y:=by
 obtain⟨n,rfl⟩:=Int.eq_ofNat_of_zero_le h0
 have h2:2 ^ k≤2 ^ 62:=Nat.pow_le_pow_right (by omega) hk
 rw[qB _ n ha (by omega),← Nat.two_pow_add_eq_or_of_lt (by omega)]
 simp
theorem aN1 {r:Int} {l:List UInt8} {a:Int} (h1:l=encL r) (h2:a=encE r):Ending.returned (.tuple #[.string ⟨l.toArray⟩,.int .i64 a]) = .returned (.tuple #[.string ⟨(encL r).toArray⟩,.int .i64 (encE r)]):=by rw[h1,h2]
theorem pE (w:World) (o:Obj):Below w.heap.size w (w.alloc o):=(Below.refl _ _).alloc (Nat.le_refl _) _
theorem wU (r:Int) (w:World):Calls Tryz.prog 284 #[.int .i64 r] w fun e w'=>e = .returned (.tuple #[.string ⟨(encL r).toArray⟩,.int .i64 (encE r)])∧Below w.heap.size w w':=by
 have k1:=aR3
 have k2:=aR4
 have k3:=aR5
 have k4:=aR6
 by_cases h0:iM r=true
 ·have hr:=aA6 h0
  obtain⟨hr1,hr2⟩:=hr
  go_enter Tryz.func284,Tryz.ntmps284
  go_wp2_with (go_at_call 292;refine (sK _ _).mono ?_;rintro e w' ⟨rfl,rfl⟩)
  all_goals (go_returns;refine⟨aN1 ?_ ?_,pE _ _⟩<;>simp only[encL,encE,h0])
  all_goals first | rfl | (rw[if_neg (by simp),if_pos (by omega)]) | (rw[if_neg (by simp),if_neg (by omega),if_pos (by omega)]) | (rw[if_neg (by simp),if_neg (by omega),if_neg (by omega),if_pos (by omega)]) | (rw[if_neg (by simp),if_neg (by omega),if_neg (by omega),if_neg (by omega)]) | (rw[if_neg (by simp)])
 ·have h0:iM r=false:=by simpa using h0
  go_enter Tryz.func284,Tryz.ntmps284
  go_wp2_with (go_at_call 292;refine (sK _ _).mono ?_;rintro e w' ⟨rfl,rfl⟩)
  go_returns
  exact⟨by simp[encL,encE,h0],Below.refl _ _⟩
theorem dG {l:List UInt8} {a b c:Int} (h:decL l=(a,b,c)):Ending.returned (.tuple #[.int .i64 a,.int .i64 b,.int .i64 c]) = .returned (.tuple #[.int .i64 (decL l).1,.int .i64 (decL l).2.1,.int .i64 (decL l).2.2]):=by rw[h]
theorem or64 (x y:Int) (h0:0≤x) (h1:x<1048576) (h2:0≤y) (h3:y<64):bits .or .i64 (x*64) y=x*64+y:=by
 obtain⟨n,rfl⟩:=Int.eq_ofNat_of_zero_le h0
 have h:=bits_join 6 n y (by omega) (by omega) h2 h3
 have e:((2 ^ 6*n:Nat):Int)=(n:Int)*64:=by omega
 rw[e] at h
 exact h
theorem mI {s:ByteArray} (h:0<s.size):s.toList.isEmpty=false:=by
 rw[← decide_eq_emptyBytes]
 simp
 rintro rfl
 simp at h
theorem uS (s:ByteArray) (w:World):Calls Tryz.prog 187 #[.string s] w fun e w'=>e = .returned (.tuple #[.int .i64 (decL s.data.toList).1,.int .i64 (decL s.data.toList).2.1,.int .i64 (decL s.data.toList).2.2])∧w=w':=by
 by_cases hs0:s.size=0
 ·have:s=ByteArray.empty:=by apply ByteArray.ext;apply Array.toList_inj.1;apply List.eq_nil_of_length_eq_zero;simpa using hs0
  subst this
  clear hs0
  go_enter Tryz.func187,Tryz.ntmps187
  go_wp2
  go_returns
  exact⟨dG rfl,rfl⟩
 have hs:0<s.size:=by omega
 clear hs0
 have hne:=mI hs
 have hb0:=dS s 0 hs
 have l0:=gU s.data.toList 0
 have u0:=iW s.data.toList 0
 have hl:s.data.toList.length=s.size:=by simp
 have HL:=Lib.hid hl;clear hl
 have hA:=aDx (b:=byt s.data.toList 0) rfl
 have e1:bits .and .i64 (byt s.data.toList 0) 31=byt s.data.toList 0 % 32:=uR 5 _ (by omega) (by omega) (by omega)
 have e2:bits .and .i64 (byt s.data.toList 0) 15=byt s.data.toList 0 % 16:=uR 4 _ (by omega) (by omega) (by omega)
 have e3:bits .and .i64 (byt s.data.toList 0) 7=byt s.data.toList 0 % 8:=uR 3 _ (by omega) (by omega) (by omega)
 generalize hn:annB (byt s.data.toList 0)=n at hA
 have Hn:=Lib.hid hn;clear hn
 by_cases hlong:(s.size:Int)<n
 ·have hn0:(n == 0)=false:=by simp;omega
  have Hl:=Lib.hid hlong
  clear hA
  go_enter Tryz.func187,Tryz.ntmps187
  go_wp2_with (first | (go_at_call 234;refine (fD _ _).mono ?_;rw[Hn.out];rintro e w' ⟨rfl,rfl⟩))
  go_returns
  refine⟨dG (lF (by rw[HL.out];exact hs) ?_),rfl⟩
  rw[Hn.out,HL.out]
  exact .inr Hl.out
 have hfit:n≤s.size:=by omega
 clear hlong
 rcases hA with h | ⟨h,hb⟩ | ⟨h,hb⟩ | ⟨h,hb⟩ | ⟨h,hb⟩
 ·subst h
  go_enter Tryz.func187,Tryz.ntmps187
  go_wp2_with (first | (go_at_call 234;refine (fD _ _).mono ?_;rw[Hn.out];rintro e w' ⟨rfl,rfl⟩))
  go_returns
  refine⟨dG (lF (by rw[HL.out];exact hs) (.inl Hn.out)),rfl⟩
 ·subst h
  have hL:lenB (byt s.data.toList 0)=1:=by
   unfold lenB iM
   rw[if_neg (by simp;omega),if_pos hb]
  have HLB:=Lib.hid hL;clear hL hfit e1 e2 e3
  have hd:decide ((s.size:Int)<1)=false:=by simp;omega
  go_enter Tryz.func187,Tryz.ntmps187
  go_wp2_with (first | (go_at_call 234;refine (fD _ _).mono ?_;rw[Hn.out];rintro e w' ⟨rfl,rfl⟩))
  refine wp_loop_rounds 1 ?_
  rw[rounds_succ]
  go_wp2_with (go_at_call 236;refine (lH _ _).mono ?_;rw[HLB.out];rintro e w' ⟨rfl,rfl⟩)
  go_returns
  exact⟨dG (lG Hn.out (by omega) (by rw[HL.out];omega) (by simp[decR]) (by simp[decC]) HLB.out),rfl⟩
 ·subst h
  obtain⟨hlo,hhi⟩:=hb
  have hb1:=dS s 1 (by omega)
  have l1:=gU s.data.toList 1
  have u1:=iW s.data.toList 1
  have f1:=or64 (byt s.data.toList 0 % 32) (byt s.data.toList 1 % 64) (by omega) (by omega) (by omega) (by omega)
  go_enter Tryz.func187,Tryz.ntmps187
  go_wp2_with (first | (go_at_call 234;refine (fD _ _).mono ?_;rw[Hn.out];rintro e w' ⟨rfl,rfl⟩))
  refine wp_loop_rounds 4 ?_
  repeat any_goals (rw[rounds_succ];go_wp2_with (first | (go_at_call 235;refine (iJ _ _).mono ?_;rintro e w' ⟨rfl,rfl⟩) | (go_at_call 236;refine (lH _ _).mono ?_;rintro e w' ⟨rfl,rfl⟩)))
  ·go_returns
   refine⟨dG (gJ Hn.out (by omega) (by rw[HL.out];omega) fun h => ?_),rfl⟩
   exact absurd h (by unfold decC;simp_all)
  ·go_returns
   refine⟨dG (gJ Hn.out (by omega) (by rw[HL.out];omega) fun _ => ?_),rfl⟩
   have c1:=dA (b:=byt s.data.toList 1) (by simp_all)
   have ex:byt s.data.toList 0 % 32*64+byt s.data.toList 1 % 64=decR s.data.toList 2:=by
    unfold decR;simp;omega
   rw[← ex]
   simp_all
  ·go_returns
   have c1:=dA (b:=byt s.data.toList 1) (by simp_all)
   have ex:byt s.data.toList 0 % 32*64+byt s.data.toList 1 % 64=decR s.data.toList 2:=by
    unfold decR;simp;omega
   exact⟨dG (lG Hn.out (by omega) (by rw[HL.out];omega) ex.symm (by unfold decC;simp_all) (by simp_all)),rfl⟩
 ·subst h
  obtain⟨hlo,hhi⟩:=hb
  have hb1:=dS s 1 (by omega)
  have l1:=gU s.data.toList 1
  have u1:=iW s.data.toList 1
  have hb2:=dS s 2 (by omega)
  have l2:=gU s.data.toList 2
  have u2:=iW s.data.toList 2
  have f1:=or64 (byt s.data.toList 0 % 16) (byt s.data.toList 1 % 64) (by omega) (by omega) (by omega) (by omega)
  have f2:=or64 (byt s.data.toList 0 % 16*64+byt s.data.toList 1 % 64) (byt s.data.toList 2 % 64) (by omega) (by omega) (by omega) (by omega)
  go_enter Tryz.func187,Tryz.ntmps187
  go_wp2_with (first | (go_at_call 234;refine (fD _ _).mono ?_;rw[Hn.out];rintro e w' ⟨rfl,rfl⟩))
  refine wp_loop_rounds 4 ?_
  repeat any_goals (rw[rounds_succ];go_wp2_with (first | (go_at_call 235;refine (iJ _ _).mono ?_;rintro e w' ⟨rfl,rfl⟩) | (go_at_call 236;refine (lH _ _).mono ?_;rintro e w' ⟨rfl,rfl⟩)))
  ·go_returns
   refine⟨dG (gJ Hn.out (by omega) (by rw[HL.out];omega) fun h => ?_),rfl⟩
   exact absurd h (by unfold decC;simp_all)
  ·go_returns
   refine⟨dG (gJ Hn.out (by omega) (by rw[HL.out];omega) fun h => ?_),rfl⟩
   exact absurd h (by unfold decC;simp_all)
  ·go_returns
   refine⟨dG (gJ Hn.out (by omega) (by rw[HL.out];omega) fun _ => ?_),rfl⟩
   have c1:=dA (b:=byt s.data.toList 1) (by simp_all)
   have c2:=dA (b:=byt s.data.toList 2) (by simp_all)
   have ex:(byt s.data.toList 0 % 16*64+byt s.data.toList 1 % 64)*64+byt s.data.toList 2 % 64=decR s.data.toList 3:=by
    unfold decR;simp;omega
   rw[← ex]
   simp_all
  ·go_returns
   have c1:=dA (b:=byt s.data.toList 1) (by simp_all)
   have c2:=dA (b:=byt s.data.toList 2) (by simp_all)
   have ex:(byt s.data.toList 0 % 16*64+byt s.data.toList 1 % 64)*64+byt s.data.toList 2 % 64=decR s.data.toList 3:=by
    unfold decR;simp;omega
   exact⟨dG (lG Hn.out (by omega) (by rw[HL.out];omega) ex.symm (by unfold decC;simp_all) (by simp_all)),rfl⟩
 ·subst h
  obtain⟨hlo,hhi⟩:=hb
  have hb1:=dS s 1 (by omega)
  have l1:=gU s.data.toList 1
  have u1:=iW s.data.toList 1
  have hb2:=dS s 2 (by omega)
  have l2:=gU s.data.toList 2
  have u2:=iW s.data.toList 2
  have hb3:=dS s 3 (by omega)
  have l3:=gU s.data.toList 3
  have u3:=iW s.data.toList 3
  have f1:=or64 (byt s.data.toList 0 % 8) (byt s.data.toList 1 % 64) (by omega) (by omega) (by omega) (by omega)
  have f2:=or64 (byt s.data.toList 0 % 8*64+byt s.data.toList 1 % 64) (byt s.data.toList 2 % 64) (by omega) (by omega) (by omega) (by omega)
  have f3:=or64 ((byt s.data.toList 0 % 8*64+byt s.data.toList 1 % 64)*64+byt s.data.toList 2 % 64) (byt s.data.toList 3 % 64) (by omega) (by omega) (by omega) (by omega)
  go_enter Tryz.func187,Tryz.ntmps187
  go_wp2_with (first | (go_at_call 234;refine (fD _ _).mono ?_;rw[Hn.out];rintro e w' ⟨rfl,rfl⟩))
  refine wp_loop_rounds 4 ?_
  repeat any_goals (rw[rounds_succ];go_wp2_with (first | (go_at_call 235;refine (iJ _ _).mono ?_;rintro e w' ⟨rfl,rfl⟩) | (go_at_call 236;refine (lH _ _).mono ?_;rintro e w' ⟨rfl,rfl⟩)))
  ·go_returns
   refine⟨dG (gJ Hn.out (by omega) (by rw[HL.out];omega) fun h => ?_),rfl⟩
   exact absurd h (by unfold decC;simp_all)
  ·go_returns
   refine⟨dG (gJ Hn.out (by omega) (by rw[HL.out];omega) fun h => ?_),rfl⟩
   exact absurd h (by unfold decC;simp_all)
  ·go_returns
   refine⟨dG (gJ Hn.out (by omega) (by rw[HL.out];omega) fun h => ?_),rfl⟩
   exact absurd h (by unfold decC;simp_all)
  ·go_returns
   refine⟨dG (gJ Hn.out (by omega) (by rw[HL.out];omega) fun _ => ?_),rfl⟩
   have c1:=dA (b:=byt s.data.toList 1) (by simp_all)
   have c2:=dA (b:=byt s.data.toList 2) (by simp_all)
   have c3:=dA (b:=byt s.data.toList 3) (by simp_all)
   have ex:((byt s.data.toList 0 % 8*64+byt s.data.toList 1 % 64)*64+byt s.data.toList 2 % 64)*64+byt s.data.toList 3 % 64=decR s.data.toList 4:=by
    unfold decR;simp;omega
   rw[← ex]
   simp_all
  ·go_returns
   have c1:=dA (b:=byt s.data.toList 1) (by simp_all)
   have c2:=dA (b:=byt s.data.toList 2) (by simp_all)
   have c3:=dA (b:=byt s.data.toList 3) (by simp_all)
   have ex:((byt s.data.toList 0 % 8*64+byt s.data.toList 1 % 64)*64+byt s.data.toList 2 % 64)*64+byt s.data.toList 3 % 64=decR s.data.toList 4:=by
    unfold decR;simp;omega
   exact⟨dG (lG Hn.out (by omega) (by rw[HL.out];omega) ex.symm (by unfold decC;simp_all) (by simp_all)),rfl⟩
theorem uT {s:ByteArray} (h:s.toList.isEmpty=false):0<s.size:=by
 rw[← decide_eq_emptyBytes] at h
 simp at h
 rcases Nat.eq_zero_or_pos s.size with h0 | h0
 ·exfalso;apply h;apply ByteArray.ext;apply Array.toList_inj.1;apply List.eq_nil_of_length_eq_zero;simpa using h0
 ·exact h0
theorem zH {s:ByteArray} (h:s.toList.isEmpty=true):s.data.toList=[]:=by
 rw[Lib.toList_data] at h;simpa using h
theorem oL (s:ByteArray) (w:World):Calls Tryz.prog 263 #[.string s] w fun e w'=>e = .returned (.tuple #[.int .i64 (decL s.data.toList).1,.int .i64 (decL s.data.toList).2.1,.int .i64 (decL s.data.toList).2.2])∧Below w.heap.size w w':=by
 by_cases hs0:s.size=0
 ·have:s=ByteArray.empty:=by apply ByteArray.ext;apply Array.toList_inj.1;apply List.eq_nil_of_length_eq_zero;simpa using hs0
  subst this
  clear hs0
  go_enter Tryz.func263,Tryz.ntmps263
  go_wp2
  go_returns
  exact⟨dG rfl,Below.refl _ _⟩
 have hs:0<s.size:=by omega
 clear hs0
 have hne:=mI hs
 have hb0:=dS s 0 hs
 have hb1:=dS s 1
 have hb2:=dS s 2
 have hb3:=dS s 3
 have l0:=gU s.data.toList 0
 have u0:=iW s.data.toList 0
 have l1:=gU s.data.toList 1
 have u1:=iW s.data.toList 1
 have l2:=gU s.data.toList 2
 have u2:=iW s.data.toList 2
 have l3:=gU s.data.toList 3
 have u3:=iW s.data.toList 3
 have hl:s.data.toList.length=s.size:=by simp
 have HL:=Lib.hid hl;clear hl
 have hA:=zD (b:=byt s.data.toList 0) rfl
 generalize hn:refN (byt s.data.toList 0)=n at hA
 have Hn:=Lib.hid hn;clear hn
 rcases hA with⟨h,hb⟩ | ⟨h,hb,hb'⟩ | ⟨h,hb,hb'⟩ | ⟨h,hb⟩
 all_goals subst h
 rotate_left
 focus
  rcases Nat.lt_or_ge 1 s.size with g1 | g1
 rotate_left 2
 focus
  rcases Nat.lt_or_ge 1 s.size with g1 | g1
  rcases Nat.lt_or_ge 2 s.size with g2 | g2
 rotate_left 3
 focus
  rcases Nat.lt_or_ge 1 s.size with g1 | g1
  rcases Nat.lt_or_ge 2 s.size with g2 | g2
  rcases Nat.lt_or_ge 3 s.size with g3 | g3
 all_goals
  try have d1:decide ((s.size:Int)≤1)=false:=(by simp;omega)
  try have d1:decide ((s.size:Int)≤1)=true:=(by simp;omega)
  try have d2:decide ((s.size:Int)≤2)=false:=(by simp;omega)
  try have d2:decide ((s.size:Int)≤2)=true:=(by simp;omega)
  try have d3:decide ((s.size:Int)≤3)=false:=(by simp;omega)
  try have d3:decide ((s.size:Int)≤3)=true:=(by simp;omega)
  go_enter Tryz.func263,Tryz.ntmps263
  go_wp2_with fail
  refine wp_loop_rounds 4 ?_
  repeat any_goals (rw[rounds_succ];go_wp2_with (first | (go_at_call 267;refine (iN _ _).mono ?_;rintro e w' ⟨rfl,rfl⟩) | (go_at_call 284;refine (wU _ _).mono ?_;rintro e w' ⟨rfl,hbe⟩)))
  all_goals first
   |(go_returns;refine⟨dG (aFv (by rw[HL.out];exact hs) Hn.out (.inl ?_)),Below.refl _ _⟩;rw[HL.out];omega)
   |(go_returns;refine⟨dG (aFv (by rw[HL.out];exact hs) Hn.out (.inr ?_)),Below.refl _ _⟩;unfold decC;simp_all;done)
   |skip
  all_goals
   first
   |(have he:=tQ Hn.out (by rw[HL.out];omega) (show decC s.data.toList 1=true by unfold decC;simp_all);rw[show decR s.data.toList 1=byt s.data.toList 0 by unfold decR;simp;try omega] at he)
   |(have he:=tQ Hn.out (by rw[HL.out];omega) (show decC s.data.toList 2=true by unfold decC;simp_all);rw[show decR s.data.toList 2=64*(byt s.data.toList 0-192)+byt s.data.toList 1-128 by unfold decR;simp;try omega] at he)
   |(have he:=tQ Hn.out (by rw[HL.out];omega) (show decC s.data.toList 3=true by unfold decC;simp_all);rw[show decR s.data.toList 3=64*(64*(byt s.data.toList 0-224)+byt s.data.toList 1-128)+byt s.data.toList 2-128 by unfold decR;simp;try omega] at he)
   |(have he:=tQ Hn.out (by rw[HL.out];omega) (show decC s.data.toList 4=true by unfold decC;simp_all);rw[show decR s.data.toList 4=64*(64*(64*(byt s.data.toList 0-240)+byt s.data.toList 1-128)+byt s.data.toList 2-128)+byt s.data.toList 3-128 by unfold decR;simp;try omega] at he)
   first
   |(rw[if_neg (by rintro⟨_,h2⟩;simp_all [Lib.extract_toList])] at he;go_returns;exact⟨dG he,hbe⟩)
   |(rw[if_pos ⟨by simp_all,by simp_all [Lib.extract_toList]⟩] at he;go_returns;exact⟨dG he,hbe⟩)
   |(rw[if_neg (by rintro⟨h1,_⟩;simp_all)] at he;go_returns;exact⟨dG he,hbe⟩)
theorem wV {s:ByteArray} (h:0<s.size):s.data.toList≠[]:=by
 intro h2
 have h3:s.data.toList.length=s.size:=by simp
 rw[h2,List.length_nil] at h3
 omega
theorem int_eq {k:IntKind} {a b:Int} (h:a=b):Value.int k a = .int k b:=by rw[h]
theorem kI (s:ByteArray) (w:World):Calls Tryz.prog 135 #[.string s] w fun e w'=>e = .returned (.bool (bN s.data.toList))∧w=w':=by
 go_enter Tryz.func135,Tryz.ntmps135
 go_wp2
 go_loop [0,3,4,5] (fun t r n e=>∃ u:ByteArray,t = .string u∧bN u.data.toList=bN s.data.toList) (fun t r n e=>match t with | .string u=>u.size | _=>0)
 case atStart=>exact⟨s,rfl,rfl⟩
 case round =>
  obtain⟨u,rfl,hv⟩:=hrel
  have Hv:=Lib.hid hv;clear hv
  by_cases hne:u.toList.isEmpty=true
  ·have h1:(!u.toList.isEmpty)=false:=by simp[hne]
   go_wp2
   go_ret
   exact⟨aO (by rw[← Hv.out,zH hne];rfl),rfl⟩
  ·have hne:u.toList.isEmpty=false:=by simpa using hne
   have hpos:=uT hne
   have hstep:=gN (l:=u.data.toList) (wV hpos)
   have Hs:=Lib.hid hstep;clear hstep
   by_cases hd:(decL u.data.toList).2.2=0
   ·have hp:=tT hd
    have hl:u.data.toList.length=u.size:=by simp
    rw[hl] at hp
    obtain⟨hp1,hp2⟩:=hp
    have hd':((decL u.data.toList).2.2 != 0)=false:=by simp[hd]
    have Hd:=Lib.hid hd;clear hd
    clear hl
    go_wp2_with (go_at_call 187;refine (uS _ _).mono ?_;rintro e w' ⟨rfl,rfl⟩)
    go_round
    case rel=>exact⟨_,rfl,by rw[Lib.extract_to_end,← Hv.out,Hs.out,if_pos Hd.out]⟩
    case measure=>simp;omega
   ·have hd':((decL u.data.toList).2.2 != 0)=true:=by simp[hd]
    have Hd:=Lib.hid hd;clear hd
    go_wp2_with (go_at_call 187;refine (uS _ _).mono ?_;rintro e w' ⟨rfl,rfl⟩)
    go_ret
    exact⟨aO (by rw[← Hv.out,Hs.out,if_neg Hd.out]),rfl⟩
theorem qC (s:ByteArray) (w:World) (hs:s.size≤maxLen):Calls Tryz.prog 218 #[.string s] w fun e w'=>e = .returned (.bool (bN s.data.toList))∧Below w.heap.size w w':=by
 unfold maxLen at hs
 go_enter Tryz.func218,Tryz.ntmps218
 go_wp2
 go_loopw [3,4,5,6] (fun t r n e wr=>∃ k:Nat,t = .int .i64 k∧k≤s.size∧bN (s.data.toList.drop k)=bN s.data.toList∧Below w.heap.size w wr) (fun t r n e wr=>s.size-(intOf t).toNat)
 case atStart=>exact⟨0,rfl,by omega,rfl,Below.refl _ _⟩
 case round =>
  obtain⟨k,rfl,hk,hv,hB⟩:=hrel
  have Hv:=Lib.hid hv;clear hv
  have hl:s.data.toList.length=s.size:=by simp
  have Hl:=Lib.hid hl;clear hl
  by_cases hlt:k<s.size
  ·have hstep:=gN (l:=s.data.toList.drop k) (by intro h;have h3:=congrArg List.length h;simp at h3;omega)
   have Hs:=Lib.hid hstep;clear hstep
   have he:(s.extract k s.size).data.toList=s.data.toList.drop k:=Lib.extract_to_end s k
   have He:=Lib.hid he;clear he
   by_cases hd:(decL (s.data.toList.drop k)).2.2=0
   ·have hp:=tT hd
    rw[List.length_drop,Hl.out] at hp
    obtain⟨hp1,hp2⟩:=hp
    have hd':((decL (s.data.toList.drop k)).2.2 != 0)=false:=by simp[hd]
    have Hd:=Lib.hid hd;clear hd
    go_wp2_with (go_at_call 263;refine (oL _ _).mono ?_;rw[He.out];rintro e w' ⟨rfl,hb'⟩)
    go_roundw
    case rel=>exact⟨k+(decL (s.data.toList.drop k)).2.1.toNat,int_eq (by omega),by omega,by rw[← List.drop_drop,← Hv.out,Hs.out,if_pos Hd.out],hB.trans (hb'.mono hB.size)⟩
    case measure=>simp[intOf];omega
   ·have hd':((decL (s.data.toList.drop k)).2.2 != 0)=true:=by simp[hd]
    have Hd:=Lib.hid hd;clear hd
    go_wp2_with (go_at_call 263;refine (oL _ _).mono ?_;rw[He.out];rintro e w' ⟨rfl,hb'⟩)
    go_ret
    exact⟨aO (by rw[← Hv.out,Hs.out,if_neg Hd.out]),hB.trans (hb'.mono hB.size)⟩
  ·go_wp2
   go_ret
   exact⟨aO (by rw[← Hv.out,List.drop_of_length_le (by rw[Hl.out];omega)];rfl),hB⟩
structure CfgV where
 slots:Int
 gens:Int
 clients:Int
 readers:Int
 queue:Int
 batch:Int
 feed:Int
 text:ByteArray
theorem aDy (v lo hi:Int) (w:World):Calls Tryz.prog 134 #[.int .i64 v,.int .i64 lo,.int .i64 hi] w fun e w'=>e = .returned (.bool (decide (lo≤v) && decide (v≤hi)))∧w=w':=by
 go_enter Tryz.func134,Tryz.ntmps134
 go_wp2
 all_goals (go_ret;exact⟨aO (by simp[*];try omega),rfl⟩)
def CfgV.v (c:CfgV):Value := .agg #[.int .i64 c.slots,.int .u64 c.gens,.int .i64 c.clients,.int .i64 c.readers,.int .i64 c.queue,.int .i64 c.batch,.int .i64 c.feed,.string c.text]
def inB (v lo hi:Int):Bool:=decide (lo≤v) && decide (v≤hi)
def cfgB (c:CfgV):Bool:=inB c.slots 1 16384 && inB c.gens 1 4294967295 && inB c.clients 0 8 && inB c.readers 0 8 && inB c.queue 1 64 && inB c.batch 1 16 && inB c.feed 1 64
def cfgE (c:CfgV):Int:=if cfgB c then (if c.text.size>65536 then 5 else if bN c.text.data.toList then 0 else 11) else 2
end Go.Proofs.YtdeiocppghhfdaaGreat
