/- Texts, one behind another. -/
import Derived.Test.YtdeiocppghhfdaaGreatZdap
import Derived.Laws.EntriesVeiled
set_option linter.unusedVariables false
set_option linter.unusedSimpArgs false
set_option maxRecDepth 100000
set_option maxHeartbeats 8000000
namespace Go.Proofs.YtdeiocppghhfdaaGreat
open Go.RowKit Go.Lib Go.Shelf
structure Bv (w:World) (b:Nat) (v:Value) (lo:Nat) (bs:List Value):Prop where
 blk:w.heap[b]? = some (.cells #[.pointer none,v] 205 (0,0))∨w.heap[b]? = some (.cells #[.pointer (some ⟨b,0,none⟩),v] 205 (0,0))
 own:w.ownsRowF lo 5 1 v bs.length bs
 nil_:bs=[]→v = .slice none 0 0
theorem Bv.ne {w:World} {b lo:Nat} {v:Value} {bs:List Value} (h:Bv w b v lo bs):v.ownBlock≠some b:=by
 rcases h.blk with h1 | h1
 ·exact Lib.ownBlock_neF h.own h1 (by decide)
 ·exact Lib.ownBlock_neF h.own h1 (by decide)
theorem Bv.lt {w:World} {b lo:Nat} {v:Value} {bs:List Value} (h:Bv w b v lo bs):b<w.heap.size:=by
 rcases h.blk with h1 | h1<;>exact (Array.getElem?_eq_some_iff.1 h1).1
theorem xJ {w w':World} {lo n:Nat} {e:TypeId} {v:Value} {xs:List Value} (h:w.ownsRowF lo e 1 v n xs) (hk:∀ k,k<w.heap.size→v.ownBlock=some k→w'.heap[k]? = w.heap[k]?):w'.ownsRowF lo e 1 v n xs:=by
 refine⟨h.1,?_⟩
 rcases h.2 with hn | ⟨g,cap,cur,fz,rfl,hb,hg,rest⟩
 ·exact .inl hn
 ·exact .inr ⟨g,cap,cur,fz,rfl,hb,(hk g (Array.getElem?_eq_some_iff.1 hg).1 rfl).trans hg,rest⟩
theorem aK7 {w:World} {lo lo' n:Nat} {e:TypeId} {v:Value} {xs:List Value} (h:w.ownsRowF lo e 1 v n xs) (hl:lo'≤lo):w.ownsRowF lo' e 1 v n xs:=by
 refine⟨h.1,?_⟩
 rcases h.2 with hn | ⟨g,cap,cur,fz,rfl,hb,rest⟩
 ·exact .inl hn
 ·exact .inr ⟨g,cap,cur,fz,rfl,Nat.le_trans hl hb,rest⟩
theorem Bv.keep {F:Nat→Prop} {w w':World} {b lo:Nat} {v:Value} {bs:List Value} (h:Bv w b v lo bs) (hk:aC F w w') (hb:¬ F b) (hv:∀ k,v.ownBlock=some k→¬ F k):Bv w' b v lo bs:=by
 have e:=hk.block b h.lt hb
 exact⟨by rw[e];exact h.blk,xJ h.own (fun k hk1 hk2=>hk.block k hk1 (hv k hk2)),h.nil_⟩
theorem Bv.lo {w:World} {b lo lo':Nat} {v:Value} {bs:List Value} (h:Bv w b v lo bs) (hl:lo'≤lo):Bv w b v lo' bs:=⟨h.blk,aK7 h.own hl,h.nil_⟩
theorem Bv.fresh {w:World} {b lo:Nat} {v:Value} {bs:List Value} (h:Bv w b v lo bs) (hb:bs=[]) (lo':Nat):Bv w b v lo' bs:=by
 have hv:=h.nil_ hb
 subst hv;subst hb
 exact⟨h.blk,World.ownsRowF_nil _ _ _ _,fun _=>rfl⟩
theorem aTp (b lo:Nat) (v:Value) (bs:List Value) (w:World) (h:Bv w b v lo bs) :
  Calls Tryz.prog 217 #[.pointer (some ⟨b,0,none⟩)] w fun e w'=>e = .returned (.tuple #[])∧w'.heap[b]? = some (.cells #[.pointer (some ⟨b,0,none⟩),v] 205 (0,0))∧w'.ownsRowF lo 5 1 v bs.length bs∧aC (fun k=>k=b) w w':=by
 have hne:=h.ne
 rcases h.blk with hb | hb
 ·refine (xA b w (by simp[World.cell?,hb]) (by simp[World.shape?,hb]) (by simp[World.frozen?,hb])).mono ?_
  rintro e w' ⟨rfl,rfl⟩
  refine⟨rfl,by simp[World.setCell,Array.getElem?_modify,hb],xJ h.own (fun k hk1 hk2 => ?_),aC.set (F:=fun k=>k=b) (a:=⟨b,0,none⟩) rfl _⟩
  exact aO _ _ _ _ (fun e=>hne (by rw[hk2];exact congrArg some e))
 ·refine (zS b w (by simp[World.cell?,hb])).mono ?_
  rintro e w' ⟨rfl,rfl⟩
  exact⟨rfl,hb,h.own,aC.refl _ _⟩
theorem aJf (b lo:Nat) (v:Value) (bs:List Value) (s:ByteArray) (w:World) (h:Bv w b v lo bs) (hlen:bs.length+s.size≤1000000) (hlo:lo≤w.heap.size) :
  Calls Tryz.prog 171 #[.pointer (some ⟨b,0,none⟩),.string s] w fun e w'=>e = .returned (.tuple #[.int .i64 s.size,.nilIface])∧(∃ v',Bv w' b v' lo (bs++Lib.strCells s))∧aC (fun k=>k=b∨v.ownBlock=some k) w w':=by
 obtain⟨i0,hi,hz0,hz1,hz2⟩:=info_parts aHh
 have hne:=h.ne
 have hnil:=h.nil_
 go_enter Tryz.func171,Tryz.ntmps171
 go_wp2_with (go_at_call 217;refine (aTp b lo v bs _ h).mono ?_)
 rintro e w1 ⟨rfl,hbk,hown,hk1⟩
 have c0:w1.cell? ⟨b,0,none⟩=some (.pointer (some ⟨b,0,none⟩)):=by rw[Lib.cell_of_heap hbk];rfl
 have c1:w1.cell? ⟨b,1,none⟩=some v:=by rw[Lib.cell_of_heap hbk];rfl
 go_wp2_with (at_builtin;refine Lib.wpList_append_own_stringF _ rfl _ _ 162 9 rfl lo 5 i0 Tryz.underlying162 Tryz.underlying9 hi hz0 hz1 hz2 _ _ _ rfl hown s rfl ?c3 ?c4 ?c5 ?_)
 case c3=>unfold maxLen;omega
 case c4=>omega
 case c5=>have:=hk1.size;omega
 intro v' w2 hown' hgrow hnn
 have hlt:b<w1.heap.size:=(Array.getElem?_eq_some_iff.1 hbk).1
 have hb2:w2.heap[b]? = some (.cells #[.pointer (some ⟨b,0,none⟩),v] 205 (0,0)):=by
  rw[hgrow.block b hlt (fun e=>hne e.symm)]
  exact hbk
 have d0:w2.cell? ⟨b,0,none⟩=some (.pointer (some ⟨b,0,none⟩)):=by rw[Lib.cell_of_heap hb2];rfl
 have d1:w2.cell? ⟨b,1,none⟩=some v:=by rw[Lib.cell_of_heap hb2];rfl
 have f1:w2.frozen? ⟨b,1,none⟩=false:=Lib.frozen_of_heap hb2 1
 obtain⟨ao,n',cap,rfl⟩:∃ ao n' cap,v' = .slice ao n' cap:=by
  rcases hown'.2 with⟨hv,_⟩ | ⟨g,cap,cur,fz,hv,_⟩
  ·exact⟨_,_,_,hv⟩
  ·exact⟨_,_,_,hv⟩
 have HN:=Lib.hid hnn
 have HL:=Lib.hid hnil
 clear hnn hnil
 go_wp2
 go_ret2
 have hne':=Lib.ownBlock_neF hown' hb2 (by decide)
 refine⟨rfl,⟨.slice ao n' cap,.inr ?_,?_,?_⟩,?_⟩
 ·simp[World.setCell,Array.getElem?_modify,hb2]
 ·have hl:(bs++Lib.strCells s).length=bs.length+s.size:=by rw[List.length_append,Lib.strCells_length]
  rw[hl]
  refine xJ hown' (fun k hk1 hk2=>aO _ _ _ _ (fun e=>hne' (by rw[hk2];exact congrArg some e)))
 ·intro he
  obtain⟨h1,h2⟩:=List.append_eq_nil_iff.1 he
  exact HN.out.2 ⟨HL.out h1,by have:=congrArg List.length h2;rw[Lib.strCells_length] at this;simpa using this⟩
 ·have k1:aC (fun k=>k=b∨v.ownBlock=some k) w w1:=hk1.mono (fun k hk => .inl hk)
  have k2:aC (fun k=>k=b∨v.ownBlock=some k) w1 w2:=⟨hgrow.os,hgrow.tape,hgrow.output,hgrow.size,fun k hk hn=>hgrow.block k hk (fun e=>hn (.inr e.symm))⟩
  exact (k1.trans k2).trans (aC.set (F:=fun k=>k=b∨v.ownBlock=some k) (a:=⟨b,1,none⟩) (.inl rfl) _)
theorem aOd (b g cap m:Nat) (l:List UInt8) (p:Value) (w:World) (hbk:w.heap[b]? = some (.cells #[p,.slice (some ⟨g,0,none⟩) l.length cap] 205 (0,0))) (h0:l≠[]) (hcap:l.length≤cap) (hlen:l.length≤1000000) (hsh:w.shape? g=some (5,m)) (hm:l.length≤m) (hc:∀ (j:Nat) (x:UInt8),l[j]? = some x→w.cell? ((⟨g,0,none⟩:Addr).add j)=some (.int .u8 x.toNat)) :
  Calls Tryz.prog 174 #[.pointer (some ⟨b,0,none⟩)] w fun e w'=>e = .returned (.string ⟨l.toArray⟩)∧w'=w.drew.freeze ⟨g,0,none⟩ l.length:=by
 have hl0:l.length≠0:=by simpa using h0
 have c1:w.drew.cell? ⟨b,1,none⟩=some (.slice (some ⟨g,0,none⟩) l.length cap):=by
  have:w.drew.heap[b]? = some (.cells #[p,.slice (some ⟨g,0,none⟩) l.length cap] 205 (0,0)):=hbk
  rw[Lib.cell_of_heap this];rfl
 have hSD:(Builtin.unsafeSliceData_ #[162] 250 #[.slice (some ⟨g,0,none⟩) l.length cap]).run Tryz.prog w.drew = .ok (.pointer (some ⟨g,0,none⟩)) w.drew :=
  Lib.run_unsafeSliceData_row _ _ _ _ _ _ (by omega)
 have hUS:(Builtin.unsafeString_ #[250,3] 9 #[.pointer (some ⟨g,0,none⟩),.int .i64 l.length]).run Tryz.prog w.drew = .ok (.string ⟨l.toArray⟩) (w.drew.freeze ⟨g,0,none⟩ l.length):=by
  refine Lib.run_unsafeString_row w.drew 250 3 9 5 Tryz.underlying250 (by kernel_rfl) g m hsh l h0 (by omega) (by omega) ?_
  intro j x hx
  exact hc j x hx
 have mixed : Tryz.prog.follows Departure.mixedOrders=true:=by kernel_rfl
 go_enter Tryz.func174,Tryz.ntmps174
 go_wp2
 go_region_o
 all_goals (go_wp2;go_ret;exact⟨rfl,rfl⟩)
theorem aGa (b:Nat) (p:Value) (w:World) (hbk:w.heap[b]? = some (.cells #[p,.slice none 0 0] 205 (0,0))) :
  Calls Tryz.prog 174 #[.pointer (some ⟨b,0,none⟩)] w fun e w'=>e = .returned (.string ⟨#[]⟩)∧w'=w.drew:=by
 have c1:w.drew.cell? ⟨b,1,none⟩=some (.slice none 0 0):=by
  have:w.drew.heap[b]? = some (.cells #[p,.slice none 0 0] 205 (0,0)):=hbk
  rw[Lib.cell_of_heap this];rfl
 have hSD:(Builtin.unsafeSliceData_ #[162] 250 #[.slice none 0 0]).run Tryz.prog w.drew = .ok (.pointer none) w.drew:=rfl
 have hUS:∀ W:World,(Builtin.unsafeString_ #[250,3] 9 #[.pointer none,.int .i64 0]).run Tryz.prog W = .ok (.string ⟨#[]⟩) W:=fun W=>by kernel_rfl
 have mixed : Tryz.prog.follows Departure.mixedOrders=true:=by kernel_rfl
 go_enter Tryz.func174,Tryz.ntmps174
 go_wp2
 go_region_o
 all_goals (go_wp2;go_ret;exact⟨rfl,rfl⟩)
end Go.Proofs.YtdeiocppghhfdaaGreat
namespace Go.Proofs.YtdeiocppghhfdaaGreat
open Go.RowKit Go.Lib Go.Shelf
abbrev Txt (w:World) (b:Nat) (r:ByteArray):Prop:=w.heap[b]? = some (.cells #[.string r] 9 (0,0))
abbrev Tak (w:World) (B:Nat):Prop:=w.heap[B+4]? = some (.cells #[.func (.func 169) #[] #[.pointer (some ⟨B,0,none⟩)]] 206 (0,0))
theorem aGb (B:Nat) (r:ByteArray) (n:Int) (w:World) (h:Txt w B r) (h0:0≤n) (hn:n≤r.size) (hs:r.size≤1000000) :
  Calls Tryz.prog 169 #[.int .i64 n,.pointer (some ⟨B,0,none⟩)] w fun e w'=>e = .returned (.string (r.extract 0 n.toNat))∧w'=w.setCell ⟨B,0,none⟩ (.string (r.extract n.toNat r.size)):=by
 obtain⟨hc,hf⟩:=box1 h
 go_enter Tryz.func169,Tryz.ntmps169
 go_wp2
 go_returns
 exact⟨rfl,rfl⟩
theorem aIb (B lo:Nat) (p:PcV) (r:ByteArray) (bs:List Value) (v:Value) (w:World) (ht:Txt w B r) (hk:Tak w B) (ho:Bv w (B+1) v lo bs) (hlo:lo≤w.heap.size) (h0:0≤p.n) (hn:p.n≤r.size) (hs:r.size≤300000) (hl:bs.length≤300000) :
  Calls Tryz.prog 170 #[.agg #[.int .u8 p.kind,.int .i64 p.n,.string p.text],.pointer (some ⟨B+1,0,none⟩),.pointer (some ⟨B+4,0,none⟩)] w fun e w'=>e = .returned (.tuple #[])∧Txt w' B (r.extract p.n.toNat r.size)∧(∃ v',Bv w' (B+1) v' lo (bs++Lib.strCells (r.extract 0 p.n.toNat)))∧aC (fun k=>k=B∨k=B+1∨v.ownBlock=some k) w w':=by
 obtain⟨pk,pn,pt⟩:=p
 have hb0:=(Below.refl w.heap.size w).alloc (Nat.le_refl _) (.cells #[.int .u8 pk,.int .i64 pn,.string pt] 94)
 have hlt:=ho.lt
 have hB:B<w.heap.size:=by omega
 have hB4:=(Array.getElem?_eq_some_iff.1 hk).1
 have hk0:aC (fun k=>k=B∨k=B+1∨v.ownBlock=some k) w (w.alloc (.cells #[.int .u8 pk,.int .i64 pn,.string pt] 94)):=aC.of_below hb0
 have ht0:Txt (w.alloc (.cells #[.int .u8 pk,.int .i64 pn,.string pt] 94)) B r:=(heap_alloc_old _ _ hB).trans ht
 have hnB:v.ownBlock≠some B:=Lib.ownBlock_neF ho.own ht (by decide)
 have hvlt:∀ k,v.ownBlock=some k→k<w.heap.size:=fun k hk=>(ho.own.lt k hk).2
 have ho0:Bv (w.alloc (.cells #[.int .u8 pk,.int .i64 pn,.string pt] 94)) (B+1) v lo bs:=ho.keep (F:=fun _=>False) (aC.of_below hb0) (fun h=>h) (fun _ _ h=>h)
 have hkc:=(box1 hk).1
 have hke:(r.extract 0 pn.toNat).size≤300000:=by rw[ByteArray.size_extract];omega
 dsimp only at h0 hn ⊢
 go_enter Tryz.func170,Tryz.ntmps170
 go_wp2_with (first | (go_at_call 169;refine (aGb B r pn _ ht0 h0 hn (by omega)).mono ?_;rintro e w1 ⟨rfl,hw1⟩;have k1:aC (fun k=>k=B) (w.alloc (.cells #[.int .u8 pk,.int .i64 pn,.string pt] 94)) w1:=(by rw[hw1];exact aC.set (F:=fun k=>k=B) (a:=⟨B,0,none⟩) rfl _);have ht1:Txt w1 B (r.extract pn.toNat r.size):=(by rw[hw1];exact lC ht0);have ho1:=ho0.keep k1 (by omega) (fun k hk e=>hnB (by rw[hk];exact congrArg some e));clear hw1) | (go_at_call 171;refine (aJf (B+1) lo v bs (r.extract 0 pn.toNat) _ ho1 (by omega) (by have:=k1.size;simp at this;omega)).mono ?_;rintro e w2 ⟨rfl,ho2,k2⟩))
 go_end0
 refine⟨rfl,(k2.block B (by have:=k1.size;simp at this;omega) (by rintro (h | h);omega;exact hnB h)).trans ht1,ho2,?_⟩
 exact (hk0.trans (k1.mono (fun k hk => .inl hk))).trans (k2.mono (fun k hk => .inr hk))
theorem aIc (B lo:Nat) (p:PcV) (r:ByteArray) (bs:List Value) (v:Value) (w:World) (ht:Txt w B r) (hk:Tak w B) (ho:Bv w (B+2) v lo bs) (hlo:lo≤w.heap.size) (h0:0≤p.n) (hn:p.n≤r.size) (hs:r.size≤300000) (hl:bs.length≤300000) :
  Calls Tryz.prog 172 #[.agg #[.int .u8 p.kind,.int .i64 p.n,.string p.text],.pointer (some ⟨B+2,0,none⟩),.pointer (some ⟨B+4,0,none⟩)] w fun e w'=>e = .returned (.tuple #[])∧Txt w' B (r.extract p.n.toNat r.size)∧(∃ v',Bv w' (B+2) v' lo (bs++Lib.strCells (r.extract 0 p.n.toNat)))∧aC (fun k=>k=B∨k=B+2∨v.ownBlock=some k) w w':=by
 obtain⟨pk,pn,pt⟩:=p
 have hb0:=(Below.refl w.heap.size w).alloc (Nat.le_refl _) (.cells #[.int .u8 pk,.int .i64 pn,.string pt] 94)
 have hlt:=ho.lt
 have hB:B<w.heap.size:=by omega
 have hB4:=(Array.getElem?_eq_some_iff.1 hk).1
 have hk0:aC (fun k=>k=B∨k=B+2∨v.ownBlock=some k) w (w.alloc (.cells #[.int .u8 pk,.int .i64 pn,.string pt] 94)):=aC.of_below hb0
 have ht0:Txt (w.alloc (.cells #[.int .u8 pk,.int .i64 pn,.string pt] 94)) B r:=(heap_alloc_old _ _ hB).trans ht
 have hnB:v.ownBlock≠some B:=Lib.ownBlock_neF ho.own ht (by decide)
 have hvlt:∀ k,v.ownBlock=some k→k<w.heap.size:=fun k hk=>(ho.own.lt k hk).2
 have ho0:Bv (w.alloc (.cells #[.int .u8 pk,.int .i64 pn,.string pt] 94)) (B+2) v lo bs:=ho.keep (F:=fun _=>False) (aC.of_below hb0) (fun h=>h) (fun _ _ h=>h)
 have hkc:=(box1 hk).1
 have hke:(r.extract 0 pn.toNat).size≤300000:=by rw[ByteArray.size_extract];omega
 dsimp only at h0 hn ⊢
 go_enter Tryz.func172,Tryz.ntmps172
 go_wp2_with (first | (go_at_call 169;refine (aGb B r pn _ ht0 h0 hn (by omega)).mono ?_;rintro e w1 ⟨rfl,hw1⟩;have k1:aC (fun k=>k=B) (w.alloc (.cells #[.int .u8 pk,.int .i64 pn,.string pt] 94)) w1:=(by rw[hw1];exact aC.set (F:=fun k=>k=B) (a:=⟨B,0,none⟩) rfl _);have ht1:Txt w1 B (r.extract pn.toNat r.size):=(by rw[hw1];exact lC ht0);have ho1:=ho0.keep k1 (by omega) (fun k hk e=>hnB (by rw[hk];exact congrArg some e));clear hw1) | (go_at_call 171;refine (aJf (B+2) lo v bs (r.extract 0 pn.toNat) _ ho1 (by omega) (by have:=k1.size;simp at this;omega)).mono ?_;rintro e w2 ⟨rfl,ho2,k2⟩))
 go_end0
 refine⟨rfl,(k2.block B (by have:=k1.size;simp at this;omega) (by rintro (h | h);omega;exact hnB h)).trans ht1,ho2,?_⟩
 exact (hk0.trans (k1.mono (fun k hk => .inl hk))).trans (k2.mono (fun k hk => .inr hk))
theorem aId (B:Nat) (p:PcV) (bo bi:List Value) (vo vi:Value) (w:World) (ho:Bv w (B+1) vo B bo) (hi:Bv w (B+3) vi B bi) (he:bi=[]) (hs:p.text.size≤300000) (hl:bo.length≤300000) :
  Calls Tryz.prog 173 #[.agg #[.int .u8 p.kind,.int .i64 p.n,.string p.text],.pointer (some ⟨B+1,0,none⟩),.pointer (some ⟨B+3,0,none⟩)] w fun e w'=>e = .returned (.tuple #[])∧(∃ vo' vi',Bv w' (B+1) vo' B (bo++Lib.strCells p.text)∧Bv w' (B+3) vi' B (bi++Lib.strCells p.text)∧∀ k,vi'.ownBlock=some k→vo'.ownBlock≠some k)∧aC (fun k=>k=B+1∨k=B+3∨vo.ownBlock=some k) w w':=by
 obtain⟨pk,pn,pt⟩:=p
 have hb0:=(Below.refl w.heap.size w).alloc (Nat.le_refl _) (.cells #[.int .u8 pk,.int .i64 pn,.string pt] 94)
 have hz:=heap_alloc_new w (.cells #[.int .u8 pk,.int .i64 pn,.string pt] 94)
 have hlt:=hi.lt
 have hk0:aC (fun k=>k=B+1∨k=B+3∨vo.ownBlock=some k) w (w.alloc (.cells #[.int .u8 pk,.int .i64 pn,.string pt] 94)):=aC.of_below hb0
 have ho0:Bv (w.alloc (.cells #[.int .u8 pk,.int .i64 pn,.string pt] 94)) (B+1) vo B bo:=ho.keep (F:=fun _=>False) (aC.of_below hb0) (fun h=>h) (fun _ _ h=>h)
 have hi0:Bv (w.alloc (.cells #[.int .u8 pk,.int .i64 pn,.string pt] 94)) (B+3) vi B bi:=hi.keep (F:=fun _=>False) (aC.of_below hb0) (fun h=>h) (fun _ _ h=>h)
 have hvl:vi = .slice none 0 0:=hi.nil_ he
 have hvo:∀ k,vo.ownBlock=some k→k<w.heap.size:=fun k hk=>(ho.own.lt k hk).2
 have hno3:vo.ownBlock≠some (B+3):=by
  rcases hi.blk with h | h
  ·exact Lib.ownBlock_neF ho.own h (by decide)
  ·exact Lib.ownBlock_neF ho.own h (by decide)
 subst hvl
 dsimp only at hs ⊢
 go_enter Tryz.func173,Tryz.ntmps173
 go_wp2_with (first | (go_at_call 171;have h3:=hi1;refine (aJf (B+3) _ _ bi pt _ (hi1.fresh he w1.heap.size) (by rw[he];simp;omega) (Nat.le_refl _)).mono ?_;rintro e w2 ⟨rfl,hi2,k2⟩) | (go_at_call 171;refine (aJf (B+1) B vo bo pt _ ho0 (by omega) (by simp;omega)).mono ?_;rintro e w1 ⟨rfl,ho1,k1⟩;have hi1:=hi0.keep k1 (by rintro (h | h);omega;exact hno3 h) (fun k hk _=>by simp[Value.ownBlock] at hk);have hz1:=(k1.block w.heap.size (by simp) (by rintro (h | h);omega;exact absurd (hvo _ h) (by omega))).trans hz;obtain⟨z0,z1,z2⟩:=iC hz1))
 go_end0
 obtain⟨vo',ho1⟩:=ho1
 obtain⟨vi',hi2⟩:=hi2
 have hno1:vo'.ownBlock≠some (B+3):=by
  rcases hi1.blk with h | h
  ·exact Lib.ownBlock_neF ho1.own h (by decide)
  ·exact Lib.ownBlock_neF ho1.own h (by decide)
 refine⟨rfl,⟨vo',vi',ho1.keep k2 (by rintro (h | h);omega;simp[Value.ownBlock] at h) (fun k hk=>by rintro (h | h);exact hno1 (by rw[hk,h]);simp[Value.ownBlock] at h),hi2.lo (by have:=k1.size;simp at this;omega),fun k hk ho => ?_⟩,?_⟩
 ·have h1:=(hi2.own.lt k hk).1
  have h2:=(ho1.own.lt k ho).2
  omega
 ·exact (hk0.trans (k1.mono (fun k hk=>hk.elim .inl (fun h => .inr (.inr h))))).trans (k2.mono (fun k hk=>hk.elim (fun h => .inr (.inl h)) (fun h=>by simp[Value.ownBlock] at h)))
end Go.Proofs.YtdeiocppghhfdaaGreat
namespace Go.Proofs.YtdeiocppghhfdaaGreat
structure PaS where
 out:List UInt8
 gone:List UInt8
 ins:List UInt8
 rest:List UInt8
def aZ (s:PaS) (p:PcV):PaS :=
 if p.kind=1 then { s with out:=s.out++s.rest.take p.n.toNat,rest:=s.rest.drop p.n.toNat }
 else if p.kind=2 then { s with out:=s.out++p.text.data.toList,ins:=s.ins++p.text.data.toList }
 else { s with gone:=s.gone++s.rest.take p.n.toNat,rest:=s.rest.drop p.n.toNat }
def paF (s:List UInt8) (d:List PcV):PaS:=d.foldl aZ ⟨[],[],[],s⟩
theorem aGc {s:List UInt8} {d:List PcV} {k:Nat} {p:PcV} (h:d[k]? = some p):paF s (d.take (k+1))=aZ (paF s (d.take k)) p:=by
 unfold paF;rw[List.take_add_one,h,Option.toList_some,List.foldl_append];rfl
def sO (s:PaS) (p:PcV) (last:Bool):Bool :=
 decide (0≤p.n) && decide (p.n≤100000) && decide (p.text.size≤100000) && decide (s.out.length≤300000) && decide (s.gone.length≤300000) && decide (s.ins.length≤300000) &&
 ((p.kind == 2) || ((p.kind == 1) || (p.kind == 3)) && decide (p.n.toNat≤s.rest.length)) && ((last && (p.kind == 1)) || (s.gone.isEmpty && s.ins.isEmpty))
def qH:List PcV→PaS→Bool
 | [],_=>true
 | p::d,s=>sO s p d.isEmpty && qH d (aZ s p)
theorem xK:∀ {d:List PcV} {s:PaS} {k:Nat} {p:PcV},qH d s=true→d[k]? = some p→sO ((d.take k).foldl aZ s) p (decide (k+1=d.length))=true
 | q::d,s,0,p,h,hk=>by
  simp only[List.getElem?_cons_zero,Option.some.injEq] at hk
  subst hk
  unfold qH at h
  rw[Bool.and_eq_true] at h
  have:d.isEmpty=decide (0+1=(q::d).length):=by cases d<;>simp
  rw[← this];exact h.1
 | q::d,s,k+1,p,h,hk=>by
  unfold qH at h
  rw[Bool.and_eq_true] at h
  have:=xK (k:=k) h.2 (by simpa using hk)
  rw[List.take_succ_cons,List.foldl_cons]
  have e:decide (k+1+1=(q::d).length)=decide (k+1=d.length):=by simp
  rw[e];exact this
theorem aSl (t:ByteArray) (a n:Int) (x:ByteArray) (h:uP t.size a n x):qH (repD t.size a n x) ⟨[],[],[],t.data.toList⟩=true∧(paF t.data.toList (repD t.size a n x)).out=(repT t a n x).data.toList:=by
 obtain⟨h1,h2,h3,h4,h5,h6⟩:=h
 have e0:(⟨#[]⟩:ByteArray).size=0:=rfl
 have el:t.data.toList.length=t.size:=by simp
 have ex:x.data.toList.length=x.size:=by simp
 obtain⟨T,hT⟩:∃ T,t.data.toList=T:=⟨_,rfl⟩
 obtain⟨X,hX⟩:∃ X,x.data.toList=X:=⟨_,rfl⟩
 have er:(repT t a n x).data.toList=T.take a.toNat++X++T.drop (a+n).toNat:=by unfold repT;rw[hT,hX]
 rw[er,hT]
 rw[hT] at el;rw[hX] at ex
 generalize hm:(t.size:Int)=m at *
 have hm2:t.size=T.length:=el.symm
 unfold repD
 rcases h6 with⟨rfl,hx⟩ | ⟨hn,hx⟩
 ·by_cases ha:0<a<;>by_cases hr:0<m-a-0
  ·rw[if_pos ha,if_pos hx,if_neg (by omega),if_pos hr]
   constructor
   ·simp[qH,sO,aZ,e0,hX];omega
   ·have e:List.take (m-a-0).toNat (List.drop a.toNat T)=T.drop (a+0).toNat:=by rw[Int.add_zero,List.take_of_length_le (by rw[List.length_drop];omega)]
    simp[paF,aZ,hX] at e ⊢;exact e
  ·rw[if_pos ha,if_pos hx,if_neg (by omega),if_neg hr]
   constructor
   ·simp[qH,sO,aZ,e0,hX];omega
   ·have e:T.drop (a+0).toNat=[]:=by rw[List.drop_eq_nil_iff];omega
    simp[paF,aZ,hX] at e ⊢;omega
  ·rw[if_neg ha,if_pos hx,if_neg (by omega),if_pos hr]
   obtain rfl:a=0:=by omega
   constructor
   ·simp[qH,sO,aZ,e0,hX];omega
   ·have e:List.take (m-0-0).toNat T=T:=by rw[List.take_of_length_le (by omega)]
    simp[paF,aZ,hX] at e ⊢;exact e
  ·rw[if_neg ha,if_pos hx,if_neg (by omega),if_neg hr]
   obtain rfl:a=0:=by omega
   constructor
   ·simp[qH,sO,aZ,e0,hX];omega
   ·have e:T=[]:=List.eq_nil_of_length_eq_zero (by omega)
    simp[paF,aZ,hX,e]
 ·have hX0:X=[]:=List.eq_nil_of_length_eq_zero (by omega)
  by_cases ha:0<a<;>by_cases hr:0<m-a-n
  ·rw[if_pos ha,if_neg (by omega),if_pos hn,if_pos hr]
   constructor
   ·simp[qH,sO,aZ,e0];omega
   ·have e:List.take (m-a-n).toNat (List.drop n.toNat (List.drop a.toNat T))=T.drop (a+n).toNat:=by rw[List.drop_drop,List.take_of_length_le (by rw[List.length_drop];omega)];congr 1;omega
    simp[paF,aZ,hX0] at e ⊢;exact e
  ·rw[if_pos ha,if_neg (by omega),if_pos hn,if_neg hr]
   constructor
   ·simp[qH,sO,aZ,e0];omega
   ·have e:T.drop (a+n).toNat=[]:=by rw[List.drop_eq_nil_iff];omega
    simp[paF,aZ,hX0,e]
  ·rw[if_neg ha,if_neg (by omega),if_pos hn,if_pos hr]
   obtain rfl:a=0:=by omega
   constructor
   ·simp[qH,sO,aZ,e0];omega
   ·have e:List.take (m-0-n).toNat (List.drop n.toNat T)=T.drop (0+n).toNat:=by rw[Int.zero_add,List.take_of_length_le (by rw[List.length_drop];omega)]
    simp[paF,aZ,hX0] at e ⊢;exact e
  ·rw[if_neg ha,if_neg (by omega),if_pos hn,if_neg hr]
   obtain rfl:a=0:=by omega
   constructor
   ·simp[qH,sO,aZ,e0];omega
   ·have e:T.drop (0+n).toNat=[]:=by rw[List.drop_eq_nil_iff];omega
    simp[paF,aZ,hX0,e];omega
end Go.Proofs.YtdeiocppghhfdaaGreat
namespace Go.Proofs.YtdeiocppghhfdaaGreat
open Go.RowKit Go.Lib Go.Shelf
theorem aOe (s:ByteArray) (a:Option Addr) (c:Nat) (d:List PcV) (w:World) (hr:PRow w a d) (hs:d.length≤1000000) (hl:lenS d=((s.size:Int),(lenS d).2.1,0)) :
  Calls Tryz.prog 114 #[.string s,.slice a d.length c] w fun e w'=>e = .returned (.int .i64 0)∧Below w.heap.size w w':=by
 have h1:=lZ a c d w hr hs
 rw[hl] at h1
 have H1:=Lib.hid h1
 clear h1 hl
 go_enter Tryz.func114,Tryz.ntmps114
 go_wp2_with (first | (go_at_call 111;refine H1.out.mono ?_;rintro e w1 ⟨rfl,hB1⟩))
 go_returns
 exact⟨rfl,hB1⟩
theorem iY {P:Program} (w:World) {ops:Array Oper} {rest:List Oper} {o:Oper} {a:Act} {Q:Exit→Act→World→Prop}
  (hg:o.guard=none) (m x:Operand) (t:TypeId) (hop:o.op=Op.lookup t m x false) (k e:TypeId) (ht:P.underlying t=some (.map k e)) (q:IntKind) (hk:P.underlying k=some (.int q))
  (b clock:Nat) (es:Array MapEntry) (i:Int) (hb:w.heap[b]? = some (.map es clock)) (hm:a.eval m = .map (some b)) (hx:a.eval x = .int q i) (j:Nat) (val:Value) (hf:Instr.findNow (.int q) (.int q i) es.toList 0=some (some (j,val)))
  (hK:wpList P ops Q rest (a.put o.dst val) w):wpList P ops Q (o::rest) a w:=by
 refine wpList_plain hg fun K' hK' => ?_
 have hc:(Instr.checkKey es.isEmpty 10000 k (.int q i)).run P w = .ok () w:=MapKept.run_checkKey (k := .int q i) hk (by simp[MapKept.IsKey]) _ 9999
 have hrun:(Instr.lookup t (.map (some b)) (.int q i) false).run P w = .ok val w:=by
  simp[Instr.lookup,run_underlying ht,MapKept.run_getObj_map hb,hc,MapKept.run_findKey hk hf,Result.andThen]
 unfold Oper.wp
 simp[execOp,hop,hm,hx,hrun,Result.andThen]
 exact hK' _ _ hK
def paE (B:Nat):Array MapEntry := #[⟨.int .u8 1,.func (.func 170) #[] #[.pointer (some ⟨B+1,0,none⟩),.pointer (some ⟨B+4,0,none⟩)],0⟩,⟨.int .u8 3,.func (.func 172) #[] #[.pointer (some ⟨B+2,0,none⟩),.pointer (some ⟨B+4,0,none⟩)],1⟩,⟨.int .u8 2,.func (.func 173) #[] #[.pointer (some ⟨B+1,0,none⟩),.pointer (some ⟨B+3,0,none⟩)],2⟩]
structure PaW (w:World) (B:Nat) (s:PaS) (r:ByteArray) (vo vg vi:Value):Prop where
 rest:r.data.toList=s.rest
 text:Txt w B r
 out:Bv w (B+1) vo B (Lib.byteCells s.out)
 gone:Bv w (B+2) vg B (Lib.byteCells s.gone)
 ins:Bv w (B+3) vi B (Lib.byteCells s.ins)
 take:Tak w B
 map:w.heap[B+5]? = some (.map (paE B) 3)
theorem Bv.below {w w':World} {b lo:Nat} {v:Value} {bs:List Value} (h:Bv w b v lo bs) (hb:Below w.heap.size w w'):Bv w' b v lo bs:=h.keep (F:=fun _=>False) (aC.of_below hb) (fun h=>h) (fun _ _ h=>h)
theorem PaW.below {w w':World} {B:Nat} {s:PaS} {r:ByteArray} {vo vg vi:Value} (h:PaW w B s r vo vg vi) (hb:Below w.heap.size w w'):PaW w' B s r vo vg vi :=
 ⟨h.rest,(hb.block _ (Array.getElem?_eq_some_iff.1 h.text).1).trans h.text,h.out.below hb,h.gone.below hb,h.ins.below hb,(hb.block _ (Array.getElem?_eq_some_iff.1 h.take).1).trans h.take,(hb.block _ (Array.getElem?_eq_some_iff.1 h.map).1).trans h.map⟩
def aGd (vo vg vi:Value):Prop:=∀ g,(vg.ownBlock=some g∨vi.ownBlock=some g)→vo.ownBlock≠some g
theorem wI {w:World} {b lo:Nat} {v:Value} {l:List UInt8} (h:Bv w b v lo (Lib.byteCells l)) (hl:l=[]):v.ownBlock=none:=by
 rw[h.nil_ (by rw[hl];rfl)];rfl
theorem wJ (r:ByteArray) (n:Nat):Lib.strCells (r.extract 0 n)=Lib.byteCells (r.data.toList.take n):=by
 rw[Lib.strCells_eq];congr 1;simp[ByteArray.data_extract]
theorem wK (r:ByteArray) (n:Nat):(r.extract n r.size).data.toList=r.data.toList.drop n:=by
 simp[ByteArray.data_extract]
 exact List.take_of_length_le (by simp)
theorem aD1 {w:World} {b lo:Nat} {v:Value} {bs:List Value} (h:Bv w b v lo bs):∀ k,v.ownBlock=some k→lo≤k∧k<w.heap.size:=fun k hk=>h.own.lt k hk
theorem tT {w:World} {b lo k:Nat} {v:Value} {bs:List Value} {cs:Array Value} {T:TypeId} (h:Bv w b v lo bs) (hk:w.heap[k]? = some (.cells cs T (0,0))) (hT:T≠5):v.ownBlock≠some k:=Lib.ownBlock_neF h.own hk hT
theorem xL {w:World} {b b2 lo lo2:Nat} {v v2:Value} {bs bs2:List Value} (h:Bv w b v lo bs) (h2:Bv w b2 v2 lo2 bs2):v.ownBlock≠some b2:=by
 rcases h2.blk with h3 | h3
 ·exact tT h h3 (by decide)
 ·exact tT h h3 (by decide)
theorem aJg {w:World} {b lo k c:Nat} {v:Value} {bs:List Value} {es:Array MapEntry} (h:Bv w b v lo bs) (hk:w.heap[k]? = some (.map es c)):v.ownBlock≠some k:=by
 rcases h.own.2 with⟨rfl,_⟩ | ⟨g,cap,cur,fz,rfl,_,hg,_⟩
 ·simp[Value.ownBlock]
 ·intro e
  simp only[Value.ownBlock,Option.some.injEq] at e
  subst e
  rw[hk] at hg;cases hg
theorem yD {s:PaS} {p:PcV} {last:Bool} (h:sO s p last=true):(0≤p.n∧p.n≤100000)∧p.text.size≤100000∧s.out.length≤300000∧s.gone.length≤300000∧s.ins.length≤300000∧(p.kind=2∨(p.kind=1∨p.kind=3)∧p.n.toNat≤s.rest.length)∧((last=true∧p.kind=1)∨(s.gone=[]∧s.ins=[])):=by
 unfold sO at h
 simp only[Bool.and_eq_true,Bool.or_eq_true,decide_eq_true_eq,beq_iff_eq,List.isEmpty_iff] at h
 obtain⟨⟨⟨⟨⟨⟨⟨h1,h2⟩,h3⟩,h4⟩,h5⟩,h6⟩,h7⟩,h8⟩:=h
 exact⟨⟨h1,h2⟩,h3,h4,h5,h6,h7,h8⟩
theorem aQu {w w':World} {B:Nat} {s:PaS} {r:ByteArray} {vo vg vi vo':Value} {p:PcV} (h:PaW w B s r vo vg vi) (hs:aGd vo vg vi) (hk:p.kind=1) (ht:Txt w' B (r.extract p.n.toNat r.size)) (ho:Bv w' (B+1) vo' B (Lib.byteCells s.out++Lib.strCells (r.extract 0 p.n.toNat))) (hkf:aC (fun k=>k=B∨k=B+1∨vo.ownBlock=some k) w w') :
  PaW w' B (aZ s p) (r.extract p.n.toNat r.size) vo' vg vi:=by
 have e:aZ s p={ s with out:=s.out++s.rest.take p.n.toNat,rest:=s.rest.drop p.n.toNat }:=by unfold aZ;rw[if_pos hk]
 rw[e]
 rw[wJ,← Lib.byteCells_append,h.rest] at ho
 refine⟨by rw[wK,h.rest],ht,ho,h.gone.keep hkf (by rintro (h' | h' | h');omega;omega;exact xL h.out h.gone h') (fun k hk' => ?_),h.ins.keep hkf (by rintro (h' | h' | h');omega;omega;exact xL h.out h.ins h') (fun k hk' => ?_),(hkf.block _ (Array.getElem?_eq_some_iff.1 h.take).1 (by rintro (h' | h' | h');omega;omega;exact tT h.out h.take (by decide) h')).trans h.take,(hkf.block _ (Array.getElem?_eq_some_iff.1 h.map).1 (by rintro (h' | h' | h');omega;omega;exact aJg h.out h.map h')).trans h.map⟩
 ·rintro (h' | h' | h')
  ·exact tT h.gone h.text (by decide) (by rw[hk',h'])
  ·exact xL h.gone h.out (by rw[hk',h'])
  ·exact hs k (.inl hk') h'
 ·rintro (h' | h' | h')
  ·exact tT h.ins h.text (by decide) (by rw[hk',h'])
  ·exact xL h.ins h.out (by rw[hk',h'])
  ·exact hs k (.inr hk') h'
theorem aQv {w w':World} {B:Nat} {s:PaS} {r:ByteArray} {vo vg vi vg':Value} {p:PcV} (h:PaW w B s r vo vg vi) (he:s.gone=[]∧s.ins=[]) (hk:p.kind=3) (ht:Txt w' B (r.extract p.n.toNat r.size)) (ho:Bv w' (B+2) vg' w.heap.size (Lib.byteCells s.gone++Lib.strCells (r.extract 0 p.n.toNat))) (hBw:B≤w.heap.size) (hkf:aC (fun k=>k=B∨k=B+2∨vg.ownBlock=some k) w w') :
  PaW w' B (aZ s p) (r.extract p.n.toNat r.size) vo vg' vi∧aGd vo vg' vi:=by
 have e:aZ s p={ s with gone:=s.gone++s.rest.take p.n.toNat,rest:=s.rest.drop p.n.toNat }:=by unfold aZ;rw[if_neg (by omega),if_neg (by omega)]
 have n1:=wI h.gone he.1
 have n2:=wI h.ins he.2
 rw[e]
 rw[wJ,← Lib.byteCells_append,h.rest] at ho
 refine⟨⟨by rw[wK,h.rest],ht,h.out.keep hkf (by rintro (h' | h' | h');omega;omega;rw[n1] at h';cases h') (fun k hk' => ?_),ho.lo hBw,h.ins.keep hkf (by rintro (h' | h' | h');omega;omega;rw[n1] at h';cases h') (fun k hk'=>by rw[n2] at hk';cases hk'),(hkf.block _ (Array.getElem?_eq_some_iff.1 h.take).1 (by rintro (h' | h' | h');omega;omega;rw[n1] at h';cases h')).trans h.take,(hkf.block _ (Array.getElem?_eq_some_iff.1 h.map).1 (by rintro (h' | h' | h');omega;omega;rw[n1] at h';cases h')).trans h.map⟩,?_⟩
 ·rintro (h' | h' | h')
  ·exact tT h.out h.text (by decide) (by rw[hk',h'])
  ·exact xL h.out h.gone (by rw[hk',h'])
  ·rw[n1] at h';cases h'
 ·rintro g (hg | hg) ho'
  ·have:=(aD1 ho g hg).1;have:=(aD1 h.out g ho').2;omega
  ·rw[n2] at hg;cases hg
theorem aSm {w w':World} {B:Nat} {s:PaS} {r:ByteArray} {vo vg vi vo' vi':Value} {p:PcV} (h:PaW w B s r vo vg vi) (he:s.gone=[]∧s.ins=[]) (hk:p.kind=2) (ho:Bv w' (B+1) vo' B (Lib.byteCells s.out++Lib.strCells p.text)) (hi:Bv w' (B+3) vi' B (Lib.byteCells s.ins++Lib.strCells p.text)) (hs:∀ k,vi'.ownBlock=some k→vo'.ownBlock≠some k) (hkf:aC (fun k=>k=B+1∨k=B+3∨vo.ownBlock=some k) w w') :
  PaW w' B (aZ s p) r vo' vg vi'∧aGd vo' vg vi':=by
 have e:aZ s p={ s with out:=s.out++p.text.data.toList,ins:=s.ins++p.text.data.toList }:=by unfold aZ;rw[if_neg (by omega),if_pos hk]
 have n1:=wI h.gone he.1
 rw[e]
 rw[Lib.strCells_eq,← Lib.byteCells_append] at ho hi
 refine⟨⟨h.rest,(hkf.block _ (Array.getElem?_eq_some_iff.1 h.text).1 (by rintro (h' | h' | h');omega;omega;exact tT h.out h.text (by decide) h')).trans h.text,ho,h.gone.keep hkf (by rintro (h' | h' | h');omega;omega;exact xL h.out h.gone h') (fun k hk'=>by rw[n1] at hk';cases hk'),hi,(hkf.block _ (Array.getElem?_eq_some_iff.1 h.take).1 (by rintro (h' | h' | h');omega;omega;exact tT h.out h.take (by decide) h')).trans h.take,(hkf.block _ (Array.getElem?_eq_some_iff.1 h.map).1 (by rintro (h' | h' | h');omega;omega;exact aJg h.out h.map h')).trans h.map⟩,?_⟩
 rintro g (hg | hg)
 ·rw[n1] at hg;cases hg
 ·exact hs g hg
theorem aQw {w:World} {B:Nat} {s:PaS} {r:ByteArray} {vo vg vi vo':Value} (h:PaW w B s r vo vg vi) (he:s.gone=[]∧s.ins=[]):aGd vo' vg vi:=by
 rintro g (hg | hg)
 ·rw[wI h.gone he.1] at hg;cases hg
 ·rw[wI h.ins he.2] at hg;cases hg
end Go.Proofs.YtdeiocppghhfdaaGreat
