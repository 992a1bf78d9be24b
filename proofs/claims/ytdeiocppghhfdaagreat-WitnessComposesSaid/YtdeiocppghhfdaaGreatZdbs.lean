/- Texts, one behind another. -/
import Derived.Test.YtdeiocppghhfdaaGreatZdbr
set_option linter.unusedVariables false
set_option linter.unusedSimpArgs false
set_option maxRecDepth 100000
set_option maxHeartbeats 8000000
namespace Go.Proofs.YtdeiocppghhfdaaGreat
open Go.RowKit Go.Lib Go.Shelf
theorem Rdr.glt {W:World} {lo b g:Nat} {p:PcV} {ps:List PcV} (h:Rdr W lo b g (p::ps)):g<W.heap.size:=by
 obtain⟨a,c,h1,h2,h3⟩:=h
 obtain⟨off,cur,_,_,hg,_⟩:=h3.head
 exact (Array.getElem?_eq_some_iff.1 hg).1
theorem fz3 {W:World} {B:Nat} {a b c:Value} {T:TypeId} (h:W.heap[B]? = some (.cells #[a,b,c] T (0,0))) (u v:Value):(W.setCell ⟨B,0,none⟩ u).frozen? ⟨B,1,none⟩=false∧((W.setCell ⟨B,0,none⟩ u).setCell ⟨B,1,none⟩ v).frozen? ⟨B,2,none⟩=false:=by
 constructor<;>simp[World.frozen?,World.setCell,Array.getElem?_modify,h]
theorem hc3 {W:World} {B:Nat} {a b c:Value} {T:TypeId} (h:W.heap[B]? = some (.cells #[a,b,c] T (0,0))) (u v x:Value):(((W.setCell ⟨B,0,none⟩ u).setCell ⟨B,1,none⟩ v).setCell ⟨B,2,none⟩ x).heap[B]? = some (.cells #[u,v,x] T (0,0)):=by
 simp[World.setCell,Array.getElem?_modify,h]
theorem aOx (W:World) (B:Nat) (u v x:Value):aC (fun k=>k=B) W (((W.setCell ⟨B,0,none⟩ u).setCell ⟨B,1,none⟩ v).setCell ⟨B,2,none⟩ x) :=
 ((aC.set (F:=fun k=>k=B) (a:=⟨B,0,none⟩) rfl u).trans (aC.set (F:=fun k=>k=B) (a:=⟨B,1,none⟩) rfl v)).trans (aC.set (F:=fun k=>k=B) (a:=⟨B,2,none⟩) rfl x)
theorem aGt {F:Nat→Prop} {w W:World} {B:Nat} (h:aC F w W) (hB:w.heap.size≤B) (u v x:Value):aC F w (((W.setCell ⟨B,0,none⟩ u).setCell ⟨B,1,none⟩ v).setCell ⟨B,2,none⟩ x):=by
 have k:=aOx W B u v x
 exact⟨k.os.trans h.os,k.tape.trans h.tape,k.output.trans h.output,Nat.le_trans h.size k.size,fun i hi hF=>(k.block i (Nat.lt_of_lt_of_le hi h.size) (by omega)).trans (h.block i hi hF)⟩
theorem aGu (lo b g:Nat) (p:PcV) (ps:List PcV) (n:Nat) (w:World) (h:Rdr w lo b g (p::ps)) (h1:0≤p.n) (h2:p.n≤2000000) (hs:p.text.size≤2000000) (hn:n≤2000000) (hc:¬ (n:Int)<p.n+p.text.size) :
  Calls Tryz.prog 168 #[.pointer (some ⟨b,0,none⟩),.int .i64 n] w fun e w'=>e = .returned (.agg #[.int .u8 p.kind,.int .i64 p.n,.string p.text])∧Rdr w' lo b g ps∧aC (fun k=>k=b∨k=g) w w':=by
 have hH:=Lib.hid h
 have HBL:=Lib.hid h.lt
 have HGL:=Lib.hid h.glt
 have mixed : Tryz.prog.follows Departure.mixedOrders=true:=by kernel_rfl
 have d1:decide ((n:Int)<p.n+p.text.size)=false:=by simpa using hc
 clear h
 go_enter Tryz.func168,Tryz.ntmps168
 go_wp2_with (first | (go_at_call 165;refine (jG lo b g p ps _ (hH.out.below (mP (Below.refl _ _) _))).mono ?_;rintro e w1 ⟨rfl,hB1⟩))
 have hR1:=((hH.out.below (mP (Below.refl _ _) _)).below hB1).below (mP (Below.refl _ _) (.cells #[.int .u8 p.kind,.int .i64 p.n,.string p.text] 94))
 have hz:=heap_alloc_new w1 (.cells #[.int .u8 p.kind,.int .i64 p.n,.string p.text] 94)
 have hsz:(w1.alloc (.cells #[.int .u8 p.kind,.int .i64 p.n,.string p.text] 94)).heap.size=w1.heap.size+1:=by simp
 have hF:∀ V,Below (w1.heap.size+1) (w1.alloc (.cells #[.int .u8 p.kind,.int .i64 p.n,.string p.text] 94)) V→V.cell? ⟨b,1,none⟩=some (.func (.func 167) #[] #[])∧V.cell? ⟨w1.heap.size,0,none⟩=some (.int .u8 p.kind)∧V.cell? ⟨w1.heap.size,1,none⟩=some (.int .i64 p.n)∧V.cell? ⟨w1.heap.size,2,none⟩=some (.string p.text):=fun V hV=>by
  obtain⟨a,c,r1,r2,r3⟩:=hR1.below (hsz ▸ hV)
  obtain⟨z0,z1,z2⟩:=iC ((hV.block w1.heap.size (by omega)).trans hz)
  exact⟨(wV r1).2.1,z0,z1,z2⟩
 have HF:=Lib.hid hF
 have HR1:=Lib.hid hR1
 have HZ:=Lib.hid hz
 clear hF hR1 hz hH
 refine wp_region_noPanic ?_
 refine wp_region_held_drew (S:=fun W=>W.cell? ⟨b,1,none⟩=some (.func (.func 167) #[] #[])∧W.cell? ⟨w1.heap.size,0,none⟩=some (.int .u8 p.kind)∧W.cell? ⟨w1.heap.size,1,none⟩=some (.int .i64 p.n)∧W.cell? ⟨w1.heap.size,2,none⟩=some (.string p.text)) (by kernel_rfl) ?_ (fun hHeld => ?_)
 ·first | exact HF.out _ (Below.refl _ _).drew | exact HF.out _ hB3
 iterate 6 (first | (refine aL ?_;(try simp only[nSO])) | ((first | refine np_n ?_ ?_ ?_ | refine np_t 0 ?_ ?_ ?_);rotate_left 1;(· (intro w hSw;(try dsimp only at hSw);go_simp;all_goals with_reducible rfl));(try simp only[nSO])))
 first | (refine np_s 6 ?_;(try simp only[nSO])) | (refine aD (i:=6) rfl (by kernel_rfl) (fun K hK => ?_);rw[if_pos (by rfl)];go_simp;((go_at_call 167;refine (wW p _ (by omega) (by omega)).mono ?_;rintro e w2 ⟨rfl,hB2⟩;have hB3:Below (w1.heap.size+1) (w1.alloc (.cells #[.int .u8 p.kind,.int .i64 p.n,.string p.text] 94)) w2:=(Below.refl _ _).drew.trans (hB2.mono (by simp))));(try go_wp2_with fail);refine hK.out _ _ ?_ (fun hHeld => ?_);(· (first | exact HF.out _ (Below.refl _ _).drew | exact HF.out _ hB3));clear hK K;(try simp only[nSO]))
 first | (refine aL ?_;(try simp only[nSO])) | (refine np_n ?_ ?_ ?_;rotate_left 1;(· (intro w hSw;(try dsimp only at hSw);go_simp;all_goals with_reducible rfl));(try simp only[nSO]))
 refine wpAnyH_done (by kernel_rfl) ?_ _
 refine NoPanic.normal ?_
 have hR2:=HR1.out.below (hsz ▸ hB3)
 have hwl:w.heap.size<w2.heap.size:=by have h5:=hB3.size;have h6:=hB1.size;rw[hsz] at h5;rw[World.size_alloc] at h6;omega
 have hwb:¬ w.heap.size=b:=fun e=>by have:=HBL.out;omega
 have hz0:=(hB3.block w.heap.size (by have:=hB1.size;simp at this;omega)).trans ((heap_alloc_old w1 _ (by have:=hB1.size;simp at this;omega)).trans ((hB1.block w.heap.size (by simp)).trans (heap_alloc_new w _)))
 go_wp2_with (first | (go_at_call 166;refine (pY lo b g p ps _ hR2).mono ?_;rintro e w3 ⟨rfl,hR3,hK3⟩;have hz3:=(hK3.block w.heap.size (by omega) hwb).trans hz0;obtain⟨y0,y1,y2⟩:=iC hz3;have yf:w3.frozen? ⟨w.heap.size,0,none⟩=false:=Lib.frozen_of_heap hz3 0;obtain⟨yf1,yf2⟩:=fz3 hz3 (.int .u8 p.kind) (.int .i64 p.n);have hs3:=hK3.size))
 have hgw:¬ g=w.heap.size:=fun e=>by have:=HGL.out;omega
 have hK4:aC (fun k=>k=w.heap.size) w3 (((w3.setCell ⟨w.heap.size,0,none⟩ (.int .u8 p.kind)).setCell ⟨w.heap.size,1,none⟩ (.int .i64 p.n)).setCell ⟨w.heap.size,2,none⟩ (.string p.text)):=aOx _ _ _ _ _
 have hK0:aC (fun k=>k=b∨k=g) w w2:=aC.of_below (((mP (Below.refl _ _) _).trans (hB1.mono (by simp))).trans ((nM (Below.refl _ _) _).mono (by have h6:=hB1.size;rw[World.size_alloc] at h6;omega) |>.trans (hB3.mono (by have h6:=hB1.size;rw[World.size_alloc] at h6;omega))))
 refine⟨rfl,_,results_cell_row rfl _ _ _ _ _ _ _ rfl (hc3 hz3 _ _ _) Tryz.underlying94 rfl (by kernel_rfl),rfl,hR3.keep hK4 (fun e=>hwb e.symm) (fun _=>hgw),?_⟩
 exact aGt (hK0.trans (hK3.mono (fun k hk => .inl hk))) (Nat.le_refl _) _ _ _
end Go.Proofs.YtdeiocppghhfdaaGreat
