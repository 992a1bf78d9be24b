/- Texts, one behind another. -/
import Derived.Test.YtdeiocppghhfdaaGreatZfam
set_option linter.unusedVariables false
set_option linter.unusedSimpArgs false
set_option maxRecDepth 100000
set_option maxHeartbeats 40000000
namespace Go.Proofs.YtdeiocppghhfdaaGreat
open Go.RowKit
theorem te4 (t:ByteArray):((!t.toList.isEmpty)=false)=(t.size=0):=by rw[← te2];simp
theorem te5 (t:ByteArray):((!t.toList.isEmpty)=true)=¬(t.size=0):=by rw[← te2];simp
theorem aIq (o:OpV) (w:World):Calls Tryz.prog 223 #[o.v] w fun e w'=>e = .returned (.int .i64 (opE o))∧Below w.heap.size w w':=by
 have hb1:=fun (o1:Obj)=>(Below.refl w.heap.size w).alloc (Nat.le_refl _) o1
 obtain⟨k,s,a,n,i,g,t⟩:=o
 unfold OpV.v
 by_cases h:1≤k∧k≤16
 focus
  rcases (by omega:k=1∨k=2∨k=3∨k=4∨k=5∨k=6∨k=7∨k=8∨k=9∨k=10∨k=11∨k=12∨k=13∨k=14∨k=15∨k=16) with rfl | rfl | rfl | rfl | rfl | rfl | rfl | rfl | rfl | rfl | rfl | rfl | rfl | rfl | rfl | rfl
  all_goals clear h
 rotate_left 16
 focus
  have hne:∀ j:Int,1≤j→j≤16→(k == j)=false:=fun j h1 h2=>by simp;omega
  have n1:=hne 1 (by decide) (by decide)
  have n2:=hne 2 (by decide) (by decide)
  have n3:=hne 3 (by decide) (by decide)
  have n4:=hne 4 (by decide) (by decide)
  have n5:=hne 5 (by decide) (by decide)
  have n6:=hne 6 (by decide) (by decide)
  have n7:=hne 7 (by decide) (by decide)
  have n8:=hne 8 (by decide) (by decide)
  have n9:=hne 9 (by decide) (by decide)
  have n10:=hne 10 (by decide) (by decide)
  have n11:=hne 11 (by decide) (by decide)
  have n12:=hne 12 (by decide) (by decide)
  have n13:=hne 13 (by decide) (by decide)
  have n14:=hne 14 (by decide) (by decide)
  have n15:=hne 15 (by decide) (by decide)
  have n16:=hne 16 (by decide) (by decide)
  clear hne
  have hk:=Lib.hid h
  clear h
 all_goals
  as_aux_lemma =>
   go_enter Tryz.func223,Tryz.ntmps223
   go_wp2_with fail
   try go_region
   all_goals go_wp2_with (go_at_call 218;refine (qC _ _ (by (try simp only[te4,te5,te1,te2,te3,beq_iff_eq,beq_eq_false_iff_ne,ne_eq] at *);unfold maxLen;omega)).mono ?_;rintro e w' ⟨rfl,hB1⟩)
   all_goals (go_ret;refine⟨nN ?_,by first | exact hb1 _ | exact (hb1 _).drew | exact (hb1 _).trans (hB1.mono (hb1 _).size)⟩)
   all_goals ((try have hk:=hk.out);(try simp only[te4,te5,te1,te2,te3,beq_iff_eq,beq_eq_false_iff_ne,ne_eq] at *);first | exact aQh (by unfold opP;dsimp only;omega) (by dsimp only;omega) | exact aKb (by unfold opP;dsimp only;omega) (by dsimp only;omega) (by assumption) | exact aQi (by unfold opP;dsimp only;omega) (by dsimp only;omega) (by assumption) | exact aQg (by unfold opP;dsimp only;omega))
end Go.Proofs.YtdeiocppghhfdaaGreat
