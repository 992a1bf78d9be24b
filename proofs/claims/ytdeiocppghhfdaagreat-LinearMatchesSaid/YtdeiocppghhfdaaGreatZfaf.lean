/- Texts, one behind another. -/
import Derived.Test.YtdeiocppghhfdaaGreatZfae
import Derived.BigRegion
set_option linter.unusedVariables false
set_option linter.unusedSimpArgs false
set_option maxRecDepth 100000
set_option maxHeartbeats 40000000
namespace Go.Proofs.YtdeiocppghhfdaaGreat
open Go.RowKit
theorem te1 (t:ByteArray):(t.toList=[])=(t.size=0):=by
 rw[Lib.toList_data]
 apply propext
 constructor
 ·intro h;have:=congrArg List.length h;simpa using this
 ·intro h;apply List.eq_nil_of_length_eq_zero;simpa using h
theorem te2 (t:ByteArray):(t.toList.isEmpty=true)=(t.size=0):=by rw[List.isEmpty_iff,te1]
theorem te3 (t:ByteArray):(t.toList.isEmpty=false)=¬(t.size=0):=by rw[← te2];simp
def opP (o:OpV):Prop:=1≤o.kind∧o.kind≤16∧0≤o.at_∧0≤o.n∧0≤o.slot∧(6≤o.kind∧o.kind≤13∨o.slot=0)∧(o.kind=1∨o.kind=2∨o.kind=3∨o.kind=7∨o.kind=11∨o.at_=0) ∧
 (o.kind=2∨o.kind=7∨o.kind=8∨o.kind=9∨o.kind=12∨o.n=0)∧((o.kind=3∨o.kind=4∨o.kind=10)∧o.id≠0∨¬(o.kind=3∨o.kind=4∨o.kind=10)∧o.id=0) ∧
 (o.kind=3∨o.grav=0)∧o.grav≤1∧(o.kind=1∧o.text.size≠0∨o.kind≠1∧o.text.size=0)∧(o.kind=2→o.n≠0)
instance (o:OpV):Decidable (opP o):=by unfold opP;infer_instance
def opE (o:OpV):Int:=if opP o then (if o.text.size>256 then 5 else if bN o.text.data.toList then 0 else 11) else 2
theorem aQg {o:OpV} (h:¬opP o):2=opE o:=by unfold opE;rw[if_neg h]
theorem aQh {o:OpV} (h:opP o) (h2:256<o.text.size):5=opE o:=by unfold opE;rw[if_pos h,if_pos h2]
theorem aKb {o:OpV} (h:opP o) (h2:o.text.size≤256) (h3:(!bN o.text.data.toList)=true):11=opE o:=by unfold opE;rw[if_pos h,if_neg (by omega),if_neg (by simpa using h3)]
theorem aQi {o:OpV} (h:opP o) (h2:o.text.size≤256) (h3:(!bN o.text.data.toList)=false):0=opE o:=by unfold opE;rw[if_pos h,if_neg (by omega),if_pos (by simpa using h3)]
theorem tJ (o:OpV) (w:World):Calls Tryz.prog 136 #[o.v] w fun e w'=>e = .returned (.int .i64 (opE o))∧Below w.heap.size w w':=by
 have hb:=fun (o1 o2:Obj)=>((Below.refl w.heap.size w).alloc (Nat.le_refl _) o1).alloc (by simp) o2
 obtain⟨k,s,a,n,i,g,t⟩:=o
 unfold OpV.v
 by_cases h:1≤k∧k≤16
 focus
  rcases (by omega:k=1∨k=2∨k=3∨k=4∨k=5∨k=6∨k=7∨k=8∨k=9∨k=10∨k=11∨k=12∨k=13∨k=14∨k=15∨k=16) with rfl | rfl | rfl | rfl | rfl | rfl | rfl | rfl | rfl | rfl | rfl | rfl | rfl | rfl | rfl | rfl
  all_goals clear h
 rotate_left 16
 focus
  have hne:∀ j:Int,1≤j→j≤16→(k == j)=false:=fun j h1 h2=>by simp;omega
  have n1:=hne 1 (by decide) (by decide)
  have n2:=hne 2 (by decide) (by decide)
  have n3:=hne 3 (by decide) (by decide)
  have n4:=hne 4 (by decide) (by decide)
  have n5:=hne 5 (by decide) (by decide)
  have n6:=hne 6 (by decide) (by decide)
  have n7:=hne 7 (by decide) (by decide)
  have n8:=hne 8 (by decide) (by decide)
  have n9:=hne 9 (by decide) (by decide)
  have n10:=hne 10 (by decide) (by decide)
  have n11:=hne 11 (by decide) (by decide)
  have n12:=hne 12 (by decide) (by decide)
  have n13:=hne 13 (by decide) (by decide)
  have n14:=hne 14 (by decide) (by decide)
  have n15:=hne 15 (by decide) (by decide)
  have n16:=hne 16 (by decide) (by decide)
  clear hne
  have hk:=Lib.hid h
  clear h
 all_goals
  go_enter Tryz.func136,Tryz.ntmps136
  go_wp2_with fail
  try go_region
  all_goals go_wp2_with (go_at_call 135;refine (kI _ _).mono ?_;rintro e w' ⟨rfl,rfl⟩)
  all_goals (go_ret;refine⟨nN ?_,by first | exact hb _ _ | exact (hb _ _).drew⟩)
  all_goals ((try have hk:=hk.out);(try simp only[te1,te2,te3,beq_iff_eq] at *);first | exact aQh (by unfold opP;dsimp only;omega) (by dsimp only;omega) | exact aKb (by unfold opP;dsimp only;omega) (by dsimp only;omega) (by assumption) | exact aQi (by unfold opP;dsimp only;omega) (by dsimp only;omega) (by assumption) | exact aQg (by unfold opP;dsimp only;omega))
end Go.Proofs.YtdeiocppghhfdaaGreat
