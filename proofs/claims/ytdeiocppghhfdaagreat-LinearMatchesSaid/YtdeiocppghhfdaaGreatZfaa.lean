/- Texts, one behind another. -/
import Derived.Test.YtdeiocppghhfdaaGreatChecked
import Derived.Deep.RegionHeld3
set_option linter.unusedVariables false
set_option linter.unusedSimpArgs false
set_option maxRecDepth 100000
set_option maxHeartbeats 40000000
namespace Go.Proofs.YtdeiocppghhfdaaGreat
section
variable {P:Program} {md:Region.Mode} {l:List Oper} {Q:Exit→Act→World→Prop} {S:World→Prop}
theorem aFr {i:Nat} {oi:Oper} {v:Value} {fuel:Nat} {listed:Array Bool} {a:Act} {w:World} (hi:l[i]? = some oi)
  (hs:Region.noSelect l.toArray=true) (hf:Region.free md l.toArray listed i=true) (hr:(Region.ready md l.toArray listed).contains i=true)
  (hw:Region.wanted oi (yielded l.toArray a.tmps)=true) (hv:∀ w,S w→(execOp a.eval oi).run P w = .ok (.value v) w) (hS:S w)
  (h:wpAnyH P md l.toArray (NoPanic Q) S fuel (listed.setIfInBounds i true) (a.put oi.dst v) w):wpAnyH P md l.toArray (NoPanic Q) S (fuel+1) listed a w :=
 wpAnyH_take (by simpa using hi) hs hf hr (fun _ _ _ h=>h) (.inl ⟨hw,hv⟩) hS h
theorem aFs {i:Nat} {oi:Oper} {fuel:Nat} {listed:Array Bool} {a:Act} {w:World} (hi:l[i]? = some oi)
  (hs:Region.noSelect l.toArray=true) (hf:Region.free md l.toArray listed i=true) (hr:(Region.ready md l.toArray listed).contains i=true)
  (hw:Region.wanted oi (yielded l.toArray a.tmps)=false) (hS:S w)
  (h:wpAnyH P md l.toArray (NoPanic Q) S fuel (listed.setIfInBounds i true) (a.put oi.dst undef) w):wpAnyH P md l.toArray (NoPanic Q) S (fuel+1) listed a w :=
 wpAnyH_take (by simpa using hi) hs hf hr (fun _ _ _ h=>h) (.inr ⟨hw,rfl⟩) hS h
theorem aN0 {i:Nat} {o:Oper} {fuel:Nat} {listed:Array Bool} {a:Act} {w:World} (ho:l[i]? = some o) (hr:Region.ready md l.toArray listed=[i])
  (h:∀ K':Act→World→Prop,Shut (∀ a w,S w→(S w→wpAnyH P md l.toArray (NoPanic Q) S fuel (listed.setIfInBounds i true) a w)→K' a w)→if Region.wanted o (yielded l.toArray a.tmps)=true then Oper.wp P o a w K' (NoPanic Q) else K' (a.put o.dst undef) w) :
  wpAnyH P md l.toArray (NoPanic Q) S (fuel+1) listed a w :=
 wpAnyH_ready hr (by simp) (AllReadyH.cons (by simpa using ho) h AllReadyH.nil)
end
end Go.Proofs.YtdeiocppghhfdaaGreat
namespace Go.Proofs.YtdeiocppghhfdaaGreat
theorem nSO:(∀ (a:Act) (d:Tmp) (v:Value),a.put (some d) v={ a with tmps:=a.tmps.setIfInBounds d v })∧(∀ (a:Act) (v:Value),a.put none v=a)∧(∀ (l:List Value) (i:Nat) (v:Value),l.toArray.setIfInBounds i v=(l.set i v).toArray)∧(∀ (x y:Value) (l:List Value),(x::l).set 0 y=y::l)∧(∀ (x y:Value) (l:List Value) (i:Nat),(x::l).set (i+1) y=x::l.set i y) :=
 ⟨fun _ _ _=>rfl,fun _ _=>rfl,fun _ _ _=>List.setIfInBounds_toArray ..,fun _ _ _=>rfl,fun _ _ _ _=>rfl⟩
theorem gAz {α:Type _} {xs:Array α} {i:Nat} {b:α} (h:xs[i]? = some b):∃ h:i<xs.size,xs[i]=b:=Array.getElem?_eq_some_iff.1 h
theorem gLz {α:Type _} {xs:List α} {i:Nat} {b:α} (h:xs[i]? = some b):∃ h:i<xs.length,xs[i]=b:=List.getElem?_eq_some_iff.1 h
theorem gEz {α:Type _} {xs:List α} {i:Nat} (h:i<xs.length):xs[i]? = some xs[i]:=List.getElem?_eq_getElem h
theorem mGz {α:Type _} {xs:List α} {i:Nat} {b:α} (h:xs[i]? = some b):b∈xs:=List.mem_of_getElem? h
section
variable {P:Program} {md:Region.Mode} {l:List Oper} {Q:Exit→Act→World→Prop} {S:World→Prop}
theorem np_s (i:Nat) {oi:Oper} {fuel:Nat} {listed:Array Bool} {a:Act} {w:World}
  (h:wpAnyH P md l.toArray (NoPanic Q) S fuel (listed.setIfInBounds i true) (a.put oi.dst undef) w)
  (hi:l[i]? = some oi:=by rfl) (hw:Region.wanted oi (yielded l.toArray a.tmps)=false:=by rfl) (hr:(Region.ready md l.toArray listed).contains i=true:=by kernel_rfl)
  (hs:Region.noSelect l.toArray=true:=by kernel_rfl) (hf:Region.free md l.toArray listed i=true:=by kernel_rfl)
  (hS:S w:=by assumption):wpAnyH P md l.toArray (NoPanic Q) S (fuel+1) listed a w:=aFs hi hs hf hr hw hS h
theorem aJ {j:Nat} {oi:Oper} {fuel:Nat} {listed:Array Bool} {a:Act} {w:World}
  (h:wpAnyH P md l.toArray (NoPanic Q) S fuel ((listed.setIfInBounds j true).setIfInBounds (j+1) true) (a.put oi.dst undef) w)
  (hi:l[j+1]? = some oi:=by rfl) (hw:Region.wanted oi (yielded l.toArray a.tmps)=false:=by rfl) (hr:(Region.ready md l.toArray (listed.setIfInBounds j true)).contains (j+1)=true:=by kernel_rfl)
  (hs:Region.noSelect l.toArray=true:=by kernel_rfl) (hf:Region.free md l.toArray (listed.setIfInBounds j true) (j+1)=true:=by kernel_rfl)
  (hS:S w:=by assumption):wpAnyH P md l.toArray (NoPanic Q) S (fuel+1) (listed.setIfInBounds j true) a w:=aFs hi hs hf hr hw hS h
theorem aP {id:Nat} {ops:Array Oper} {a:Act} {w:World} (hS:S w.drew) (h:S w.drew→wpAnyH P .any ops (NoPanic Q) S ops.size (Array.replicate ops.size false) a w.drew) (hm:P.follows .mixedOrders=true:=by kernel_rfl):(Code.region id ops true).wp P Q a w :=
 wp_region_noPanic (wp_region_held_drew hm hS h)
theorem np_z {fuel:Nat} {listed:Array Bool} {a:Act} {w:World} (h:Q .normal a w) (hr:Region.ready md l.toArray listed=[]:=by kernel_rfl):wpAnyH P md l.toArray (NoPanic Q) S fuel listed a w:=wpAnyH_done hr (NoPanic.normal h) fuel
theorem np_c (i:Nat) {o:Oper} {fuel:Nat} {listed:Array Bool} {a:Act} {w:World}
  (h:∀ K':Act→World→Prop,Shut (∀ a w,S w→(S w→wpAnyH P md l.toArray (NoPanic Q) S fuel (listed.setIfInBounds i true) a w)→K' a w)→Oper.wp P o a w K' (NoPanic Q))
  (ho:l[i]? = some o:=by rfl) (hr:Region.ready md l.toArray listed=[i]:=by kernel_rfl) (hw:Region.wanted o (yielded l.toArray a.tmps)=true:=by rfl) :
  wpAnyH P md l.toArray (NoPanic Q) S (fuel+1) listed a w:=aN0 ho hr fun K' hK=>by rw[if_pos hw];exact h K' hK
theorem aL (i:Nat) {oi:Oper} {v:Value} {fuel:Nat} {listed:Array Bool} {a:Act} {w:World}
  (h:wpAnyH P md l.toArray (NoPanic Q) S fuel (listed.setIfInBounds i true) (a.put oi.dst v) w)
  (hi:l[i]? = some oi:=by rfl) (hv:∀ w,S w→(execOp a.eval oi).run P w = .ok (.value v) w:=by (intro w hSw;(try dsimp only at hSw);go_simp;all_goals with_reducible rfl)) (hr:(Region.ready md l.toArray listed).contains i=true:=by kernel_rfl)
  (hs:Region.noSelect l.toArray=true:=by kernel_rfl) (hf:Region.free md l.toArray listed i=true:=by kernel_rfl)
  (hw:Region.wanted oi (yielded l.toArray a.tmps)=true:=by rfl) (hS:S w:=by assumption):wpAnyH P md l.toArray (NoPanic Q) S (fuel+1) listed a w:=aFr hi hs hf hr hw hv hS h
theorem np_q {j:Nat} {oi:Oper} {v:Value} {fuel:Nat} {listed:Array Bool} {a:Act} {w:World}
  (h:wpAnyH P md l.toArray (NoPanic Q) S fuel ((listed.setIfInBounds j true).setIfInBounds (j+1) true) (a.put oi.dst v) w)
  (hi:l[j+1]? = some oi:=by rfl) (hv:∀ w,S w→(execOp a.eval oi).run P w = .ok (.value v) w:=by (intro w hSw;(try dsimp only at hSw);go_simp;all_goals with_reducible rfl)) (hr:(Region.ready md l.toArray (listed.setIfInBounds j true)).contains (j+1)=true:=by kernel_rfl)
  (hs:Region.noSelect l.toArray=true:=by kernel_rfl) (hf:Region.free md l.toArray (listed.setIfInBounds j true) (j+1)=true:=by kernel_rfl)
  (hw:Region.wanted oi (yielded l.toArray a.tmps)=true:=by rfl) (hS:S w:=by assumption):wpAnyH P md l.toArray (NoPanic Q) S (fuel+1) (listed.setIfInBounds j true) a w:=aFr hi hs hf hr hw hv hS h
end
end Go.Proofs.YtdeiocppghhfdaaGreat
