/- Texts, one behind another. -/
import Derived.Test.YtdeiocppghhfdaaGreatChecked
import Derived.Deep.RegionHeld3
set_option linter.unusedVariables false
set_option linter.unusedSimpArgs false
set_option maxRecDepth 100000
set_option maxHeartbeats 8000000
namespace Go.Proofs.YtdeiocppghhfdaaGreat
section
variable {P:Program} {md:Region.Mode} {l:List Oper} {Q:Exit→Act→World→Prop} {S:World→Prop}
theorem aIs {i:Nat} {oi:Oper} {v:Value} {fuel:Nat} {listed:Array Bool} {a:Act} {w:World} (hi:l[i]? = some oi)
  (hs:Region.noSelect l.toArray=true) (hf:Region.free md l.toArray listed i=true) (hr:(Region.ready md l.toArray listed).contains i=true)
  (hw:Region.wanted oi (yielded l.toArray a.tmps)=true) (hv:∀ w,S w→(execOp a.eval oi).run P w = .ok (.value v) w) (hS:S w)
  (h:wpAnyH P md l.toArray (NoPanic Q) S fuel (listed.setIfInBounds i true) (a.put oi.dst v) w):wpAnyH P md l.toArray (NoPanic Q) S (fuel+1) listed a w :=
 wpAnyH_take (by simpa using hi) hs hf hr (fun _ _ _ h=>h) (.inl ⟨hw,hv⟩) hS h
theorem aIt {i:Nat} {oi:Oper} {fuel:Nat} {listed:Array Bool} {a:Act} {w:World} (hi:l[i]? = some oi)
  (hs:Region.noSelect l.toArray=true) (hf:Region.free md l.toArray listed i=true) (hr:(Region.ready md l.toArray listed).contains i=true)
  (hw:Region.wanted oi (yielded l.toArray a.tmps)=false) (hS:S w)
  (h:wpAnyH P md l.toArray (NoPanic Q) S fuel (listed.setIfInBounds i true) (a.put oi.dst undef) w):wpAnyH P md l.toArray (NoPanic Q) S (fuel+1) listed a w :=
 wpAnyH_take (by simpa using hi) hs hf hr (fun _ _ _ h=>h) (.inr ⟨hw,rfl⟩) hS h
theorem aD {i:Nat} {o:Oper} {fuel:Nat} {listed:Array Bool} {a:Act} {w:World} (ho:l[i]? = some o) (hr:Region.ready md l.toArray listed=[i])
  (h:∀ K':Act→World→Prop,Shut (∀ a w,S w→(S w→wpAnyH P md l.toArray (NoPanic Q) S fuel (listed.setIfInBounds i true) a w)→K' a w)→if Region.wanted o (yielded l.toArray a.tmps)=true then Oper.wp P o a w K' (NoPanic Q) else K' (a.put o.dst undef) w) :
  wpAnyH P md l.toArray (NoPanic Q) S (fuel+1) listed a w :=
 wpAnyH_ready hr (by simp) (AllReadyH.cons (by simpa using ho) h AllReadyH.nil)
end
end Go.Proofs.YtdeiocppghhfdaaGreat
namespace Go.Proofs.YtdeiocppghhfdaaGreat
theorem nSO:(∀ (a:Act) (d:Tmp) (v:Value),a.put (some d) v={ a with tmps:=a.tmps.setIfInBounds d v })∧(∀ (a:Act) (v:Value),a.put none v=a)∧(∀ (l:List Value) (i:Nat) (v:Value),l.toArray.setIfInBounds i v=(l.set i v).toArray)∧(∀ (x y:Value) (l:List Value),(x::l).set 0 y=y::l)∧(∀ (x y:Value) (l:List Value) (i:Nat),(x::l).set (i+1) y=x::l.set i y) :=
 ⟨fun _ _ _=>rfl,fun _ _=>rfl,fun _ _ _=>List.setIfInBounds_toArray ..,fun _ _ _=>rfl,fun _ _ _ _=>rfl⟩
section
variable {P:Program} {md:Region.Mode} {l:List Oper} {Q:Exit→Act→World→Prop} {S:World→Prop}
theorem np_t (i:Nat) {oi:Oper} (v:Value) {fuel:Nat} {listed:Array Bool} {a:Act} {w:World}
  (hv:∀ w,S w→(execOp a.eval oi).run P w = .ok (.value v) w) (h:wpAnyH P md l.toArray (NoPanic Q) S fuel (listed.setIfInBounds i true) (a.put oi.dst v) w)
  (hi:l[i]? = some oi:=by rfl) (hr:(Region.ready md l.toArray listed).contains i=true:=by kernel_rfl)
  (hs:Region.noSelect l.toArray=true:=by kernel_rfl) (hf:Region.free md l.toArray listed i=true:=by kernel_rfl)
  (hw:Region.wanted oi (yielded l.toArray a.tmps)=true:=by rfl) (hS:S w:=by assumption):wpAnyH P md l.toArray (NoPanic Q) S (fuel+1) listed a w:=aIs hi hs hf hr hw hv hS h
theorem np_s (i:Nat) {oi:Oper} {fuel:Nat} {listed:Array Bool} {a:Act} {w:World}
  (h:wpAnyH P md l.toArray (NoPanic Q) S fuel (listed.setIfInBounds i true) (a.put oi.dst undef) w)
  (hi:l[i]? = some oi:=by rfl) (hw:Region.wanted oi (yielded l.toArray a.tmps)=false:=by rfl) (hr:(Region.ready md l.toArray listed).contains i=true:=by kernel_rfl)
  (hs:Region.noSelect l.toArray=true:=by kernel_rfl) (hf:Region.free md l.toArray listed i=true:=by kernel_rfl)
  (hS:S w:=by assumption):wpAnyH P md l.toArray (NoPanic Q) S (fuel+1) listed a w:=aIt hi hs hf hr hw hS h
theorem np_n {j:Nat} {oi:Oper} (v:Value) {fuel:Nat} {listed:Array Bool} {a:Act} {w:World}
  (hv:∀ w,S w→(execOp a.eval oi).run P w = .ok (.value v) w) (h:wpAnyH P md l.toArray (NoPanic Q) S fuel ((listed.setIfInBounds j true).setIfInBounds (j+1) true) (a.put oi.dst v) w)
  (hi:l[j+1]? = some oi:=by rfl) (hr:(Region.ready md l.toArray (listed.setIfInBounds j true)).contains (j+1)=true:=by kernel_rfl)
  (hs:Region.noSelect l.toArray=true:=by kernel_rfl) (hf:Region.free md l.toArray (listed.setIfInBounds j true) (j+1)=true:=by kernel_rfl)
  (hw:Region.wanted oi (yielded l.toArray a.tmps)=true:=by rfl) (hS:S w:=by assumption):wpAnyH P md l.toArray (NoPanic Q) S (fuel+1) (listed.setIfInBounds j true) a w:=aIs hi hs hf hr hw hv hS h
theorem aL {j:Nat} {oi:Oper} {fuel:Nat} {listed:Array Bool} {a:Act} {w:World}
  (h:wpAnyH P md l.toArray (NoPanic Q) S fuel ((listed.setIfInBounds j true).setIfInBounds (j+1) true) (a.put oi.dst undef) w)
  (hi:l[j+1]? = some oi:=by rfl) (hw:Region.wanted oi (yielded l.toArray a.tmps)=false:=by rfl) (hr:(Region.ready md l.toArray (listed.setIfInBounds j true)).contains (j+1)=true:=by kernel_rfl)
  (hs:Region.noSelect l.toArray=true:=by kernel_rfl) (hf:Region.free md l.toArray (listed.setIfInBounds j true) (j+1)=true:=by kernel_rfl)
  (hS:S w:=by assumption):wpAnyH P md l.toArray (NoPanic Q) S (fuel+1) (listed.setIfInBounds j true) a w:=aIt hi hs hf hr hw hS h
end
end Go.Proofs.YtdeiocppghhfdaaGreat
