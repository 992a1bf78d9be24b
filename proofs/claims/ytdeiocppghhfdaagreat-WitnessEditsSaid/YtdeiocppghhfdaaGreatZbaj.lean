/- Texts, one behind another. -/
import Derived.Test.YtdeiocppghhfdaaGreatZbag
import Derived.Test.YtdeiocppghhfdaaGreatZbai
import Derived.Shelf.SlicesQ.IndexFunc
import Derived.Shelf.SlSorted.Search
set_option linter.unusedVariables false
set_option linter.unusedSimpArgs false
set_option maxRecDepth 100000
set_option maxHeartbeats 8000000
namespace Go.Proofs.YtdeiocppghhfdaaGreat
structure MkV where
 id : Int
 at_ : Int
 grav : Int
deriving DecidableEq, Inhabited
def MkIn (n : Int) (m : MkV) : Prop := 1 ≤ m.id ∧ m.id ≤ 4294967295 ∧ (m.grav = 0 ∨ m.grav = 1) ∧ 0 ≤ m.at_ ∧ m.at_ ≤ n
def MkOK (n : Int) (l : List MkV) : Prop := l.length ≤ 64 ∧ l.Pairwise (fun a b => a.id < b.id) ∧ ∀ m ∈ l, MkIn n m
def idxM (id : Int) (l : List MkV) : Nat := l.countP fun m => decide (m.id < id)
def hasM (id : Int) (l : List MkV) : Bool := l.any fun m => m.id == id
def loM (id : Int) (l : List MkV) : List MkV := l.filter fun m => decide (m.id < id)
def hiM (id : Int) (l : List MkV) : List MkV := l.filter fun m => decide (id < m.id)
def setM (m : MkV) (l : List MkV) : List MkV := loM m.id l ++ m :: hiM m.id l
def dropM (id : Int) (l : List MkV) : List MkV := l.filter fun m => m.id != id
def findM (id : Int) (l : List MkV) : Option MkV := l.find? fun m => m.id == id
theorem idxM_le (id : Int) (l : List MkV) : idxM id l ≤ l.length := List.countP_le_length
theorem sp_take (id : Int) : ∀ {l : List MkV}, l.Pairwise (fun a b => a.id < b.id) → l.take (idxM id l) = loM id l ∧ l.drop (idxM id l) = (if hasM id l then l.filter (fun m => m.id == id) ++ hiM id l else hiM id l) ∧ (l.filter (fun m => m.id == id)).length = if hasM id l then 1 else 0
 | [], _ => by simp [idxM, loM, hiM, hasM]
 | x :: l, h => by
  rw [List.pairwise_cons] at h
  obtain ⟨h1, h2⟩ := h
  have ih := sp_take id h2
  by_cases hx : x.id < id
  ·have e1 : idxM id (x :: l) = idxM id l + 1 := by simp [idxM, hx]
   have e2 : loM id (x :: l) = x :: loM id l := by simp [loM, hx]
   have e3 : hiM id (x :: l) = hiM id l := by simp only [hiM, List.filter_cons]; rw [if_neg (by simp; omega)]
   have e4 : (x.id == id) = false := by simp; omega
   have e5 : hasM id (x :: l) = hasM id l := by simp [hasM, e4]
   rw [e1, e2, e3, e5, List.filter_cons, e4]
   simp only [List.take_succ_cons, List.drop_succ_cons, Bool.false_eq_true, if_false]
   exact ⟨by rw [ih.1], ih.2.1, ih.2.2⟩
  ·have e1 : idxM id (x :: l) = 0 := by
    unfold idxM; rw [List.countP_eq_zero]; intro m hm; rcases List.mem_cons.1 hm with rfl | hm
    ·simpa using hx
    ·have := h1 m hm; simp; omega
   have e2 : loM id (x :: l) = [] := by
    unfold loM; rw [List.filter_eq_nil_iff]; intro m hm; rcases List.mem_cons.1 hm with rfl | hm
    ·simpa using hx
    ·have := h1 m hm; simp; omega
   have e3 : hiM id l = l := by unfold hiM; rw [List.filter_eq_self]; intro m hm; have := h1 m hm; simp; omega
   have e6 : l.filter (fun m => m.id == id) = [] := by rw [List.filter_eq_nil_iff]; intro m hm; have := h1 m hm; simp; omega
   have e7 : hasM id l = false := by unfold hasM; rw [List.any_eq_false]; intro m hm; have := h1 m hm; simp; omega
   rw [e1, e2]
   refine ⟨rfl, ?_, ?_⟩
   ·by_cases he : x.id = id
    ·have : hasM id (x :: l) = true := by simp [hasM, he]
     rw [this, if_pos rfl, List.filter_cons, if_pos (by simpa using he), e6]
     have : hiM id (x :: l) = l := by rw [hiM, List.filter_cons, if_neg (by simp; omega)]; exact e3
     rw [this]; rfl
    ·have : hasM id (x :: l) = false := by unfold hasM; rw [List.any_cons]; have : hasM id l = false := e7; unfold hasM at this; rw [this]; simpa using he
     rw [this, if_neg (by simp)]
     have : hiM id (x :: l) = x :: l := by rw [hiM, List.filter_cons, if_pos (by simp; omega)]; exact congrArg _ e3
     rw [this]; rfl
   ·by_cases he : x.id = id
    ·have : hasM id (x :: l) = true := by simp [hasM, he]
     rw [this, if_pos rfl, List.filter_cons, if_pos (by simpa using he), e6]; rfl
    ·have : hasM id (x :: l) = false := by unfold hasM; rw [List.any_cons]; have : hasM id l = false := e7; unfold hasM at this; rw [this]; simpa using he
     rw [this, List.filter_cons, if_neg (by simpa using he), e6]; rfl
theorem sp_is {id : Int} {l : List MkV} (h : l.Pairwise (fun a b => a.id < b.id)) (hs : hasM id l = true) : ∃ m, l[idxM id l]? = some m ∧ m.id = id ∧ l.drop (idxM id l + 1) = hiM id l ∧ findM id l = some m ∧ m ∈ l := by
 obtain ⟨h1, h2, h3⟩ := sp_take id h
 rw [hs, if_pos rfl] at h2 h3
 obtain ⟨m, hm⟩ := List.length_eq_one_iff.1 h3
 have hmem : m ∈ l.filter (fun m => m.id == id) := by rw [hm]; simp
 have hid : m.id = id := by have := (List.mem_filter.1 hmem).2; simpa using this
 refine ⟨m, ?_, hid, ?_, ?_, (List.mem_filter.1 hmem).1⟩
 ·have : (l.drop (idxM id l))[0]? = some m := by rw [h2, hm]; rfl
  rwa [List.getElem?_drop, Nat.add_zero] at this
 ·have : (l.drop (idxM id l)).drop 1 = hiM id l := by rw [h2, hm]; rfl
  rwa [List.drop_drop] at this
 ·unfold findM; rw [← List.head?_filter, hm]; rfl
theorem sp_no {id : Int} {l : List MkV} (h : l.Pairwise (fun a b => a.id < b.id)) (hs : hasM id l = false) : l.drop (idxM id l) = hiM id l ∧ (∀ m, l[idxM id l]? = some m → m.id ≠ id) ∧ findM id l = none ∧ dropM id l = l := by
 obtain ⟨h1, h2, h3⟩ := sp_take id h
 rw [hs] at h2
 have hall : ∀ m ∈ l, (m.id == id) = false := fun m hm => by unfold hasM at hs; rw [List.any_eq_false] at hs; simpa using hs m hm
 refine ⟨by simpa using h2, ?_, ?_, ?_⟩
 ·intro m hm he
  have := hall m (List.mem_of_getElem? hm)
  simp [he] at this
 ·unfold findM; rw [List.find?_eq_none]; intro m hm; rw [hall m hm]; simp
 ·unfold dropM; rw [List.filter_eq_self]; intro m hm; simp [bne, hall m hm]
theorem drop_eq {id : Int} {l : List MkV} (h : l.Pairwise (fun a b => a.id < b.id)) : dropM id l = loM id l ++ hiM id l := by
 obtain ⟨h1, h2, h3⟩ := sp_take id h
 have : l = loM id l ++ l.drop (idxM id l) := by rw [← h1]; exact (List.take_append_drop _ _).symm
 have hf : dropM id l = dropM id (loM id l ++ l.drop (idxM id l)) := by rw [← this]
 rw [hf]
 have a1 : dropM id (loM id l) = loM id l := by unfold dropM; rw [List.filter_eq_self]; intro m hm; have := (List.mem_filter.1 hm).2; simp at this; simp; omega
 have a2 : dropM id (hiM id l) = hiM id l := by unfold dropM; rw [List.filter_eq_self]; intro m hm; have := (List.mem_filter.1 hm).2; simp at this; simp; omega
 have hap : ∀ a b, dropM id (a ++ b) = dropM id a ++ dropM id b := fun a b => by unfold dropM; rw [List.filter_append]
 rw [hap, a1, h2]
 split
 ·rw [hap, a2]
  have : dropM id (l.filter fun m => m.id == id) = [] := by unfold dropM; rw [List.filter_eq_nil_iff]; intro m hm; have := (List.mem_filter.1 hm).2; simpa using this
  rw [this]; rfl
 ·rw [a2]
theorem setM_pw {m : MkV} {l : List MkV} (h : l.Pairwise (fun a b => a.id < b.id)) : (setM m l).Pairwise (fun a b => a.id < b.id) := by
 unfold setM
 rw [List.pairwise_append]
 refine ⟨h.filter _, ?_, ?_⟩
 ·rw [List.pairwise_cons]
  exact ⟨fun x hx => by have := (List.mem_filter.1 hx).2; simpa using this, h.filter _⟩
 ·intro a ha b hb
  have := (List.mem_filter.1 ha).2
  simp at this
  rcases List.mem_cons.1 hb with rfl | hb
  ·exact this
  ·have := (List.mem_filter.1 hb).2; simp at this; omega
theorem setM_len {m : MkV} {l : List MkV} (h : l.Pairwise (fun a b => a.id < b.id)) : (setM m l).length = if hasM m.id l then l.length else l.length + 1 := by
 obtain ⟨h1, h2, h3⟩ := sp_take m.id h
 have e : l.length = (loM m.id l).length + (l.drop (idxM m.id l)).length := by rw [← h1, ← List.length_append, List.take_append_drop]
 unfold setM
 rw [List.length_append, List.length_cons]
 rw [h2] at e
 cases hs : hasM m.id l <;> rw [hs] at e h3 <;> simp at e h3 ⊢ <;> omega
theorem setM_ok {n : Int} {m : MkV} {l : List MkV} (h : MkOK n l) (hm : MkIn n m) (hl : hasM m.id l = true ∨ l.length < 64) : MkOK n (setM m l) := by
 refine ⟨?_, setM_pw h.2.1, ?_⟩
 ·rw [setM_len h.2.1]; have := h.1; split
  ·exact this
  ·rcases hl with hl | hl
   ·simp_all
   ·omega
 ·intro x hx
  rcases List.mem_append.1 hx with hx | hx
  ·exact h.2.2 x (List.mem_filter.1 hx).1
  ·rcases List.mem_cons.1 hx with rfl | hx
   ·exact hm
   ·exact h.2.2 x (List.mem_filter.1 hx).1
theorem dropM_ok {n id : Int} {l : List MkV} (h : MkOK n l) : MkOK n (dropM id l) :=
 ⟨Nat.le_trans (List.length_filter_le _ _) h.1, h.2.1.filter _, fun x hx => h.2.2 x (List.mem_filter.1 hx).1⟩
def leftF (p : Int) : List PcV → Int → Int → Int → Int
 | [], _, _, r => r
 | c :: d, a, t, r => if c.kind = 2 then leftF p d a (t + c.text.size) r else if c.kind = 3 then leftF p d (a + c.n) t r else if p ≤ a then r else leftF p d (a + c.n) (t + c.n) (t + min c.n (p - a))
def rightF (p : Int) : List PcV → Int → Int → Int → Int
 | [], _, _, e => e
 | c :: d, a, t, e => if c.kind = 2 then rightF p d a (t + c.text.size) e else if c.kind = 3 then rightF p d (a + c.n) t e else if p < a + c.n then t + max 0 (p - a) else rightF p d (a + c.n) (t + c.n) e
def posS (d : List PcV) (p g : Int) : Int := if g = 0 then leftF p d 0 0 0 else rightF p d 0 0 (lenS d).2.1
def shiftM (d : List PcV) (l : List MkV) : List MkV := l.map fun m => { m with at_ := posS d m.at_ m.grav }
end Go.Proofs.YtdeiocppghhfdaaGreat
namespace Go.Proofs.YtdeiocppghhfdaaGreat
open Go.RowKit Go.Lib Go.Shelf
def mkL (m : MkV) : List Value := [.int .u32 m.id, .int .i64 m.at_, .int .u8 m.grav]
def mksL (l : List MkV) : List Value := l.flatMap mkL
theorem mkL_len (m : MkV) : (mkL m).length = 3 := rfl
theorem mksL_len (l : List MkV) : (mksL l).length = l.length * 3 := by
 induction l with
 | nil => rfl
 | cons p ps ih => show (mkL p ++ mksL ps).length = _; rw [List.length_append, ih, mkL_len, List.length_cons]; omega
theorem mksL_app (a b : List MkV) : mksL (a ++ b) = mksL a ++ mksL b := by unfold mksL; simp
theorem mksL_one (m : MkV) : mksL [m] = mkL m := by unfold mksL; simp
theorem mksL_take (l : List MkV) (k : Nat) (hk : k ≤ l.length) : (mksL l).take (k * 3) = mksL (l.take k) := by
 have e : mksL l = mksL (l.take k) ++ mksL (l.drop k) := by rw [← mksL_app, List.take_append_drop]
 rw [e, List.take_left' (by rw [mksL_len, List.length_take, Nat.min_eq_left hk])]
theorem mksL_drop (l : List MkV) (k : Nat) (hk : k ≤ l.length) : (mksL l).drop (k * 3) = mksL (l.drop k) := by
 have e : mksL l = mksL (l.take k) ++ mksL (l.drop k) := by rw [← mksL_app, List.take_append_drop]
 rw [e, List.drop_left' (by rw [mksL_len, List.length_take, Nat.min_eq_left hk])]
theorem mksL_get (l : List MkV) : ∀ (k i : Nat), i < 3 → (mksL l)[k * 3 + i]? = (l[k]?).bind fun p => (mkL p)[i]? := by
 induction l with
 | nil => intro k i _; simp [mksL]
 | cons p ps ih =>
  intro k i hi
  show (mkL p ++ mksL ps)[k * 3 + i]? = _
  cases k with
  | zero => rw [List.getElem?_append_left (by rw [mkL_len]; omega)]; simp
  | succ k => rw [List.getElem?_append_right (by rw [mkL_len]; omega), mkL_len, show (k + 1) * 3 + i - 3 = k * 3 + i by omega, ih k i hi]; simp
theorem mkL_ones (m : MkV) : ∀ u ∈ mkL m, u.oneCell' = true := by
 intro u hu
 unfold mkL at hu
 simp only [List.mem_cons, List.not_mem_nil, or_false] at hu
 rcases hu with rfl | rfl | rfl <;> rfl
theorem mksL_ones (l : List MkV) : ∀ u ∈ mksL l, u.oneCell' = true := by
 intro u hu
 obtain ⟨m, _, h⟩ := List.mem_flatMap.1 hu
 exact mkL_ones m u h
theorem infoMk : (Tryz.prog.info? 74).map (fun i => (i.zero, i.size, i.bytes)) = some (some (.agg #[.int .u32 0, .int .i64 0, .int .u8 0]), 3, 24) := by kernel_rfl
def MRow (W : World) (a : Option Addr) (l : List MkV) : Prop := (a = none ∧ l = []) ∨ ∃ b off, a = some ⟨b, off, none⟩ ∧ b < W.heap.size ∧ ∀ (k : Nat) (p : MkV), l[k]? = some p → ∀ (i : Nat) (u : Value), (mkL p)[i]? = some u → W.cell? ⟨b, off + (k * 3 + i), none⟩ = some u
theorem MRow.on {W W' : World} {a : Option Addr} {l : List MkV} (h : MRow W a l) (hb : Below W.heap.size W W') : MRow W' a l := by
 rcases h with h | ⟨b, off, h1, h2, h3⟩
 ·exact .inl h
 ·exact .inr ⟨b, off, h1, Nat.lt_of_lt_of_le h2 hb.size, fun k p hp i u hu => by rw [hb.cell (p := ⟨b, off + (k * 3 + i), none⟩) h2]; exact h3 k p hp i u hu⟩
abbrev MOwn (W : World) (B : Nat) (v : Value) (l : List MkV) : Prop := W.ownsRow B 74 3 v l.length (mksL l)
theorem mrow_own {w : World} {B n : Nat} {ao : Option Addr} {cp : Nat} {d : List MkV} (hn : n = d.length) (h : w.ownsRow B 74 3 (.slice ao n cp) n (mksL d)) : MRow w ao d ∧ n ≤ cp := by
 rcases h.2 with ⟨h1, h2⟩ | ⟨g, cap, cur, h1, hB, hg, h2, h3, h4, h5⟩
 ·injection h1 with h1 h6 h7
  subst h1
  refine ⟨.inl ⟨rfl, List.eq_nil_of_length_eq_zero (by omega)⟩, by omega⟩
 ·injection h1 with h1 h6 h7
  subst h1; subst h7
  refine ⟨.inr ⟨g, 0, rfl, (Array.getElem?_eq_some_iff.1 hg).1, fun k p hk i u hu => ?_⟩, h2⟩
  have hi : i < 3 := by have := (List.getElem?_eq_some_iff.1 hu).1; rwa [mkL_len] at this
  have h6 := mksL_get d k i hi
  rw [hk] at h6
  have h7 : (mksL d)[k * 3 + i]? = some u := h6.trans hu
  have hlt := (List.getElem?_eq_some_iff.1 h7).1
  rw [← h5, List.getElem?_take] at h7
  rw [← h5, List.length_take] at hlt
  rw [if_pos (by omega)] at h7
  simp only [World.cell?, hg, Nat.zero_add]
  simpa using h7
theorem MkOK.get {n : Int} {l : List MkV} (h : MkOK n l) {k : Nat} {m : MkV} (hm : l[k]? = some m) : MkIn n m ∧ (∀ q, (l.take k).getLast? = some q → q.id < m.id) := by
 refine ⟨h.2.2 m (List.mem_of_getElem? hm), fun q hq => ?_⟩
 rw [List.getLast?_eq_getElem?, List.getElem?_take] at hq
 split at hq
 ·rename_i hlt
  obtain ⟨h1, h2⟩ := List.getElem?_eq_some_iff.1 hm
  obtain ⟨h3, h4⟩ := List.getElem?_eq_some_iff.1 hq
  have hlen : (l.take k).length = k := by rw [List.length_take]; omega
  have := (List.pairwise_iff_getElem.1 h.2.1) _ _ h3 h1 (by omega)
  rw [h4, h2] at this
  exact this
 ·cases hq
def lastId (l : List MkV) : Int := (l.getLast?.map (·.id)).getD 0
theorem lastId_lt {n : Int} {l : List MkV} (h : MkOK n l) {k : Nat} {m : MkV} (hm : l[k]? = some m) : lastId (l.take k) < m.id := by
 obtain ⟨h1, h2⟩ := h.get hm
 unfold lastId
 cases hq : (l.take k).getLast? with
 | none => simp; unfold MkIn at h1; omega
 | some q => simpa using h2 q hq
theorem lastId_take {l : List MkV} {k : Nat} {m : MkV} (hm : l[k]? = some m) : lastId (l.take (k + 1)) = m.id := by
 unfold lastId
 rw [List.take_add_one, hm]
 simp
theorem mcheck_any (a : Option Addr) (c : Nat) (n : Int) (l : List MkV) (w : World) (hr : MRow w a l) (hok : MkOK n l) (hn : 0 ≤ n) :
  Calls Tryz.prog 241 #[.int .i64 n, .slice a l.length c] w fun e w' => e = .returned (.int .i64 0) ∧ Below w.heap.size w w' := by
 have h64 := hok.1
 have d0 : decide (n < 0) = false := by simp; omega
 have d1 : decide ((64 : Int) < (l.length : Int)) = false := by simp; omega
 have HR := Lib.hid hr; have HO := Lib.hid hok; clear hr hok
 go_enter Tryz.func241, Tryz.ntmps241
 go_wp2
 go_loopw [5, 7, 15, 16, 17, 18, 19, 20, 21, 22, 23, 24, 25, 26, 27, 28, 29, 30, 31, 32, 33, 34, 35, 36, 37, 38, 39, 40, 41, 42, 43, 44] (fun last x7 i x16 x17 x18 x19 x20 x21 x22 x23 x24 x25 x26 x27 x28 x29 x30 x31 x32 x33 x34 x35 x36 x37 x38 x39 x40 x41 x42 x43 x44 wr => ∃ k : Nat, i = .int .i64 k ∧ k ≤ l.length ∧ last = .int .u32 (lastId (l.take k)) ∧ Below w.heap.size w wr) (fun last x7 i x16 x17 x18 x19 x20 x21 x22 x23 x24 x25 x26 x27 x28 x29 x30 x31 x32 x33 x34 x35 x36 x37 x38 x39 x40 x41 x42 x43 x44 wr => l.length - (intOf i).toNat)
 case atStart => exact ⟨0, rfl, by omega, rfl, Below.refl _ _⟩
 case round =>
  obtain ⟨k, rfl, hk, rfl, hB⟩ := hrel
  by_cases hlt : k < l.length
  ·have hp : l[k]? = some l[k] := List.getElem?_eq_getElem hlt
   generalize l[k] = m at hp
   have h1 := lastId_lt HO.out hp
   obtain ⟨hin, _⟩ := HO.out.get hp
   obtain ⟨i1, i2, i3, i4, i5⟩ := hin
   have hst := lastId_take hp
   have Hst := Lib.hid hst; clear hst
   generalize lastId (l.take k) = lid at *
   rcases HR.out with ⟨_, h⟩ | ⟨b, off, rfl, hb, hcell⟩
   ·rw [h] at hlt; simp at hlt
   have c0 : wr.cell? ⟨b, off + (k * 3 + 0), none⟩ = some (.int .u32 m.id) := by rw [hB.cell (p := ⟨b, off + (k * 3 + 0), none⟩) hb]; exact hcell k m hp 0 _ rfl
   have c1 : wr.cell? ⟨b, off + (k * 3 + 1), none⟩ = some (.int .i64 m.at_) := by rw [hB.cell (p := ⟨b, off + (k * 3 + 1), none⟩) hb]; exact hcell k m hp 1 _ rfl
   have c2 : wr.cell? ⟨b, off + (k * 3 + 2), none⟩ = some (.int .u8 m.grav) := by rw [hB.cell (p := ⟨b, off + (k * 3 + 2), none⟩) hb]; exact hcell k m hp 2 _ rfl
   simp only [Nat.add_zero, ← Nat.add_assoc] at c0 c1 c2
   clear hcell
   have d2 : decide (m.id ≤ lid) = false := by simp; omega
   have d3 : decide (m.at_ < 0) = false := by simp; omega
   have d4 : decide (n < m.at_) = false := by simp; omega
   have hBp := hB.alloc hB.size (.cells (mkL m).toArray 74)
   unfold mkL at hBp
   have hg : (m.grav == 0) = true ∨ ((m.grav == 0) = false ∧ (m.grav == 1) = true) := by rcases i3 with h | h <;> simp [h]
   rcases hg with hg | ⟨hg, hg1⟩
   ·have hg0 : m.grav = 0 := by simpa using hg
    rw [hg0] at c2 hBp
    clear hg hp i1 i2 i3 i4 i5 h1 hg0
    go_wp2
    go_roundw
    case rel => exact ⟨k + 1, by go_num, by omega, by rw [Hst.out], hBp⟩
    case measure => simp [intOf]; omega
   ·have hg0 : m.grav = 1 := by simpa using hg1
    rw [hg0] at c2 hBp
    clear hg hg1 hp i1 i2 i3 i4 i5 h1 hg0
    go_wp2
    go_roundw
    case rel => exact ⟨k + 1, by go_num, by omega, by rw [Hst.out], hBp⟩
    case measure => simp [intOf]; omega
  ·go_wp2
   go_returns
   exact ⟨rfl, hB⟩
theorem place1_any (ba bx b off c : Nat) (l : List MkV) (id : Int) (i : Nat) (W : World) (hi : i < l.length)
  (ha : W.cell? ⟨ba, 0, none⟩ = some (.slice (some ⟨b, off, none⟩) l.length c)) (hx : W.cell? ⟨bx, 0, none⟩ = some (.int .u32 id)) (m : MkV) (hm : W.cell? ⟨b, off + i * 3, none⟩ = some (.int .u32 m.id)) :
  Calls Tryz.prog 280 #[.int .i64 i, .pointer (some ⟨ba, 0, none⟩), .pointer (some ⟨bx, 0, none⟩)] W fun e w' => e = .returned (.bool (decide (id ≤ m.id))) ∧ ∃ q, w' = W.drewN q := by
 have hiz : (i : Int) < (l.length : Int) := by omega
 go_enter Tryz.func280, Tryz.ntmps280
 go_wp2
 go_region
 all_goals go_wp2
 all_goals (go_returns; exact ⟨rfl, ⟨1, rfl⟩⟩)
theorem grow_nil' (W : World) : Sort.grow W #[] = W := by cases W; simp [Sort.grow]
theorem idx_count (l : List MkV) (id : Int) : (List.range l.length).countP (fun i => !decide (id ≤ (l.getD i default).id)) = idxM id l := by
 have h : l = (List.range l.length).map (fun i => l.getD i default) := by
  apply List.ext_getElem
  ·simp
  ·intro i h1 h2
   simp [List.getD, List.getElem?_eq_getElem h1]
 unfold idxM
 conv => rhs; rw [h]
 rw [List.countP_map]
 congr 1
 funext i
 simp [Function.comp]
 by_cases hd : id ≤ (l[i]?.getD default).id
 ·simp [hd]
 ·simp [hd]; omega
theorem place_any (a : Option Addr) (c : Nat) (l : List MkV) (id : Int) (w : World) (hr : MRow w a l) (hpw : l.Pairwise (fun a b => a.id < b.id)) (hs : l.length ≤ 1000) (hc : l.length ≤ c) :
  Calls Tryz.prog 242 #[.slice a l.length c, .int .u32 id] w fun e w' => e = .returned (.tuple #[.int .i64 (idxM id l), .bool (hasM id l)]) ∧ Below w.heap.size w w' := by
 obtain ⟨W0, hW0⟩ : ∃ W0, W0 = (w.alloc (.cells #[.slice a l.length c] 65)).alloc (.cells #[.int .u32 id] 52) := ⟨_, rfl⟩
 have hB0 : Below w.heap.size w W0 := by rw [hW0]; exact ((Below.refl _ w).alloc (Nat.le_refl _) _).alloc (by simp) _
 have ca : W0.heap[w.heap.size]? = some (.cells #[.slice a l.length c] 65 (0, 0)) := by rw [hW0]; exact (heap_alloc_old _ _ (by simp)).trans (heap_alloc_new w _)
 have cx : W0.heap[w.heap.size + 1]? = some (.cells #[.int .u32 id] 52 (0, 0)) := by rw [hW0]; have := heap_alloc_new (w.alloc (.cells #[.slice a l.length c] 65)) (.cells #[.int .u32 id] 52); rwa [World.size_alloc] at this
 have hsz : W0.heap.size = w.heap.size + 1 + 1 := by rw [hW0]; simp
 have hr0 := hr.on hB0
 have eg : ∀ args w, (callFunc 280 args).run Tryz.prog w = .ok (.enter 280 args) w := enters_of Tryz.func280 (by kernel_rfl) rfl
 have hS : Calls Tryz.prog 279 #[.int .i64 l.length, .func (.func 280) #[] #[.pointer (some ⟨w.heap.size, 0, none⟩), .pointer (some ⟨w.heap.size + 1, 0, none⟩)]] W0 fun e w' => e = .returned (.int .i64 (idxM id l)) ∧ ∃ q os, w' = Sort.grow (W0.drewN q) os := by
  have h := Any.sort_Search (P := Tryz.prog) Tryz.searchL 280 #[.pointer (some ⟨w.heap.size, 0, none⟩), .pointer (some ⟨w.heap.size + 1, 0, none⟩)] l.length (fun i => decide (id ≤ (l.getD i default).id)) W0 eg (by omega) ?_ ?_
  ·rw [idx_count] at h; exact h
  ·intro mm os i hi
   have hbel : Below W0.heap.size W0 (Sort.grow (W0.drewN mm) os) := below_grown_sl _ _ _ _ (Nat.le_refl _)
   rcases hr0.on hbel with ⟨_, h⟩ | ⟨b, off, h1, h2, h3⟩
   ·rw [h] at hi; simp at hi
   ·subst h1
    have hm : l[i]? = some (l.getD i default) := by simp [List.getD, List.getElem?_eq_getElem hi]
    refine (place1_any w.heap.size (w.heap.size + 1) b off c l id i _ hi ?_ ?_ (l.getD i default) (h3 i _ hm 0 _ rfl)).mono ?_
    ·exact (box1 ((hbel.block _ (by omega)).trans ca)).1
    ·exact (box1 ((hbel.block _ (by omega)).trans cx)).1
    ·rintro e w' ⟨rfl, q, rfl⟩
     exact ⟨rfl, q, #[], (grow_nil' _).symm⟩
  ·intro i j hij hj hp
   simp only [decide_eq_true_eq] at hp ⊢
   by_cases h : i = j
   ·subst h; exact hp
   ·have := (List.pairwise_iff_getElem.1 hpw) i j (by omega) hj (by omega)
    simp [List.getD, List.getElem?_eq_getElem hj, List.getElem?_eq_getElem (show i < l.length by omega)] at hp ⊢
    omega
 have hil := idxM_le id l
 have hbS : ∀ q os, Below W0.heap.size W0 (Sort.grow (W0.drewN q) os) := fun q os => below_grown_sl _ _ _ _ (Nat.le_refl _)
 by_cases hlt : idxM id l < l.length
 ·have hm : l[idxM id l]? = some l[idxM id l] := List.getElem?_eq_getElem hlt
  have hres : (l[idxM id l].id == id) = hasM id l := by
   cases hs : hasM id l with
   | true => obtain ⟨m, h1, h2, _⟩ := sp_is hpw hs; rw [h1] at hm; injection hm with hm; rw [← hm]; simpa using h2
   | false => have := (sp_no hpw hs).2.1 _ hm; simpa using this
  generalize l[idxM id l] = m at hm hres
  have d1 : decide ((idxM id l : Int) < (l.length : Int)) = true := by simp; omega
  clear hpw
  generalize hasM id l = res at *
  generalize idxM id l = ix at *
  rcases hr0 with ⟨_, h⟩ | ⟨b, off, rfl, hb, hcell⟩
  ·rw [h] at hlt; simp at hlt
  have cc : ∀ q os, (Sort.grow (W0.drewN q) os).cell? ⟨b, off + ix * 3, none⟩ = some (.int .u32 m.id) := fun q os => by
   rw [(hbS q os).cell (p := ⟨b, off + ix * 3, none⟩) hb]
   exact hcell ix m hm 0 _ rfl
  subst hW0
  go_enter Tryz.func242, Tryz.ntmps242
  go_wp2_with (go_at_call 279; refine hS.mono ?_; rintro e w1 ⟨rfl, q, os, rfl⟩; have c1 := cc q os; have k1 := (box1 (((hbS q os).block _ (by omega)).trans ca)).1; have k2 := (box1 (((hbS q os).block _ (by omega)).trans cx)).1; have hbx := hbS q os; generalize Sort.grow _ os = w1 at *)
  go_region
  all_goals go_wp2
  all_goals (go_returns; refine ⟨rfl, ?_⟩; exact hB0.trans (hbx.drew.mono (by simp; omega)))
 ·have d1 : decide ((idxM id l : Int) < (l.length : Int)) = false := by simp; omega
  have hres : hasM id l = false := by
   cases hs : hasM id l with
   | true => obtain ⟨m, h1, _⟩ := sp_is hpw hs; have := (List.getElem?_eq_some_iff.1 h1).1; omega
   | false => rfl
  clear hpw
  rw [hres]
  generalize idxM id l = ix at *
  subst hW0
  go_enter Tryz.func242, Tryz.ntmps242
  go_wp2_with (go_at_call 279; refine hS.mono ?_; rintro e w1 ⟨rfl, q, os, rfl⟩; have k1 := (box1 (((hbS q os).block _ (by omega)).trans ca)).1; have k2 := (box1 (((hbS q os).block _ (by omega)).trans cx)).1; have hbx := hbS q os; generalize Sort.grow _ os = w1 at *)
  go_region
  all_goals go_wp2
  all_goals (go_returns; refine ⟨rfl, ?_⟩; exact hB0.trans (hbx.drew.mono (by simp; omega)))
theorem find1_any (bx : Nat) (id : Int) (m : MkV) (W : World) (hx : W.cell? ⟨bx, 0, none⟩ = some (.int .u32 id)) (hb : bx < W.heap.size) :
  Calls Tryz.prog 252 #[.agg #[.int .u32 m.id, .int .i64 m.at_, .int .u8 m.grav], .pointer (some ⟨bx, 0, none⟩)] W fun e w' => e = .returned (.bool (m.id == id)) ∧ Below W.heap.size W w' := by
 have hc := fun o => Lib.cell?_alloc_some (W := W) o hx
 have hb2 := fun o => (Below.refl W.heap.size W).alloc (Nat.le_refl _) o
 go_enter Tryz.func252, Tryz.ntmps252
 go_wp2
 try go_region
 all_goals go_wp2
 all_goals (go_returns; exact ⟨rfl, by first | exact hb2 _ | exact (hb2 _).drew⟩)
end Go.Proofs.YtdeiocppghhfdaaGreat
