/- Texts, one behind another. -/
import Derived.Test.YtdeiocppghhfdaaGreatZbha
import Derived.RangeFuncNested
import Derived.RangeFuncBound
import Derived.RangeFuncCalls
import Derived.RangeFuncLeaves
import Derived.RangeFuncFrom
import Derived.Shelf.Abstract
import Derived.Shelf.RegionOpen
import Derived.OwnWalkIn
import Derived.TacticsInMore
import Derived.LoopNIn
import Derived.LoopIn
set_option linter.unusedVariables false
set_option linter.unusedSimpArgs false
set_option maxRecDepth 100000
set_option maxHeartbeats 8000000
namespace Go.Proofs.YtdeiocppghhfdaaGreat.Hs
open Go.RowKit Go.Shelf
attribute [local go_sem] Oper.semAt_some
attribute [local go_sem, local simp] callL_0 callL_1 callL_2 callL_3 callL_4 callL_5 callL_6 callL_7 callL_8 callL_9 callL_10 callL_11 callL_12 callL_13 callL_14 callL_15 callL_16 callL_17 callL_18 callL_19 callL_20 callL_21 callL_22 callL_23 callL_24 callL_25 callL_26 resL_0 resL_1 resL_2 resL_3 resL_4 resL_5 resL_6 resL_7 resL_8 resL_9 resL_10 resL_11 resL_12 callG_0 callG_1 callG_2 callG_3 callG_4 callG_5 callG_6 callG_7 callG_8 callG_9 callG_10 callG_11 callG_12 callG_13 callG_14 callG_15 callG_16 callG_17 callG_18 callG_19 callG_20 callG_21 callG_22 callG_23 callG_24 callG_25 callG_26 resG_0 resG_1 resG_2 resG_3 resG_4 resG_5 resG_6 resG_7 resG_8 resG_9 resG_10 resG_11 resG_12 callL_len resL_len
attribute [local go_sem ↓] loadCall_eq loadRes_eq
attribute [local go_sem] ld_new ld_first ld_second ldr_new st_new
def callsL (cs : List CallV) : List Value := cs.flatMap callL
theorem callsL_cons (c : CallV) (cs : List CallV) : callsL (c :: cs) = callL c ++ callsL cs := rfl
theorem callsL_len (cs : List CallV) : (callsL cs).length = cs.length * 27 := by
 induction cs with
 | nil => rfl
 | cons c cs ih => rw [callsL_cons, List.length_append, ih, callL_len, List.length_cons]; omega
theorem callsL_get : ∀ (cs : List CallV) (k j : Nat) (c : CallV), cs[k]? = some c → j < 27 → (callsL cs)[k * 27 + j]? = (callL c)[j]?
 | [], k, j, c, h, _ => by simp at h
 | a :: cs, 0, j, c, h, hj => by
  simp at h
  subst h
  rw [callsL_cons, List.getElem?_append_left (by rw [callL_len]; omega)]
  congr 1; omega
 | a :: cs, k + 1, j, c, h, hj => by
  rw [callsL_cons, List.getElem?_append_right (by rw [callL_len]; omega), callL_len, show (k + 1) * 27 + j - 27 = k * 27 + j from by omega]
  exact callsL_get cs k j c (by simpa using h) hj
theorem cell_size {w : World} {a : Addr} {v : Value} (h : w.cell? a = some v) : a.block < w.heap.size := by
 rcases Nat.lt_or_ge a.block w.heap.size with h' | h'
 ·exact h'
 ·simp [World.cell?, Array.getElem?_eq_none h'] at h
def CAt (w : World) (b off : Nat) (cs : List CallV) : Prop := ∀ j u, (callsL cs)[j]? = some u → w.cell? ⟨b, off + j, none⟩ = some u
theorem CAt.on {w w' : World} {b off : Nat} {cs : List CallV} (h : CAt w b off cs) (hb : Below w.heap.size w w') : CAt w' b off cs := fun j u hj => by
 rw [hb.cell (cell_size (h j u hj))]; exact h j u hj
theorem CAt.below {w w' : World} {b off B : Nat} {cs : List CallV} (h : CAt w b off cs) (hb : Below B w w') (hB : b < B) : CAt w' b off cs := fun j u hj => by
 rw [hb.cell (p := ⟨b, off + j, none⟩) hB]; exact h j u hj
theorem CAt.cell {w : World} {b off : Nat} {cs : List CallV} (h : CAt w b off cs) {k : Nat} {c : CallV} (hk : cs[k]? = some c) (j : Nat) (hj : j < 27) : w.cell? ⟨b, off + k * 27 + j, none⟩ = (callL c)[j]? := by
 have h1 := callsL_get cs k j c hk hj
 obtain ⟨u, hu⟩ : ∃ u, (callL c)[j]? = some u := ⟨_, List.getElem?_eq_getElem (by rw [callL_len]; omega)⟩
 rw [hu] at h1 ⊢
 rw [Nat.add_assoc]
 exact h _ _ h1
theorem CAt.load {w : World} {b off : Nat} {cs : List CallV} (h : CAt w b off cs) {k : Nat} {c : CallV} (hk : cs[k]? = some c) : (loadCall (.pointer (some ⟨b, off + k * 27, none⟩))).run Tryz.prog w = .ok (.agg (callL c).toArray) w :=
 run_loadAt_mid w b (off + k * 27) 56 (callL c) _ (fun j v hv => by
  rw [h.cell hk j (by have := (List.getElem?_eq_some_iff.1 hv).1; rwa [callL_len] at this)]
  exact hv) Tryz.underlying56 rfl (by kernel_rfl)
theorem CAt.size {w : World} {b off : Nat} {cs : List CallV} (h : CAt w b off cs) (hn : 0 < cs.length) : b < w.heap.size := by
 obtain ⟨u, hu⟩ : ∃ u, (callsL cs)[0]? = some u := ⟨_, List.getElem?_eq_getElem (by rw [callsL_len]; omega)⟩
 exact cell_size (h 0 u hu)
theorem CAt.take {w : World} {b off : Nat} {cs : List CallV} (h : CAt w b off cs) (n : Nat) : CAt w b off (cs.take n) := fun j u hj => by
 refine h j u ?_
 have e : callsL cs = callsL (cs.take n) ++ callsL (cs.drop n) := by
  unfold callsL
  rw [← List.flatMap_append, List.take_append_drop]
 rw [e, List.getElem?_append_left (List.getElem?_eq_some_iff.1 hj).1]
 exact hj
def thIdx (t : Int) : List CallV → Nat → List Nat
 | [], _ => []
 | c :: cs, k => if c.thread = t then k :: thIdx t cs (k + 1) else thIdx t cs (k + 1)
theorem thIdx_step {t : Int} {cs : List CallV} {k : Nat} {c : CallV} (h : cs[k]? = some c) : thIdx t (cs.drop k) k = if c.thread = t then k :: thIdx t (cs.drop (k + 1)) (k + 1) else thIdx t (cs.drop (k + 1)) (k + 1) := by
 obtain ⟨hlt, rfl⟩ := List.getElem?_eq_some_iff.1 h
 rw [List.drop_eq_getElem_cons hlt]
 rfl
theorem of_any (p : Option Addr) (n c : Nat) (t : Int) (w : World) : Calls Tryz.prog 110 #[.int .i64 t, .slice p n c] w fun e w' => e = .returned (.func (.func 159) #[] #[.pointer (some ⟨w.heap.size + 1, 0, none⟩), .pointer (some ⟨w.heap.size, 0, none⟩)]) ∧ (w.alloc (.cells #[.int .i64 t] 3)).alloc (.cells #[.slice p n c] 25) = w' := by
 go_enter Tryz.func110, Tryz.ntmps110
 go_wp2
 go_ret
 exact ⟨rfl, rfl⟩
structure KeepB (q : Nat → Prop) (X Y : World) : Prop where
 size : X.heap.size ≤ Y.heap.size
 block : ∀ k, q k → Y.heap[k]? = X.heap[k]?
theorem KeepB.refl (q : Nat → Prop) (X : World) : KeepB q X X := ⟨Nat.le_refl _, fun _ _ => rfl⟩
theorem KeepB.trans {q : Nat → Prop} {A B C : World} (h : KeepB q A B) (k : KeepB q B C) : KeepB q A C := ⟨Nat.le_trans h.size k.size, fun i hi => (k.block i hi).trans (h.block i hi)⟩
theorem KeepB.cell {q : Nat → Prop} {X Y : World} (h : KeepB q X Y) {p : Addr} (hp : q p.block) : Y.cell? p = X.cell? p := World.cell?_of_block (w := X) (h.block p.block hp)
theorem KeepB.of_below {q : Nat → Prop} {X Y : World} (h : Below X.heap.size X Y) (hq : ∀ k, q k → k < X.heap.size) : KeepB q X Y := ⟨h.size, fun k hk => h.block k (hq k hk)⟩
theorem KeepB.alloc {q : Nat → Prop} {X : World} (hq : ∀ k, q k → k < X.heap.size) (o : Obj) : KeepB q X (X.alloc o) := .of_below ((Below.refl _ _).alloc (Nat.le_refl _) _) hq
theorem KeepB.set {q : Nat → Prop} {X : World} {p : Addr} (hq : ¬ q p.block) (v : Value) : KeepB q X (X.setCell p v) := ⟨by simp [World.setCell], fun k hk => Below.heap_setCell X p v k (fun e => hq (e ▸ hk))⟩
theorem keepB_b {q : Nat → Prop} {w : World} (hq : ∀ k, q k → k < w.heap.size) (W : World) (l : Nat) (o o' : Obj) (hl : w.heap.size ≤ l) (_ : W.heap[l]? = some o) (_ : o.isCells = false) (_ : o.isWalk = false) : KeepB q W (W.putObj l o') :=
 ⟨by simp [World.putObj], fun k hk => World.putObj_heap_other (fun e => by have := hq k hk; omega)⟩
theorem CAt.keep {w w' : World} {b off : Nat} {cs : List CallV} {q : Nat → Prop} (h : CAt w b off cs) (hb : KeepB q w w') (hq : q b) : CAt w' b off cs := fun j u hj => by
 rw [hb.cell (p := ⟨b, off + j, none⟩) hq]; exact h j u hj
def IterPost (L : List Nat) (J Jx : List Nat → World → Prop) (e : Ending) (W' : World) : Prop := (∃ v, e = .returned v) ∧ ((∃ ys, ys = L ∧ J ys W') ∨ (∃ pre, pre <+: L ∧ Jx pre W'))
theorem of1_in (n : Nat) (hn : 1 ≤ n) (l Bl Bt b off cap : Nat) (q : Nat → Prop) (cs : List CallV) (t : Int) (hs : cs.length ≤ 1000000) (J Jx : List Nat → World → Prop)
  (hY : ∀ pre x W, J pre W → pre.length < cs.length → x < cs.length → YieldAt Fence.wide (n - 1) Tryz.prog l #[.int .i64 (x : Int)] W fun e W' =>
   (e = .returned (.bool true) ∧ J (pre ++ [x]) W' ∧ KeepB q W W') ∨ (e = .returned (.bool false) ∧ Jx (pre ++ [x]) W'))
  (W : World) (hA : ∀ pre X o, J pre X → J pre (X.alloc o)) (hBl : W.cell? ⟨Bl, 0, none⟩ = some (.slice (some ⟨b, off, none⟩) cs.length cap)) (hBt : W.cell? ⟨Bt, 0, none⟩ = some (.int .i64 t)) (hC : CAt W b off cs) (h0 : ∀ k, q k → k < W.heap.size) (h2 : q Bt) (h3 : q b) (hJ : J [] W) :
  CallsIn Fence.wide n Tryz.prog 159 #[.func (.yield l) #[] #[], .pointer (some ⟨Bl, 0, none⟩), .pointer (some ⟨Bt, 0, none⟩)] W (IterPost (thIdx t cs 0) J Jx) := by
 refine callsIn_of_wp Tryz.func159 rfl trivial ?_ rfl
 simp only [Tryz.ntmps159, List.size_toArray, List.length_cons, List.length_nil, Nat.reduceAdd, Nat.reduceSub, Array.replicate_succ, Array.replicate_zero, List.push_toArray, List.append_toArray, List.nil_append, List.cons_append]
 gi_wp2
 gi_loopw [8] (fun i wr => ∃ (k : Nat) (pre : List Nat), i = .int .i64 k ∧ k ≤ cs.length ∧ pre ++ thIdx t (cs.drop k) k = thIdx t cs 0 ∧ pre.length ≤ k ∧ J pre wr ∧ KeepB q W wr) (fun i wr => cs.length - (intOf i).toNat)
 case atStart => exact ⟨0, [], rfl, by omega, by simp, by simp, hJ, KeepB.refl _ _⟩
 case round =>
  obtain ⟨k, pre, rfl, hk, hp, hlen, hJ', hB⟩ := hrel
  have Hp := Lib.hid hp; clear hp
  by_cases hlt : k < cs.length
  ·obtain ⟨c, hc⟩ : ∃ c, cs[k]? = some c := ⟨_, List.getElem?_eq_getElem hlt⟩
   have hst := thIdx_step (t := t) hc
   have Hst := Lib.hid hst; clear hst
   have hld := (hC.keep hB h3).load hc
   have hBx := hB.trans (KeepB.alloc (fun k hk => Nat.lt_of_lt_of_le (h0 k hk) hB.size) (.cells (callL c).toArray 56))
   have hct := (hBx.cell (p := ⟨Bt, 0, none⟩) h2).trans hBt
   have hJa := hA pre wr (.cells (callL c).toArray 56) hJ'
   have Hc := Lib.hid hc; clear hc
   by_cases hb : c.thread = t
   ·obtain ⟨fn, tmps, assign, body, hy, hR⟩ := hY pre k _ hJa (by omega) hlt
    have hd : (c.thread == t) = true := by simpa using hb
    gi_wp2
    refine hR.mono ?_
    rintro e W1 (⟨rfl, hJ1, hk1⟩ | ⟨rfl, hJ1⟩)
    ·gi_wp2
     go_roundw
     case rel => exact ⟨k + 1, pre ++ [k], by go_num, by omega, by rw [← Hp.out, Hst.out, if_pos hb, List.append_assoc]; rfl, by simp; omega, hJ1, hBx.trans hk1⟩
     case measure => simp [intOf]; omega
    ·gi_wp2
     refine bodyPost_ret (results_none rfl _ _ _) rfl ?_
     exact ⟨⟨_, rfl⟩, .inr ⟨pre ++ [k], ⟨thIdx t (cs.drop (k + 1)) (k + 1), by rw [← Hp.out, Hst.out, if_pos hb, List.append_assoc]; rfl⟩, hJ1⟩⟩
   ·have hd : (c.thread == t) = false := by simpa using hb
    gi_wp2
    refine ⟨fun _ h => (by cases h), ?_⟩
    gi_wp2
    go_roundw
    case rel => exact ⟨k + 1, pre, by go_num, by omega, by rw [← Hp.out, Hst.out, if_neg hb], by omega, hJa, hBx⟩
    case measure => simp [intOf]; omega
  ·gi_wp2
   go_end0
   refine ⟨⟨_, rfl⟩, .inl ⟨_, rfl, ?_⟩⟩
   have hkk : k = cs.length := by omega
   rw [← Hp.out, hkk]
   simpa [thIdx] using hJ'
theorem of1_nil (n : Nat) (l Bl Bt : Nat) (t : Int) (c : Nat) (J Jx : List Nat → World → Prop)
  (W : World) (hBl : W.cell? ⟨Bl, 0, none⟩ = some (.slice none 0 c)) (hJ : J [] W) :
  CallsIn Fence.wide n Tryz.prog 159 #[.func (.yield l) #[] #[], .pointer (some ⟨Bl, 0, none⟩), .pointer (some ⟨Bt, 0, none⟩)] W (IterPost (thIdx t [] 0) J Jx) := by
 refine callsIn_of_wp Tryz.func159 rfl trivial ?_ rfl
 simp only [Tryz.ntmps159, List.size_toArray, List.length_cons, List.length_nil, Nat.reduceAdd, Nat.reduceSub, Array.replicate_succ, Array.replicate_zero, List.push_toArray, List.append_toArray, List.nil_append, List.cons_append]
 gi_wp2
 refine wpIn_loop_once ?_
 gi_wp2
 go_end0
 exact ⟨⟨_, rfl⟩, .inl ⟨_, rfl, hJ⟩⟩
abbrev InC (n : Nat) : Type := { k : Nat // k < n }
def CRow (w : World) (p : Option Addr) (cap : Nat) (cs : List CallV) : Prop := (p = none ∧ cap = 0 ∧ cs = []) ∨ ∃ b off, p = some ⟨b, off, none⟩ ∧ cs.length ≤ cap ∧ b < w.heap.size ∧ CAt w b off cs
theorem CRow.on {w w' : World} {p : Option Addr} {cap : Nat} {cs : List CallV} (h : CRow w p cap cs) (hb : Below w.heap.size w w') : CRow w' p cap cs := by
 rcases h with h | ⟨b, off, h1, h2, h3, h4⟩
 ·exact .inl h
 ·exact .inr ⟨b, off, h1, h2, Nat.lt_of_lt_of_le h3 hb.size, h4.on hb⟩
theorem of_stops (n : Nat) (hn : 1 ≤ n) (Bl Bt cap : Nat) (q : Nat → Prop) (p : Option Addr) (cs : List CallV) (t : Int) (hs : cs.length ≤ 1000000) (w : World) (hBl : w.cell? ⟨Bl, 0, none⟩ = some (.slice p cs.length cap)) (hBt : w.cell? ⟨Bt, 0, none⟩ = some (.int .i64 t))
  (hC : CRow w p cap cs) (h0 : ∀ k, q k → k < w.heap.size) (h1 : Bl < w.heap.size) (h2 : q Bt) (h3 : ∀ b off, p = some ⟨b, off, none⟩ → q b) :
  SeqStopsK Fence.wide n Tryz.prog 159 #[.pointer (some ⟨Bl, 0, none⟩), .pointer (some ⟨Bt, 0, none⟩)] (fun x : InC cs.length => #[Value.int .i64 (x.1 : Int)]) (KeepB q) (fun ys => ys.map (·.1) = thIdx t cs 0) (fun _ => True) cs.length w := by
 intro l J Jx W hW hAJ hAJx hY hJ
 have hbl := (hW.cell (p := ⟨Bl, 0, none⟩) h1).trans hBl
 have hbt := (hW.cell (p := ⟨Bt, 0, none⟩) (h0 _ h2)).trans hBt
 have key : CallsIn Fence.wide n Tryz.prog 159 #[.func (.yield l) #[] #[], .pointer (some ⟨Bl, 0, none⟩), .pointer (some ⟨Bt, 0, none⟩)] W (IterPost (thIdx t cs 0) (fun xs W => ∃ ys : List (InC cs.length), ys.map (·.1) = xs ∧ J ys W) (fun xs W => ∃ ys : List (InC cs.length), ys.map (·.1) = xs ∧ Jx ys W)) := by
  rcases hC with ⟨rfl, rfl, rfl⟩ | ⟨b, off, rfl, hcap, hb, hcat⟩
  ·exact of1_nil n l Bl Bt t 0 _ _ W hbl ⟨[], rfl, hJ⟩
  ·refine of1_in n hn l Bl Bt b off cap q cs t hs _ _ ?_ W ?_ hbl hbt (hcat.below hW hb) (fun k hk => Nat.lt_of_lt_of_le (h0 k hk) hW.size) h2 (h3 b off rfl) ⟨[], rfl, hJ⟩
   ·rintro pre x W ⟨ys, rfl, hj⟩ hlen hx
    refine (hY ys ⟨x, hx⟩ W hj (by simpa using hlen)).mono ?_
    rintro e W' (⟨rfl, hj', hk⟩ | ⟨rfl, hj'⟩)
    ·exact .inl ⟨rfl, ⟨_, by simp, hj'⟩, hk⟩
    ·exact .inr ⟨rfl, ⟨_, by simp, hj'⟩⟩
   ·rintro pre X o ⟨ys, rfl, hj⟩
    exact ⟨ys, rfl, hAJ ys X _ none hj (World.grownBy_alloc X o none) (fun r e => by cases e)⟩
 refine key.mono ?_
 rintro e W' ⟨hv, ⟨_, rfl, ys, hy, hj⟩ | ⟨_, hp, ys, rfl, hj⟩⟩
 ·exact ⟨hv, .inl ⟨ys, hy, hj⟩⟩
 ·exact ⟨hv, .inr ⟨ys, trivial, hj⟩⟩
theorem of_stopsN (N : Nat) (n : Nat) (hn : 1 ≤ n) (Bl Bt cap : Nat) (q : Nat → Prop) (p : Option Addr) (cs : List CallV) (hN : cs.length = N) (t : Int) (hs : N ≤ 1000000) (w : World) (hBl : w.cell? ⟨Bl, 0, none⟩ = some (.slice p N cap)) (hBt : w.cell? ⟨Bt, 0, none⟩ = some (.int .i64 t))
  (hC : CRow w p cap cs) (h0 : ∀ k, q k → k < w.heap.size) (h1 : Bl < w.heap.size) (h2 : q Bt) (h3 : ∀ b off, p = some ⟨b, off, none⟩ → q b) :
  SeqStopsK Fence.wide n Tryz.prog 159 #[.pointer (some ⟨Bl, 0, none⟩), .pointer (some ⟨Bt, 0, none⟩)] (fun x : InC N => #[Value.int .i64 (x.1 : Int)]) (KeepB q) (fun ys => ys.map (·.1) = thIdx t cs 0) (fun _ => True) N w := by
 subst hN
 exact of_stops n hn Bl Bt cap q p cs t hs w hBl hBt hC h0 h1 h2 h3
end Go.Proofs.YtdeiocppghhfdaaGreat.Hs
