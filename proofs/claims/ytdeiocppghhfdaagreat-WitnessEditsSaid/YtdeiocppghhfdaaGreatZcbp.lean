/- Texts, one behind another. -/
import Derived.Test.YtdeiocppghhfdaaGreatZcbo
import Derived.Test.YtdeiocppghhfdaaGreatZcad
import Derived.Test.YtdeiocppghhfdaaGreatZcaa
import Derived.OrdersHeld
set_option linter.unusedVariables false
set_option linter.unusedSimpArgs false
set_option maxRecDepth 100000
set_option maxHeartbeats 8000000
namespace Go.Proofs.YtdeiocppghhfdaaGreat.Lin
open Go.RowKit Go.Lib Go.Shelf
open Hs
open KitI (iv IRow own_below)
attribute [local go_sem, local simp] Hs.callL_0 Hs.callL_1 Hs.callL_2 Hs.callL_3 Hs.callL_4 Hs.callL_5 Hs.callL_6 Hs.callL_7 Hs.callL_8 Hs.callL_9 Hs.callL_10 Hs.callL_11 Hs.callL_12 Hs.callL_13 Hs.callL_14 Hs.callL_15 Hs.callL_16 Hs.callL_17 Hs.callL_18 Hs.callL_19 Hs.callL_20 Hs.callL_21 Hs.callL_22 Hs.callL_23 Hs.callL_24 Hs.callL_25 Hs.callL_26 Hs.resL_0 Hs.resL_1 Hs.resL_2 Hs.resL_3 Hs.resL_4 Hs.resL_5 Hs.resL_6 Hs.resL_7 Hs.resL_8 Hs.resL_9 Hs.resL_10 Hs.resL_11 Hs.resL_12 Hs.callG_0 Hs.callG_1 Hs.callG_2 Hs.callG_3 Hs.callG_4 Hs.callG_5 Hs.callG_6 Hs.callG_7 Hs.callG_8 Hs.callG_9 Hs.callG_10 Hs.callG_11 Hs.callG_12 Hs.callG_13 Hs.callG_14 Hs.callG_15 Hs.callG_16 Hs.callG_17 Hs.callG_18 Hs.callG_19 Hs.callG_20 Hs.callG_21 Hs.callG_22 Hs.callG_23 Hs.callG_24 Hs.callG_25 Hs.callG_26 Hs.resG_0 Hs.resG_1 Hs.resG_2 Hs.resG_3 Hs.resG_4 Hs.resG_5 Hs.resG_6 Hs.resG_7 Hs.resG_8 Hs.resG_9 Hs.resG_10 Hs.resG_11 Hs.resG_12 Hs.callL_len Hs.resL_len
attribute [local go_sem ↓] Hs.loadCall_eq Hs.loadRes_eq
attribute [local go_sem] Hs.ld_new Hs.ld_first Hs.ld_second Hs.ldr_new Hs.st_new
theorem callsL_setN : ∀ (cs : List CallV) (i k : Nat) (c c' : CallV) (tl : List Value) (x : Value), k < 27 → cs[i]? = some c → (callL c).set k x = callL c' → (callsL cs ++ tl).set (i * 27 + k) x = callsL (cs.set i c') ++ tl
 | [], i, k, c, c', tl, x, _, h, _ => by simp at h
 | d :: cs, 0, k, c, c', tl, x, hk, h, he => by
  simp at h
  subst h
  rw [callsL_cons, List.set_cons_zero, callsL_cons, Nat.zero_mul, Nat.zero_add, List.append_assoc, List.append_assoc, List.set_append, if_pos (by rw [callL_len]; exact hk), he]
 | d :: cs, i + 1, k, c, c', tl, x, hk, h, he => by
  rw [callsL_cons, List.set_cons_succ, callsL_cons, List.append_assoc, List.append_assoc, List.set_append, if_neg (by rw [callL_len]; omega), callL_len, show (i + 1) * 27 + k - 27 = i * 27 + k by omega, callsL_setN cs i k c c' tl x hk (by simpa using h) he]
structure KV (w1 W : World) (g cap : Nat) (cs : List CallV) : Prop where
 blk : ∃ tl : List Value, W.heap[g]? = some (.cells (callsL cs ++ tl).toArray 56 (0, 0))
 bl : Below w1.heap.size w1 W
 ge : w1.heap.size ≤ g
 cap : cs.length ≤ cap
section
variable {w1 W W' : World} {g cap : Nat} {cs : List CallV}
theorem KV.crow (h : KV w1 W g cap cs) : CRow W (some ⟨g, 0, none⟩) cap cs := by
 obtain ⟨tl, ht⟩ := h.blk
 refine .inr ⟨g, 0, rfl, h.cap, (Array.getElem?_eq_some_iff.1 ht).1, fun j u hj => ?_⟩
 rw [Nat.zero_add, blk_cell ht, List.getElem?_append_left (List.getElem?_eq_some_iff.1 hj).1]
 exact hj
theorem KV.cellN (h : KV w1 W g cap cs) {i k : Nat} {c : CallV} {u : Value} (hc : cs[i]? = some c) (hk : k < 27) (hu : (callL c)[k]? = some u) : W.cell? ⟨g, i * 27 + k, none⟩ = some u ∧ W.frozen? ⟨g, i * 27 + k, none⟩ = false := by
 obtain ⟨tl, ht⟩ := h.blk
 refine ⟨?_, blk_frozen ht _⟩
 have hg := callsL_get cs i k c hc hk
 rw [hu] at hg
 rw [blk_cell ht, List.getElem?_append_left (List.getElem?_eq_some_iff.1 hg).1, hg]
theorem KV.setN (h : KV w1 W g cap cs) {i k : Nat} {c c' : CallV} {x : Value} (hc : cs[i]? = some c) (hk : k < 27) (he : (callL c).set k x = callL c') : KV w1 (W.setCell ⟨g, i * 27 + k, none⟩ x) g cap (cs.set i c') := by
 obtain ⟨tl, ht⟩ := h.blk
 refine ⟨⟨tl, ?_⟩, h.bl.setCell (p := ⟨g, i * 27 + k, none⟩) h.ge _, h.ge, by rw [List.length_set]; exact h.cap⟩
 rw [← callsL_setN cs i k c c' tl x hk hc he]
 exact blk_set ht _ _
end
theorem kv_of_row {w1 W : World} {v : Value} {cs : List CallV} (h : W.ownsRow w1.heap.size 56 27 v cs.length (callsL cs)) (hb : Below w1.heap.size w1 W) : (v = .slice none 0 0 ∧ cs = []) ∨ ∃ g cap, v = .slice (some ⟨g, 0, none⟩) cs.length cap ∧ KV w1 W g cap cs := by
 rcases h.2 with ⟨h1, h2⟩ | ⟨g, cap', cur, h1, h2, h3, h4, h5, h6, h7⟩
 ·exact .inl ⟨h1, List.length_eq_zero_iff.1 h2⟩
 ·refine .inr ⟨g, cap', h1, ⟨cur.toList.drop (cs.length * 27), ?_⟩, hb, h2, h4⟩
  rw [h3]
  congr 2
  rw [← h7, List.take_append_drop]
theorem down_setC {w w1 W : World} {c : CallV} {g cap : Nat} {cs : List CallV} (h : DOwn w W c) (hK : KV w1 W g cap cs) {x : Value} (o : Nat) : DAt (W.setCell ⟨g, o, none⟩ x) c := by
 obtain ⟨tl, ht⟩ := hK.blk
 have h2 : DOwn w (W.setCell ⟨g, o, none⟩ x) c := by
  rcases h with ⟨h0, h | ⟨b, cur, h1, h2, h3, h4⟩⟩
  ·exact ⟨h0, .inl h⟩
  ·refine ⟨h0, .inr ⟨b, cur, h1, h2, (Below.heap_setCell _ _ _ _ (fun e => ?_)).trans h3, h4⟩⟩
   have e : b = g := e
   subst e
   rw [ht] at h3
   cases h3
 exact h2.at
def ChgPost (w : World) (cs : List CallV) (i : Nat) (F : CallV → CallV) (e : Ending) (w' : World) : Prop :=
 ∃ g cap' hs, e = .returned (.slice (some ⟨g, 0, none⟩) hs.length cap') ∧ hs.map CallV.pure = (fewL cs).modify i F ∧ HRow w' (some ⟨g, 0, none⟩) cap' hs ∧ Below w.heap.size w w'
theorem chg_end {w W : World} {g cap' i : Nat} {cs hs : List CallV} {q q' : CallV} {F : CallV → CallV} (hm : hs.map CallV.pure = fewL cs) (hq : hs[i]? = some q) (hK : KV w W g cap' (hs.set i q')) (hD : ∀ c ∈ hs, DAt W c) (hle : (fewL cs).length ≤ 24) (hok : ∀ c ∈ fewL cs, c.Ok)
  (hF : q.pure.Ok → q'.Ok ∧ (DAt W q → DAt W q')) (he : q'.pure = F q.pure) : ChgPost w cs i F (.returned (.slice (some ⟨g, 0, none⟩) hs.length cap')) W := by
 have hlt := (List.getElem?_eq_some_iff.1 hq).1
 have hqm := List.mem_of_getElem? hq
 have hoks : ∀ c ∈ hs, c.pure.Ok := fun c hc => hok _ (by rw [← hm]; exact List.mem_map_of_mem hc)
 refine ⟨g, cap', hs.set i q', by rw [List.length_set], ?_, ⟨hK.crow, fun c hc => ?_, fun c hc => ?_, by rw [List.length_set, ← List.length_map (f := CallV.pure), hm]; exact hle⟩, hK.bl⟩
 ·rw [← hm]
  apply List.ext_getElem?
  intro j
  rw [List.getElem?_map, List.getElem?_modify, List.getElem?_map]
  by_cases e : i = j
  ·subst e
   rw [List.getElem?_set_self hlt, hq]
   simp [he]
  ·rw [List.getElem?_set_ne e]
   cases hs[j]? <;> simp [e]
 ·rcases List.mem_or_eq_of_mem_set hc with h | h
  ·exact hD c h
  ·rw [h]; exact (hF (hoks q hqm)).2 (hD q hqm)
 ·rcases List.mem_or_eq_of_mem_set hc with h | h
  ·exact pure_ok (d := c.pure) rfl (hoks c h)
  ·rw [h]; exact (hF (hoks q hqm)).1
theorem chg_1_5 (p : Option Addr) (cap : Nat) (cs : List CallV) (w : World) (hA : ArgRow w p cs) (hle : (fewL cs).length ≤ 24) (hok : ∀ c ∈ fewL cs, c.Ok) (hl : 1 < (fewL cs).length) : Calls Tryz.prog 93 #[.slice p cs.length cap, .int .i64 1, .int .i64 5, .int .i64 1] w (ChgPost w cs 1 fun q => { q with rev := 1 }) := by
 go_enter Tryz.func93, Tryz.ntmps93
 go_wp2_with fail
 refine (few_any p cap cs _ hA).mono ?_
 rintro e w1 ⟨v, rfl, hO, hb1⟩
 obtain ⟨hs, hm, hown, hD⟩ := hO
 have hlen : hs.length = (fewL cs).length := by rw [← hm, List.length_map]
 obtain ⟨q, hq⟩ : ∃ q, hs[1]? = some q := ⟨_, List.getElem?_eq_getElem (by omega)⟩
 rcases kv_of_row hown hb1 with ⟨rfl, h0⟩ | ⟨g, cap', rfl, hK⟩
 ·rw [h0] at hq; cases hq
 have hcell := hK.cellN (k := 15) hq (by omega) (u := .int .i64 q.rev) rfl
 obtain ⟨c1, c2⟩ := hcell
 have hset := hK.setN (k := 15) hq (by omega) (x := .int .i64 1) (c' := { q with rev := 1 }) rfl
 have hD2 := fun c hc => down_setC (hD c hc) hK (x := .int .i64 1) (1 * 27 + 15)
 have hi : (1 : Int) < (hs.length : Int) := by omega
 have Hset := Lib.hid hset
 have HD2 := Lib.hid hD2
 clear hown hD hb1 hK hset hD2 hlen
 go_wp2_with fail
 go_returns
 exact chg_end hm hq Hset.out HD2.out hle hok (fun h => ⟨⟨h.i0, h.i1, h.a0, h.a1, h.s0, h.s1, h.t0, h.t1, h.r0, h.r1, h.kd, h.id, h.gr, h.sl, h.at_, h.nn⟩, fun hd => hd⟩) rfl
theorem chg_2_7 (p : Option Addr) (cap : Nat) (cs : List CallV) (w : World) (hA : ArgRow w p cs) (hle : (fewL cs).length ≤ 24) (hok : ∀ c ∈ fewL cs, c.Ok) (hl : 2 < (fewL cs).length) : Calls Tryz.prog 93 #[.slice p cs.length cap, .int .i64 2, .int .i64 7, .int .i64 2] w (ChgPost w cs 2 fun q => { q with rtext := ⟨#[97, 120]⟩ }) := by
 go_enter Tryz.func93, Tryz.ntmps93
 go_wp2_with fail
 refine (few_any p cap cs _ hA).mono ?_
 rintro e w1 ⟨v, rfl, hO, hb1⟩
 obtain ⟨hs, hm, hown, hD⟩ := hO
 have hlen : hs.length = (fewL cs).length := by rw [← hm, List.length_map]
 obtain ⟨q, hq⟩ : ∃ q, hs[2]? = some q := ⟨_, List.getElem?_eq_getElem (by omega)⟩
 rcases kv_of_row hown hb1 with ⟨rfl, h0⟩ | ⟨g, cap', rfl, hK⟩
 ·rw [h0] at hq; cases hq
 have hcell := hK.cellN (k := 19) hq (by omega) (u := .string q.rtext) rfl
 obtain ⟨c1, c2⟩ := hcell
 have hset := hK.setN (k := 19) hq (by omega) (x := .string ⟨#[97, 120]⟩) (c' := { q with rtext := ⟨#[97, 120]⟩ }) rfl
 have hD2 := fun c hc => down_setC (hD c hc) hK (x := .string ⟨#[97, 120]⟩) (2 * 27 + 19)
 have hi : (2 : Int) < (hs.length : Int) := by omega
 have Hset := Lib.hid hset
 have HD2 := Lib.hid hD2
 clear hown hD hb1 hK hset hD2 hlen
 go_wp2_with fail
 go_returns
 exact chg_end hm hq Hset.out HD2.out hle hok (fun h => ⟨⟨h.i0, h.i1, h.a0, h.a1, h.s0, h.s1, h.t0, h.t1, h.r0, h.r1, h.kd, h.id, h.gr, h.sl, h.at_, h.nn⟩, fun hd => hd⟩) rfl
theorem chg_0_2 (p : Option Addr) (cap : Nat) (cs : List CallV) (w : World) (hA : ArgRow w p cs) (hle : (fewL cs).length ≤ 24) (hok : ∀ c ∈ fewL cs, c.Ok) (hl : 0 < (fewL cs).length) : Calls Tryz.prog 93 #[.slice p cs.length cap, .int .i64 0, .int .i64 2, .int .i64 7] w (ChgPost w cs 0 fun q => { q with took := 7 }) := by
 go_enter Tryz.func93, Tryz.ntmps93
 go_wp2_with fail
 refine (few_any p cap cs _ hA).mono ?_
 rintro e w1 ⟨v, rfl, hO, hb1⟩
 obtain ⟨hs, hm, hown, hD⟩ := hO
 have hlen : hs.length = (fewL cs).length := by rw [← hm, List.length_map]
 obtain ⟨q, hq⟩ : ∃ q, hs[0]? = some q := ⟨_, List.getElem?_eq_getElem (by omega)⟩
 rcases kv_of_row hown hb1 with ⟨rfl, h0⟩ | ⟨g, cap', rfl, hK⟩
 ·rw [h0] at hq; cases hq
 have hcell := hK.cellN (k := 10) hq (by omega) (u := .int .i64 q.took) rfl
 obtain ⟨c1, c2⟩ := hcell
 have hset := hK.setN (k := 10) hq (by omega) (x := .int .i64 7) (c' := { q with took := 7 }) rfl
 have hD2 := fun c hc => down_setC (hD c hc) hK (x := .int .i64 7) (0 * 27 + 10)
 have hi : (0 : Int) < (hs.length : Int) := by omega
 have Hset := Lib.hid hset
 have HD2 := Lib.hid hD2
 clear hown hD hb1 hK hset hD2 hlen
 go_wp2_with fail
 go_returns
 exact chg_end hm hq Hset.out HD2.out hle hok (fun h => ⟨⟨h.i0, h.i1, h.a0, h.a1, h.s0, h.s1, (by show -9223372036854775808 ≤ (7 : Int); decide), (by show (7 : Int) ≤ 9223372036854775807; decide), h.r0, h.r1, h.kd, h.id, h.gr, h.sl, h.at_, h.nn⟩, fun hd => hd⟩) rfl
theorem chg_0_3 (p : Option Addr) (cap : Nat) (cs : List CallV) (w : World) (hA : ArgRow w p cs) (hle : (fewL cs).length ≤ 24) (hok : ∀ c ∈ fewL cs, c.Ok) (hl : 0 < (fewL cs).length) : Calls Tryz.prog 93 #[.slice p cs.length cap, .int .i64 0, .int .i64 3, .int .i64 8] w (ChgPost w cs 0 fun q => { q with answered := 8 }) := by
 go_enter Tryz.func93, Tryz.ntmps93
 go_wp2_with fail
 refine (few_any p cap cs _ hA).mono ?_
 rintro e w1 ⟨v, rfl, hO, hb1⟩
 obtain ⟨hs, hm, hown, hD⟩ := hO
 have hlen : hs.length = (fewL cs).length := by rw [← hm, List.length_map]
 obtain ⟨q, hq⟩ : ∃ q, hs[0]? = some q := ⟨_, List.getElem?_eq_getElem (by omega)⟩
 rcases kv_of_row hown hb1 with ⟨rfl, h0⟩ | ⟨g, cap', rfl, hK⟩
 ·rw [h0] at hq; cases hq
 have hcell := hK.cellN (k := 12) hq (by omega) (u := .int .i64 q.answered) rfl
 obtain ⟨c1, c2⟩ := hcell
 have hset := hK.setN (k := 12) hq (by omega) (x := .int .i64 8) (c' := { q with answered := 8 }) rfl
 have hD2 := fun c hc => down_setC (hD c hc) hK (x := .int .i64 8) (0 * 27 + 12)
 have hi : (0 : Int) < (hs.length : Int) := by omega
 have Hset := Lib.hid hset
 have HD2 := Lib.hid hD2
 clear hown hD hb1 hK hset hD2 hlen
 go_wp2_with fail
 go_returns
 exact chg_end hm hq Hset.out HD2.out hle hok (fun h => ⟨⟨h.i0, h.i1, (by show -9223372036854775808 ≤ (8 : Int); decide), (by show (8 : Int) ≤ 9223372036854775807; decide), h.s0, h.s1, h.t0, h.t1, h.r0, h.r1, h.kd, h.id, h.gr, h.sl, h.at_, h.nn⟩, fun hd => hd⟩) rfl
theorem chg_3_8 (p : Option Addr) (cap : Nat) (cs : List CallV) (w : World) (hA : ArgRow w p cs) (hle : (fewL cs).length ≤ 24) (hok : ∀ c ∈ fewL cs, c.Ok) (hl : 3 < (fewL cs).length) : Calls Tryz.prog 93 #[.slice p cs.length cap, .int .i64 3, .int .i64 8, .int .i64 1] w (ChgPost w cs 3 fun q => { q with ifrom := 1 }) := by
 go_enter Tryz.func93, Tryz.ntmps93
 go_wp2_with fail
 refine (few_any p cap cs _ hA).mono ?_
 rintro e w1 ⟨v, rfl, hO, hb1⟩
 obtain ⟨hs, hm, hown, hD⟩ := hO
 have hlen : hs.length = (fewL cs).length := by rw [← hm, List.length_map]
 obtain ⟨q, hq⟩ : ∃ q, hs[3]? = some q := ⟨_, List.getElem?_eq_getElem (by omega)⟩
 rcases kv_of_row hown hb1 with ⟨rfl, h0⟩ | ⟨g, cap', rfl, hK⟩
 ·rw [h0] at hq; cases hq
 have hcell := hK.cellN (k := 24) hq (by omega) (u := .int .i64 q.ifrom) rfl
 obtain ⟨c1, c2⟩ := hcell
 have hset := hK.setN (k := 24) hq (by omega) (x := .int .i64 1) (c' := { q with ifrom := 1 }) rfl
 have hD2 := fun c hc => down_setC (hD c hc) hK (x := .int .i64 1) (3 * 27 + 24)
 have hi : (3 : Int) < (hs.length : Int) := by omega
 have Hset := Lib.hid hset
 have HD2 := Lib.hid hD2
 clear hown hD hb1 hK hset hD2 hlen
 go_wp2_with fail
 go_returns
 exact chg_end hm hq Hset.out HD2.out hle hok (fun h => ⟨⟨h.i0, h.i1, h.a0, h.a1, h.s0, h.s1, h.t0, h.t1, h.r0, h.r1, h.kd, h.id, h.gr, h.sl, h.at_, h.nn⟩, fun hd => hd⟩) rfl
end Go.Proofs.YtdeiocppghhfdaaGreat.Lin
namespace Go.Proofs.YtdeiocppghhfdaaGreat.Lin
open Go.RowKit Go.Lib Go.Shelf
open Hs
open KitI (take_ext ret_bool cell_size)
attribute [local go_sem, local simp] Hs.callL_0 Hs.callL_1 Hs.callL_2 Hs.callL_3 Hs.callL_4 Hs.callL_5 Hs.callL_6 Hs.callL_7 Hs.callL_8 Hs.callL_9 Hs.callL_10 Hs.callL_11 Hs.callL_12 Hs.callL_13 Hs.callL_14 Hs.callL_15 Hs.callL_16 Hs.callL_17 Hs.callL_18 Hs.callL_19 Hs.callL_20 Hs.callL_21 Hs.callL_22 Hs.callL_23 Hs.callL_24 Hs.callL_25 Hs.callL_26 Hs.resL_0 Hs.resL_1 Hs.resL_2 Hs.resL_3 Hs.resL_4 Hs.resL_5 Hs.resL_6 Hs.resL_7 Hs.resL_8 Hs.resL_9 Hs.resL_10 Hs.resL_11 Hs.resL_12 Hs.callG_0 Hs.callG_1 Hs.callG_2 Hs.callG_3 Hs.callG_4 Hs.callG_5 Hs.callG_6 Hs.callG_7 Hs.callG_8 Hs.callG_9 Hs.callG_10 Hs.callG_11 Hs.callG_12 Hs.callG_13 Hs.callG_14 Hs.callG_15 Hs.callG_16 Hs.callG_17 Hs.callG_18 Hs.callG_19 Hs.callG_20 Hs.callG_21 Hs.callG_22 Hs.callG_23 Hs.callG_24 Hs.callG_25 Hs.callG_26 Hs.resG_0 Hs.resG_1 Hs.resG_2 Hs.resG_3 Hs.resG_4 Hs.resG_5 Hs.resG_6 Hs.resG_7 Hs.resG_8 Hs.resG_9 Hs.resG_10 Hs.resG_11 Hs.resG_12 Hs.callL_len Hs.resL_len
attribute [local go_sem ↓] Hs.loadCall_eq Hs.loadRes_eq
attribute [local go_sem] Hs.ld_new Hs.ld_first Hs.ld_second Hs.ldr_new Hs.st_new
def SRow (w : World) (v : Value) (zs : List ByteArray) : Prop :=
 (v = .slice none 0 0 ∧ zs = []) ∨ ∃ b off c, v = .slice (some ⟨b, off, none⟩) zs.length c ∧ ∀ j u, zs[j]? = some u → w.cell? ⟨b, off + j, none⟩ = some (.string u)
theorem SRow.own {w : World} {base : Nat} {e : TypeId} {v : Value} {n : Nat} {zs : List ByteArray} (h : w.ownsRow base e 1 v n (zs.map Value.string)) (hn : n = zs.length) : SRow w v zs := by
 subst hn
 rcases h.2 with ⟨h1, h2⟩ | ⟨g, cap, cur, h1, _⟩
 ·exact .inl ⟨h1, List.length_eq_zero_iff.1 h2⟩
 ·refine .inr ⟨g, 0, cap, h1, fun j u hj => ?_⟩
  subst h1
  have hlt := (List.getElem?_eq_some_iff.1 hj).1
  rw [Nat.zero_add, h.cellAt j (by omega), List.getElem?_map, hj]
  rfl
theorem SRow.on {w w' : World} {v : Value} {zs : List ByteArray} (h : SRow w v zs) (hb : Below w.heap.size w w') : SRow w' v zs := by
 rcases h with h | ⟨b, off, c, h1, h2⟩
 ·exact .inl h
 ·exact .inr ⟨b, off, c, h1, fun j u hj => by rw [hb.cell (cell_size (h2 j u hj))]; exact h2 j u hj⟩
theorem SRow.nil (w : World) : SRow w (.slice none 0 0) [] := .inl ⟨rfl, rfl⟩
theorem SRow.new (zs : List ByteArray) (cs : Array Value) (T : TypeId) (n c : Nat) (hc : cs = (zs.map Value.string).toArray) (hl : n = zs.length) (W : World) : SRow (W.alloc (.cells cs T)) (.slice (some ⟨W.heap.size, 0, none⟩) n c) zs := by
 subst hc hl
 refine .inr ⟨_, 0, c, rfl, fun j u hj => ?_⟩
 rw [Nat.zero_add, World.cell?_alloc_new]
 simp [hj]
def EsRel (za zb : List ByteArray) (w : World) (i : Value) (wr : World) : Prop := ∃ k n : Nat, i = .int .i64 k ∧ wr = w.drewN n ∧ k ≤ za.length ∧ za.take k = zb.take k
theorem eqs_some (w : World) (b1 o1 c1 b2 o2 c2 : Nat) (za zb : List ByteArray) (hl : za.length = zb.length) (hs : za.length ≤ 1000000)
  (h1 : ∀ j u, za[j]? = some u → w.cell? ⟨b1, o1 + j, none⟩ = some (.string u)) (h2 : ∀ j u, zb[j]? = some u → w.cell? ⟨b2, o2 + j, none⟩ = some (.string u)) :
  Calls Tryz.prog 45 #[.slice (some ⟨b1, o1, none⟩) za.length c1, .slice (some ⟨b2, o2, none⟩) za.length c2] w fun e w' => e = .returned (.bool (decide (za = zb))) ∧ Below w.heap.size w w' := by
 have H1 := Lib.hid h1
 have H2 := Lib.hid h2
 have Hl := Lib.hid hl
 clear h1 h2 hl
 go_enter Tryz.func45, Tryz.ntmps45
 go_wp2
 go_loopw [5] (fun i wr => EsRel za zb w i wr) (fun i wr => za.length - (intOf i).toNat)
 case atStart => exact ⟨0, 0, rfl, rfl, by omega, rfl⟩
 case round =>
  obtain ⟨k, n, rfl, rfl, hk, he⟩ := hrel
  have He := Lib.hid he; clear he
  by_cases hlt : k < za.length
  ·obtain ⟨x, hx⟩ : ∃ x, za[k]? = some x := ⟨_, List.getElem?_eq_getElem hlt⟩
   obtain ⟨y, hy⟩ : ∃ y, zb[k]? = some y := ⟨_, List.getElem?_eq_getElem (by rw [← Hl.out]; exact hlt)⟩
   have cx := H1.out k x hx
   have cy := H2.out k y hy
   have Hx := Lib.hid hx
   have Hy := Lib.hid hy
   clear hx hy
   by_cases hxy : x = y
   ·subst hxy
    go_wp2_with (go_quiet (fail))
    go_roundw
    case rel => exact ⟨k + 1, _, rfl, rfl, by omega, take_ext x Hx.out Hy.out He.out⟩
    case measure => simp [intOf]; omega
   ·have hd : (x.toList == y.toList) = false := by rw [str_eq]; simpa using hxy
    have hz : za ≠ zb := fun e => by
     have h1 := Hx.out
     rw [e, Hy.out] at h1
     exact hxy (Option.some.inj h1).symm
    have Hz := Lib.hid hz
    clear hxy hz
    go_wp2_with (go_quiet (fail))
    go_returns
    refine ⟨ret_bool (by simp [Hz.out]), ?_⟩
    first | exact Below.refl _ _ | exact below_drewN (KitI.below_drewN' _ _) _
  ·go_wp2
   go_returns
   refine ⟨ret_bool ?_, KitI.below_drewN' _ _⟩
   have hkk : k = za.length := by omega
   have := He.out
   rw [hkk, List.take_length, Hl.out, List.take_length] at this
   simp [this]
theorem eqs_any (w : World) (va vb : Value) (za zb : List ByteArray) (ha : SRow w va za) (hb : SRow w vb zb) (hs : za.length ≤ 1000000) (hs2 : zb.length ≤ 1000000) :
  Calls Tryz.prog 45 #[va, vb] w fun e w' => e = .returned (.bool (decide (za = zb))) ∧ Below w.heap.size w w' := by
 by_cases hl : za.length = zb.length
 ·rcases ha with ⟨rfl, rfl⟩ | ⟨b1, o1, c1, rfl, h1⟩
  ·obtain rfl : zb = [] := List.length_eq_zero_iff.1 hl.symm
   clear hs hs2 hl
   rcases hb with ⟨rfl, _⟩ | ⟨b2, o2, c2, rfl, h2⟩
   all_goals
    go_enter Tryz.func45, Tryz.ntmps45
    go_wp2
    refine wp_loop_rounds 1 ?_
    rw [rounds_succ]
    go_wp2
    go_returns
    exact ⟨rfl, Below.refl _ _⟩
  ·rcases hb with ⟨rfl, rfl⟩ | ⟨b2, o2, c2, rfl, h2⟩
   ·obtain rfl : za = [] := List.length_eq_zero_iff.1 hl
    clear hs hs2 hl h1
    go_enter Tryz.func45, Tryz.ntmps45
    go_wp2
    refine wp_loop_rounds 1 ?_
    rw [rounds_succ]
    go_wp2
    go_returns
    exact ⟨rfl, Below.refl _ _⟩
   ·rw [← hl]
    exact eqs_some w b1 o1 c1 b2 o2 c2 za zb hl hs h1 h2
 ·have hz : decide (za = zb) = false := by
   rw [decide_eq_false_iff_not]
   intro e
   exact hl (by rw [e])
  rw [hz]
  obtain ⟨pa, ca, rfl⟩ : ∃ pa ca, va = .slice pa za.length ca := by
   rcases ha with ⟨rfl, rfl⟩ | ⟨b1, o1, c1, rfl, h1⟩
   ·exact ⟨_, _, rfl⟩
   ·exact ⟨_, _, rfl⟩
  obtain ⟨pb, cb, rfl⟩ : ∃ pb cb, vb = .slice pb zb.length cb := by
   rcases hb with ⟨rfl, rfl⟩ | ⟨b1, o1, c1, rfl, h1⟩
   ·exact ⟨_, _, rfl⟩
   ·exact ⟨_, _, rfl⟩
  have hd : ((za.length : Int) == (zb.length : Int)) = false := by
   rw [beq_eq_false_iff_ne]
   intro e
   exact hl (by omega)
  clear ha hb hz hl
  go_enter Tryz.func45, Tryz.ntmps45
  go_wp2
  go_returns
  exact ⟨rfl, Below.refl _ _⟩
end Go.Proofs.YtdeiocppghhfdaaGreat.Lin
namespace Go.Proofs.YtdeiocppghhfdaaGreat
section
variable {P : Program} {Q : Exit → Act → World → Prop} {S : World → Prop}
theorem wpIn_region_held {l : List Oper} {r n id : Nat} {a : Act} {w : World} (hm : P.follows .mixedOrders = true) (hd : noDefer l = true) (hno : ∀ a w, ¬ Q .outgrown a w) (hp : ∀ c a w, ¬ Q (.panic c) a w) (hS : S w.drew)
  (h : S w.drew → wpAnyH P .any l.toArray (NoPanic Q) S l.length (Array.replicate l.length false) a w.drew) : (Code.region id l.toArray true).wpIn (Fence.wide.inRound r) n P Q a w := by
 refine wpIn_region_any hm (wpAnyIn_of_any (noDefer_spec hd) (fun h => ?_) _ _ _ _ ?_)
 ·obtain ⟨a, w, hn⟩ := h
  exact hno a w hn
 ·have h2 := wpAny_of_held _ _ _ _ (h hS)
  have hq : NoPanic Q = Q := by
   funext e a w
   cases e <;> first | rfl | exact propext ⟨False.elim, fun h => (hp _ _ _ h).elim⟩
  rw [hq] at h2
  simpa using h2
end
end Go.Proofs.YtdeiocppghhfdaaGreat
