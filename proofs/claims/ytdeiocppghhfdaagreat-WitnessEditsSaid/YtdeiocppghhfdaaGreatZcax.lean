/- Texts, one behind another. -/
import Derived.Test.YtdeiocppghhfdaaGreatZcae
set_option linter.unusedVariables false
set_option linter.unusedSimpArgs false
set_option maxRecDepth 100000
set_option maxHeartbeats 8000000
namespace Go.Proofs.YtdeiocppghhfdaaGreat.Hs
open Go.RowKit Go.Lib Go.Shelf
open KitI (own_below)
attribute [local go_sem, local simp] callL_0 callL_1 callL_2 callL_3 callL_4 callL_5 callL_6 callL_7 callL_8 callL_9 callL_10 callL_11 callL_12 callL_13 callL_14 callL_15 callL_16 callL_17 callL_18 callL_19 callL_20 callL_21 callL_22 callL_23 callL_24 callL_25 callL_26 resL_0 resL_1 resL_2 resL_3 resL_4 resL_5 resL_6 resL_7 resL_8 resL_9 resL_10 resL_11 resL_12 callG_0 callG_1 callG_2 callG_3 callG_4 callG_5 callG_6 callG_7 callG_8 callG_9 callG_10 callG_11 callG_12 callG_13 callG_14 callG_15 callG_16 callG_17 callG_18 callG_19 callG_20 callG_21 callG_22 callG_23 callG_24 callG_25 callG_26 resG_0 resG_1 resG_2 resG_3 resG_4 resG_5 resG_6 resG_7 resG_8 resG_9 resG_10 resG_11 resG_12 callL_len resL_len
attribute [local go_sem ↓] loadCall_eq loadRes_eq
attribute [local go_sem] ld_new ld_first ld_second ldr_new st_new
def DRaw (w : World) (c : CallV) : Prop := (c.ps = [] ∧ (c.da = none → c.dc = 0)) ∨ ∃ b off, c.da = some ⟨b, off, none⟩ ∧ c.ps.length ≤ c.dc ∧ c.ps.length < 9223372036854775808 ∧ b < w.heap.size ∧ ∀ j u, (piecesL c.ps)[j]? = some u → w.cell? ⟨b, off + j, none⟩ = some u
theorem piecesL_pre (ps : List PieceV) (n j : Nat) (u : Value) (h : (piecesL (ps.take n))[j]? = some u) : (piecesL ps)[j]? = some u := by
 have e : piecesL ps = piecesL (ps.take n) ++ piecesL (ps.drop n) := by
  unfold piecesL
  rw [← List.flatMap_append, List.take_append_drop]
 rw [e, List.getElem?_append_left (List.getElem?_eq_some_iff.1 h).1]
 exact h
theorem DRaw.cut {w : World} {c : CallV} (h : DRaw w c) : (cut100 c).ps = [] ∨ DAt w (cut100 c) := by
 rcases h with ⟨h1, h2⟩ | ⟨b, off, h1, _, _, h2, h3⟩
 ·exact .inl (by unfold cut100; rw [h1]; rfl)
 ·exact .inr ⟨Nat.le_trans (cut100_len c) (by omega), .inr ⟨b, off, h1, h2, fun j u hj => h3 j u (piecesL_pre c.ps 100 j u hj)⟩⟩
theorem DRaw.on {w w' : World} {c : CallV} (h : DRaw w c) (hb : Below w.heap.size w w') : DRaw w' c := by
 rcases h with h | ⟨b, off, h1, h4, h5, h2, h3⟩
 ·exact .inl h
 ·exact .inr ⟨b, off, h1, h4, h5, Nat.lt_of_lt_of_le h2 hb.size, fun j u hj => by rw [hb.cell (p := ⟨b, off + j, none⟩) h2]; exact h3 j u hj⟩
theorem DRaw.of {w : World} {c : CallV} (h : DAt w c) (hc : c.ps.length ≤ c.dc) : DRaw w c := by
 rcases h with ⟨h0, ⟨h1, h2, h3⟩ | ⟨b, off, h1, h2, h3⟩⟩
 ·exact .inl ⟨h2, fun _ => h3⟩
 ·exact .inr ⟨b, off, h1, hc, by omega, h2, h3⟩
theorem call_cut (c : CallV) (n : Nat) (h : n = (c.ps.take 100).length) : (callL c).set 26 (.slice c.da n c.dc) = callL (cut100 c) := by subst h; rfl
def FewRel (w : World) (cs : List CallV) (o i : Value) (wr : World) : Prop :=
 ∃ k : Nat, i = .int .i64 k ∧ k ≤ 24 ∧ k ≤ cs.length ∧ ORow w w.heap.size wr o (fewL (cs.take k)) ∧ Below w.heap.size w wr
attribute [local go_sem, local simp] fold_call
theorem few_some (b off cap : Nat) (cs : List CallV) (w : World) (hb : b < w.heap.size) (hC : CAt w b off cs) (hs : cs.length < 9223372036854775808) (hd : ∀ c ∈ cs, DRaw w c) :
  Calls Tryz.prog 35 #[.slice (some ⟨b, off, none⟩) cs.length cap] w fun e w' => ∃ v, e = .returned v ∧ ORow w w.heap.size w' v (fewL cs) ∧ Below w.heap.size w w' := by
 obtain ⟨i0, hi, hz0, hz1, hz2⟩ := info_parts infoC
 go_enter Tryz.func35, Tryz.ntmps35
 go_wp2
 go_loopw [3, 4] (fun o i wr => FewRel w cs o i wr) (fun o i wr => cs.length - (intOf i).toNat)
 case atStart => exact ⟨0, rfl, by omega, by omega, ORow.nil _ _ _, Below.refl _ _⟩
 case round =>
  obtain ⟨k, rfl, hk, hk2, hR, hB⟩ := hrel
  by_cases hlt : k < cs.length
  ·by_cases h24 : k < 24
   ·obtain ⟨c, hc⟩ : ∃ c, cs[k]? = some c := ⟨_, List.getElem?_eq_getElem hlt⟩
    have hld := (hC.below hB hb).load hc
    have hst := few_step hc h24
    have hle := few_len (cs.take k)
    have hdc := (hd c (List.mem_of_getElem? hc)).on hB
    generalize fewL (cs.take k) = L at *
    have Hst := Lib.hid hst
    clear hst hc
    have hBa : Below wr.heap.size wr (wr.alloc (.cells (callL c).toArray 56)) := (Below.refl _ _).alloc (Nat.le_refl _) _
    have hBa2 : Below wr.heap.size wr (wr.alloc (.cells (callL (cut100 c)).toArray 56)) := (Below.refl _ _).alloc (Nat.le_refl _) _
    have cp := copycall_any (cut100 c) (wr.alloc (.cells (callL (cut100 c)).toArray 56)) ((hdc.on hBa2).cut)
    have hB5 := hB.trans (hBa2.mono hB.size)
    have hR2 := hR.on hBa2
    have hld2 := ld_new wr (cut100 c)
    clear hR
    rcases hdc with ⟨h2, h3⟩ | ⟨b', off', h1, h4, h5, h2, h3⟩
    ·have hset := call_cut c (min (0 : Int) 100).toNat (by rw [h2]; rfl)
     have q26 := callL_26 c
     have g26 := callG_26 c
     rw [h2, List.length_nil] at q26 g26
     cases hda : c.da with
     | none =>
      rw [hda] at q26 g26 hset
      rw [h3 hda] at q26 g26 hset
      clear h2 h3 hda
      go_wp2_with fail
      refine cp.mono ?_
      clear cp hset q26 g26 hld2
      rintro e w2 ⟨c', rfl, hpu, hDc, hB2⟩
      have hsz : w.heap.size ≤ w2.heap.size := Nat.le_trans hB5.size hB2.size
      have hBw := hB5.trans (hB2.mono hB5.size)
      have hDw := hDc.mono hB5.size
      have hR3 := hR2.on hB2
      clear hR2 hB2 hB5 hDc hBa hBa2 hld
      obtain ⟨cs', hm, hown2, hD2⟩ := hR3
      have hlen : cs'.length ≤ 24 := by rw [← List.length_map (f := CallV.pure), hm]; exact hle
      have Hlen := Lib.hid hlen
      have hl1 := callL_len c'
      have ho1 := ones_call c'
      have hn1 := pieces_new w2 (callL c') 56
      clear hlen
      go_wp2_with (at_builtin; (try simp only [fold_call]); refine wpList_append_own _ rfl _ _ 25 rfl w.heap.size 56 i0 _ 27 240 Tryz.underlying25 hi hz0 hz1 hz2 rfl (by decide) _ _ _ rfl (hown2.alloc _) ⟨_, 0, none⟩ 1 1 (callL c') rfl (by rw [hl1]) hn1 ho1 (by have := Hlen.out; unfold maxLen; omega) (by have := Hlen.out; omega) (by simp; omega) ?_; intro v' w3 hown' hgrow _)
      have hB3 := (hBw.alloc hsz _).grown hgrow (by simp; omega) fun k hk => (hown2.lt k hk).1
      go_roundw
      case rel => exact ⟨k + 1, by go_num, by omega, by omega, ⟨cs' ++ [c'], by rw [List.map_append, hm, Hst.out, List.map_singleton, hpu], by rw [callsL_snoc, List.length_append]; exact hown', fun c hc => by
        rcases List.mem_append.1 hc with hc | hc
        ·exact ((hD2 c hc).on ((Below.refl _ _).alloc (Nat.le_refl _) _)).grown (hown2.alloc _) hgrow
        ·rw [List.mem_singleton.1 hc]; exact (hDw.on ((Below.refl _ _).alloc (Nat.le_refl _) _)).grown (hown2.alloc _) hgrow⟩, hB3⟩
      case measure => simp [intOf]; omega
     | some ad =>
      rw [hda] at q26 g26 hset
      clear h2 h3 hda
      go_wp2_with fail
      refine cp.mono ?_
      clear cp hset q26 g26 hld2
      rintro e w2 ⟨c', rfl, hpu, hDc, hB2⟩
      have hsz : w.heap.size ≤ w2.heap.size := Nat.le_trans hB5.size hB2.size
      have hBw := hB5.trans (hB2.mono hB5.size)
      have hDw := hDc.mono hB5.size
      have hR3 := hR2.on hB2
      clear hR2 hB2 hB5 hDc hBa hBa2 hld
      obtain ⟨cs', hm, hown2, hD2⟩ := hR3
      have hlen : cs'.length ≤ 24 := by rw [← List.length_map (f := CallV.pure), hm]; exact hle
      have Hlen := Lib.hid hlen
      have hl1 := callL_len c'
      have ho1 := ones_call c'
      have hn1 := pieces_new w2 (callL c') 56
      clear hlen
      go_wp2_with (at_builtin; (try simp only [fold_call]); refine wpList_append_own _ rfl _ _ 25 rfl w.heap.size 56 i0 _ 27 240 Tryz.underlying25 hi hz0 hz1 hz2 rfl (by decide) _ _ _ rfl (hown2.alloc _) ⟨_, 0, none⟩ 1 1 (callL c') rfl (by rw [hl1]) hn1 ho1 (by have := Hlen.out; unfold maxLen; omega) (by have := Hlen.out; omega) (by simp; omega) ?_; intro v' w3 hown' hgrow _)
      have hB3 := (hBw.alloc hsz _).grown hgrow (by simp; omega) fun k hk => (hown2.lt k hk).1
      go_roundw
      case rel => exact ⟨k + 1, by go_num, by omega, by omega, ⟨cs' ++ [c'], by rw [List.map_append, hm, Hst.out, List.map_singleton, hpu], by rw [callsL_snoc, List.length_append]; exact hown', fun c hc => by
        rcases List.mem_append.1 hc with hc | hc
        ·exact ((hD2 c hc).on ((Below.refl _ _).alloc (Nat.le_refl _) _)).grown (hown2.alloc _) hgrow
        ·rw [List.mem_singleton.1 hc]; exact (hDw.on ((Below.refl _ _).alloc (Nat.le_refl _) _)).grown (hown2.alloc _) hgrow⟩, hB3⟩
      case measure => simp [intOf]; omega
    ·clear h3
     have hset := call_cut c (min (c.ps.length : Int) 100).toNat (by rw [List.length_take]; omega)
     have q26 := callL_26 c
     have g26 := callG_26 c
     rw [h1] at q26 g26 hset
     have hm1 : min (c.ps.length : Int) 100 ≤ (c.dc : Int) := by omega
     have hm0 : 0 ≤ min (c.ps.length : Int) 100 := by omega
     clear h1 h2
     go_wp2_with fail
     refine cp.mono ?_
     clear cp hset q26 g26 hld2
     rintro e w2 ⟨c', rfl, hpu, hDc, hB2⟩
     have hsz : w.heap.size ≤ w2.heap.size := Nat.le_trans hB5.size hB2.size
     have hBw := hB5.trans (hB2.mono hB5.size)
     have hDw := hDc.mono hB5.size
     have hR3 := hR2.on hB2
     clear hR2 hB2 hB5 hDc hBa hBa2 hld
     obtain ⟨cs', hm, hown2, hD2⟩ := hR3
     have hlen : cs'.length ≤ 24 := by rw [← List.length_map (f := CallV.pure), hm]; exact hle
     have Hlen := Lib.hid hlen
     have hl1 := callL_len c'
     have ho1 := ones_call c'
     have hn1 := pieces_new w2 (callL c') 56
     clear hlen
     go_wp2_with (at_builtin; (try simp only [fold_call]); refine wpList_append_own _ rfl _ _ 25 rfl w.heap.size 56 i0 _ 27 240 Tryz.underlying25 hi hz0 hz1 hz2 rfl (by decide) _ _ _ rfl (hown2.alloc _) ⟨_, 0, none⟩ 1 1 (callL c') rfl (by rw [hl1]) hn1 ho1 (by have := Hlen.out; unfold maxLen; omega) (by have := Hlen.out; omega) (by simp; omega) ?_; intro v' w3 hown' hgrow _)
     have hB3 := (hBw.alloc hsz _).grown hgrow (by simp; omega) fun k hk => (hown2.lt k hk).1
     go_roundw
     case rel => exact ⟨k + 1, by go_num, by omega, by omega, ⟨cs' ++ [c'], by rw [List.map_append, hm, Hst.out, List.map_singleton, hpu], by rw [callsL_snoc, List.length_append]; exact hown', fun c hc => by
       rcases List.mem_append.1 hc with hc | hc
       ·exact ((hD2 c hc).on ((Below.refl _ _).alloc (Nat.le_refl _) _)).grown (hown2.alloc _) hgrow
       ·rw [List.mem_singleton.1 hc]; exact (hDw.on ((Below.refl _ _).alloc (Nat.le_refl _) _)).grown (hown2.alloc _) hgrow⟩, hB3⟩
     case measure => simp [intOf]; omega
   ·have hkk : k = 24 := by omega
    subst hkk
    go_wp2
    go_returns
    have e : fewL cs = fewL (cs.take 24) := by unfold fewL; rw [List.take_take, Nat.min_self]
    exact ⟨_, rfl, by rw [e]; exact hR, hB⟩
  ·have hkk : k = cs.length := by omega
   subst hkk
   rw [List.take_length] at hR
   go_wp2
   go_returns
   exact ⟨_, rfl, hR, hB⟩
theorem few_nil (p : Option Addr) (cap : Nat) (w : World) : Calls Tryz.prog 35 #[.slice p 0 cap] w fun e w' => ∃ v, e = .returned v ∧ ORow w w.heap.size w' v (fewL []) ∧ Below w.heap.size w w' := by
 go_enter Tryz.func35, Tryz.ntmps35
 go_wp2
 refine wp_loop_rounds 1 ?_
 rw [rounds_succ]
 go_wp2
 go_returns
 exact ⟨_, rfl, ORow.nil _ _ _, Below.refl _ _⟩
def ArgRow (w : World) (p : Option Addr) (cs : List CallV) : Prop := cs = [] ∨ ∃ b off, p = some ⟨b, off, none⟩ ∧ b < w.heap.size ∧ CAt w b off cs ∧ cs.length < 9223372036854775808 ∧ ∀ c ∈ cs, c.Ok ∧ DRaw w c
theorem ArgRow.on {w w' : World} {p : Option Addr} {cs : List CallV} (h : ArgRow w p cs) (hb : Below w.heap.size w w') : ArgRow w' p cs := by
 rcases h with h | ⟨b, off, h1, h2, h3, h4, h5⟩
 ·exact .inl h
 ·exact .inr ⟨b, off, h1, Nat.lt_of_lt_of_le h2 hb.size, h3.on hb, h4, fun c hc => ⟨(h5 c hc).1, (h5 c hc).2.on hb⟩⟩
theorem few_any (p : Option Addr) (cap : Nat) (cs : List CallV) (w : World) (hA : ArgRow w p cs) : Calls Tryz.prog 35 #[.slice p cs.length cap] w fun e w' => ∃ v, e = .returned v ∧ ORow w w.heap.size w' v (fewL cs) ∧ Below w.heap.size w w' := by
 rcases hA with rfl | ⟨b, off, rfl, h2, h3, h4, h5⟩
 ·exact few_nil p cap w
 ·exact few_some b off cap cs w h2 h3 h4 fun c hc => (h5 c hc).2
end Go.Proofs.YtdeiocppghhfdaaGreat.Hs
namespace Go.Proofs.YtdeiocppghhfdaaGreat.Hs
open Go.RowKit Go.Lib Go.Shelf
open KitI (own_below)
attribute [local go_sem, local simp] callL_0 callL_1 callL_2 callL_3 callL_4 callL_5 callL_6 callL_7 callL_8 callL_9 callL_10 callL_11 callL_12 callL_13 callL_14 callL_15 callL_16 callL_17 callL_18 callL_19 callL_20 callL_21 callL_22 callL_23 callL_24 callL_25 callL_26 resL_0 resL_1 resL_2 resL_3 resL_4 resL_5 resL_6 resL_7 resL_8 resL_9 resL_10 resL_11 resL_12 callG_0 callG_1 callG_2 callG_3 callG_4 callG_5 callG_6 callG_7 callG_8 callG_9 callG_10 callG_11 callG_12 callG_13 callG_14 callG_15 callG_16 callG_17 callG_18 callG_19 callG_20 callG_21 callG_22 callG_23 callG_24 callG_25 callG_26 resG_0 resG_1 resG_2 resG_3 resG_4 resG_5 resG_6 resG_7 resG_8 resG_9 resG_10 resG_11 resG_12 callL_len resL_len
attribute [local go_sem ↓] loadCall_eq loadRes_eq
attribute [local go_sem] ld_new ld_first ld_second ldr_new st_new
theorem pure_ok {c d : CallV} (h : c.pure = d.pure) (hd : d.Ok) : c.Ok := by
 have e1 : c.invoked = d.invoked := (congrArg CallV.invoked h : c.pure.invoked = d.pure.invoked)
 have e2 : c.answered = d.answered := (congrArg CallV.answered h : c.pure.answered = d.pure.answered)
 have e3 : c.steps = d.steps := (congrArg CallV.steps h : c.pure.steps = d.pure.steps)
 have e4 : c.took = d.took := (congrArg CallV.took h : c.pure.took = d.pure.took)
 have e5 : c.rank = d.rank := (congrArg CallV.rank h : c.pure.rank = d.pure.rank)
 have e6 : c.okind = d.okind := (congrArg CallV.okind h : c.pure.okind = d.pure.okind)
 have e7 : c.oid = d.oid := (congrArg CallV.oid h : c.pure.oid = d.pure.oid)
 have e8 : c.ograv = d.ograv := (congrArg CallV.ograv h : c.pure.ograv = d.pure.ograv)
 have e9 : c.oslot = d.oslot := (congrArg CallV.oslot h : c.pure.oslot = d.pure.oslot)
 have f0 : c.oat = d.oat := (congrArg CallV.oat h : c.pure.oat = d.pure.oat)
 have f1 : c.on = d.on := (congrArg CallV.on h : c.pure.on = d.pure.on)
 obtain ⟨a1, a2, a3, a4, a5, a6, a7, a8, a9, a10, b1, b2, b3, b4, b5, b6⟩ := hd
 exact ⟨by omega, by omega, by omega, by omega, by omega, by omega, by omega, by omega, by omega, by omega, by omega, by omega, by omega, by omega, by omega, by omega⟩
structure HRow (W : World) (p : Option Addr) (cap : Nat) (cs : List CallV) : Prop where
 row : CRow W p cap cs
 dat : ∀ c ∈ cs, DAt W c
 ok : ∀ c ∈ cs, c.Ok
 len : cs.length ≤ 24
theorem HRow.on {W W' : World} {p : Option Addr} {cap : Nat} {cs : List CallV} (h : HRow W p cap cs) (hb : Below W.heap.size W W') : HRow W' p cap cs := ⟨h.row.on hb, fun c hc => (h.dat c hc).on hb, h.ok, h.len⟩
theorem crow_of_own {W : World} {base : Nat} {v : Value} {cs : List CallV} (h : W.ownsRow base 56 27 v cs.length (callsL cs)) : ∃ p cap, v = .slice p cs.length cap ∧ CRow W p cap cs := by
 rcases h.2 with ⟨h1, h2⟩ | ⟨g, cap, cur, rfl, h2, h3, h4, h5, h6, h7⟩
 ·have : cs = [] := List.length_eq_zero_iff.1 h2
  subst this
  exact ⟨none, 0, h1, .inl ⟨rfl, rfl, rfl⟩⟩
 ·refine ⟨_, _, rfl, .inr ⟨g, 0, rfl, h4, (Array.getElem?_eq_some_iff.1 h3).1, fun j u hj => ?_⟩⟩
  have hlt := (List.getElem?_eq_some_iff.1 hj).1
  rw [callsL_len] at hlt
  rw [Nat.zero_add, h.cellAt j hlt]
  exact hj
theorem hrow_of {w W : World} {base : Nat} {v : Value} {L : List CallV} (h : ORow w base W v L) (hok : ∀ c ∈ L, c.Ok) (hl : L.length ≤ 24) : ∃ p cap hs, v = .slice p hs.length cap ∧ hs.map CallV.pure = L ∧ HRow W p cap hs := by
 obtain ⟨cs, h1, h2, h3⟩ := h
 obtain ⟨p, cap, hv, hC⟩ := crow_of_own h2
 refine ⟨p, cap, cs, hv, h1, hC, fun c hc => (h3 c hc).at, fun c hc => ?_, by rw [← h1] at hl; simpa using hl⟩
 have hm : c.pure ∈ L := by rw [← h1]; exact List.mem_map_of_mem hc
 exact pure_ok (d := c.pure) rfl (hok _ hm)
theorem few_mem {cs : List CallV} {x : CallV} (h : x ∈ fewL cs) : ∃ c ∈ cs, x = (cut100 c).pure := by
 unfold fewL at h
 obtain ⟨c, hc, rfl⟩ := List.mem_map.1 h
 exact ⟨c, List.mem_of_mem_take hc, rfl⟩
theorem cut_ok {d : CallV} (h : d.Ok) : (cut100 d).pure.Ok := ⟨h.i0, h.i1, h.a0, h.a1, h.s0, h.s1, h.t0, h.t1, h.r0, h.r1, h.kd, h.id, h.gr, h.sl, h.at_, h.nn⟩
theorem few_h (p : Option Addr) (cap : Nat) (cs : List CallV) (w : World) (hA : ArgRow w p cs) :
  Calls Tryz.prog 35 #[.slice p cs.length cap] w fun e w' => ∃ p' cap' hs, e = .returned (.slice p' hs.length cap') ∧ hs.map CallV.pure = fewL cs ∧ HRow w' p' cap' hs ∧ Below w.heap.size w w' := by
 refine (few_any p cap cs w hA).mono ?_
 rintro e w' ⟨v, rfl, hO, hB⟩
 obtain ⟨p', cap', hs, rfl, hm, hH⟩ := hrow_of hO (fun c hc => by
  obtain ⟨d, hd, rfl⟩ := few_mem hc
  rcases hA with rfl | ⟨_, _, _, _, _, _, h⟩
  ·cases hd
  ·exact cut_ok (h d hd).1) (few_len cs)
 exact ⟨p', cap', hs, rfl, hm, hH, hB⟩
end Go.Proofs.YtdeiocppghhfdaaGreat.Hs
namespace Go.Proofs.YtdeiocppghhfdaaGreat.Hs
open Go.RowKit Go.Lib Go.Shelf
theorem places_nodup {q : CallV → Bool} {cs : List CallV} {k : Nat} : (places q cs k).Nodup := by
 refine List.Pairwise.imp ?_ (places_sorted (q := q) (cs := cs) (k := k))
 intro a b h; omega
theorem eff_mem {cs : List CallV} {L : List Nat} (h : EffIs cs L) {i : Nat} : i ∈ L ↔ ∃ c, cs[i]? = some c ∧ tookQ c = true := by
 rw [h.1.mem_iff]
 constructor
 ·exact places_at
 ·rintro ⟨c, hc, hq⟩
  have := places_mem (k := 0) hc hq
  rwa [Nat.zero_add] at this
theorem eff_len {cs : List CallV} {L : List Nat} (h : EffIs cs L) : L.length ≤ cs.length := by
 rw [h.1.length_eq]; exact places_len
theorem good_formed {cs : List CallV} (h0 : (checkP cs).2 = 0) {i : Nat} {c : CallV} (hc : cs[i]? = some c) : formedB c = true := acc_formed (check_ok h0 i c hc)
theorem formed_answered {c : CallV} (h : formedB c = true) (ha : 0 ≤ c.answered) : 0 ≤ c.took ∧ c.took ≤ c.answered ∧ c.invoked ≤ c.answered := by
 unfold formedB at h; simp at h; omega
theorem formed_took {c : CallV} (h : formedB c = true) (ha : 0 ≤ c.took) : c.invoked ≤ c.took := by
 unfold formedB at h; simp at h; omega
theorem tk_at {cs : List CallV} {i : Nat} {c : CallV} (h : cs[i]? = some c) : tk cs i = c.took ∧ rk cs i = c.rank := by
 unfold tk rk; rw [h]; exact ⟨rfl, rfl⟩
theorem bef_lex {cs : List CallV} (h0 : (checkP cs).2 = 0) {i j : Nat} {a b : CallV} (ha : cs[i]? = some a) (hb : cs[j]? = some b) (hq : tookQ b = true) (h : befB a b = true) : tookQ a = true ∧ tk cs i < tk cs j := by
 unfold befB at h
 simp only [Bool.and_eq_true, decide_eq_true_eq] at h
 have f1 := formed_answered (good_formed h0 ha) h.1
 have f2 := formed_took (good_formed h0 hb) (by simpa [tookQ] using hq)
 rw [(tk_at ha).1, (tk_at hb).1]
 exact ⟨by simp [tookQ]; omega, by omega⟩
theorem pair_at {R : Nat → Nat → Prop} {L : List Nat} (h : L.Pairwise R) {i j : Nat} (hi : i ∈ L) (hj : j ∈ L) (hlt : L.idxOf i < L.idxOf j) : R i j := by
 have a1 := List.idxOf_lt_length_iff.2 hi
 have a2 := List.idxOf_lt_length_iff.2 hj
 have := List.pairwise_iff_getElem.1 h (L.idxOf i) (L.idxOf j) a1 a2 hlt
 rwa [List.getElem_idxOf a1, List.getElem_idxOf a2] at this
end Go.Proofs.YtdeiocppghhfdaaGreat.Hs
