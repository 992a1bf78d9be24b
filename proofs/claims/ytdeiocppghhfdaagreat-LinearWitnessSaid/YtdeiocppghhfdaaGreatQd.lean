/- Texts, one behind another: LiV LaF LaS LaW LaX. -/
import Derived.Test.YtdeiocppghhfdaaGreatQb
import Derived.Test.YtdeiocppghhfdaaGreatPhd
import Derived.Test.YtdeiocppghhfdaaGreatPhg
import Derived.Test.YtdeiocppghhfdaaGreatQc
import Derived.Test.YtdeiocppghhfdaaGreatPug
namespace Go.Proofs.YtdeiocppghhfdaaGreat.Lin
set_option linter.unusedVariables false
set_option linter.unusedSimpArgs false
open Go.RowKit Go.Lib Go.Shelf
open Hs
open KitI (iv IRow own_below)
attribute [local go_sem, local simp] Hs.callL_0 Hs.callL_1 Hs.callL_2 Hs.callL_3 Hs.callL_4 Hs.callL_5 Hs.callL_6 Hs.callL_7 Hs.callL_8 Hs.callL_9 Hs.callL_10 Hs.callL_11 Hs.callL_12 Hs.callL_13 Hs.callL_14 Hs.callL_15 Hs.callL_16 Hs.callL_17 Hs.callL_18 Hs.callL_19 Hs.callL_20 Hs.callL_21 Hs.callL_22 Hs.callL_23 Hs.callL_24 Hs.callL_25 Hs.callL_26 Hs.resL_0 Hs.resL_1 Hs.resL_2 Hs.resL_3 Hs.resL_4 Hs.resL_5 Hs.resL_6 Hs.resL_7 Hs.resL_8 Hs.resL_9 Hs.resL_10 Hs.resL_11 Hs.resL_12 Hs.callG_0 Hs.callG_1 Hs.callG_2 Hs.callG_3 Hs.callG_4 Hs.callG_5 Hs.callG_6 Hs.callG_7 Hs.callG_8 Hs.callG_9 Hs.callG_10 Hs.callG_11 Hs.callG_12 Hs.callG_13 Hs.callG_14 Hs.callG_15 Hs.callG_16 Hs.callG_17 Hs.callG_18 Hs.callG_19 Hs.callG_20 Hs.callG_21 Hs.callG_22 Hs.callG_23 Hs.callG_24 Hs.callG_25 Hs.callG_26 Hs.resG_0 Hs.resG_1 Hs.resG_2 Hs.resG_3 Hs.resG_4 Hs.resG_5 Hs.resG_6 Hs.resG_7 Hs.resG_8 Hs.resG_9 Hs.resG_10 Hs.resG_11 Hs.resG_12 Hs.callL_len Hs.resL_len
attribute [local go_sem ↓] Hs.loadCall_eq Hs.loadRes_eq
attribute [local go_sem] Hs.ld_new Hs.ld_first Hs.ld_second Hs.ldr_new Hs.st_new
theorem irow_at {W : World} {p : Option Addr} {zs : List Int} (h : IRd W p zs) (hn : 0 < zs.length) : ∃ b off, p = some ⟨b, off, none⟩ ∧ ∀ W', Below W.heap.size W W' → ∀ j u, zs[j]? = some u → W'.cell? ⟨b, off + j, none⟩ = some (.int .i64 u) := by
  rcases h with h2 | ⟨b, off, h1, h2⟩
  · rw [h2] at hn; simp at hn
  · refine ⟨b, off, h1, fun W' hB j u hj => ?_⟩
    have := h2 j u hj
    exact (hB.cell (KitI.cell_size this)).trans this
theorem index_any (p : Option Addr) (c : Nat) (zs : List Int) (x : Int) (w : World) (h : IRd w p zs) (hs : zs.length ≤ 1000000) :
    Calls Tryz.prog 125 #[.slice p zs.length c, .int .i64 x] w fun e w' => ∃ r : Int, e = .returned (.int .i64 r) ∧ decide (0 ≤ r) = zs.contains x ∧ Below w.heap.size w w' := by
  go_enter Tryz.func125, Tryz.ntmps125
  go_wp2
  go_loopw [8] (fun i wr => ∃ k : Nat, i = .int .i64 k ∧ k ≤ zs.length ∧ Below w.heap.size w wr ∧ x ∉ zs.take k) (fun i wr => zs.length - (intOf i).toNat)
  case atStart => exact ⟨0, rfl, by omega, Below.refl _ _, by simp⟩
  case round =>
    obtain ⟨k, rfl, hk, hB, hno⟩ := hrel
    by_cases hlt : k < zs.length
    · obtain ⟨b, off, rfl, hc⟩ := irow_at h (by omega)
      obtain ⟨y, hz⟩ : ∃ y, zs[k]? = some y := ⟨_, List.getElem?_eq_getElem hlt⟩
      have hck := hc wr hB k _ hz
      clear hc
      have hmem := List.mem_of_getElem? hz
      have htk : zs.take (k + 1) = zs.take k ++ [y] := by rw [List.take_add_one, hz]; rfl
      by_cases hxy : x = y
      · subst hxy
        go_wp2
        go_returns
        exact ⟨k, rfl, by simp [hmem], hB⟩
      · have hd : (x == y) = false := by simpa using hxy
        go_wp2
        go_roundw
        case rel => exact ⟨k + 1, by go_num, by omega, hB, by rw [htk]; simp [hno, hxy]⟩
        case measure => simp [intOf]; omega
    · have hke : k = zs.length := by omega
      subst hke
      rw [List.take_length] at hno
      go_wp2
      go_returns
      exact ⟨-1, rfl, by simp [hno], hB⟩
theorem contains_any (p : Option Addr) (c : Nat) (zs : List Int) (x : Int) (w : World) (h : IRd w p zs) (hs : zs.length ≤ 1000000) :
    Calls Tryz.prog 71 #[.slice p zs.length c, .int .i64 x] w fun e w' => e = .returned (.bool (zs.contains x)) ∧ Below w.heap.size w w' := by
  have hi := index_any p c zs x w h hs
  go_enter Tryz.func71, Tryz.ntmps71
  go_wp2_with (go_at_call 125; refine hi.mono ?_; rintro e w1 ⟨r, rfl, hr, hb1⟩)
  go_returns
  exact ⟨by simp, hb1⟩
/-! ### the state behind the first k of an order -/
theorem runO_take {L : List CallV} : ∀ {o : List Int} {st : MS} {k : Nat} {i : Int}, o[k]? = some i → runO L st (o.take (k + 1)) = (runO L st (o.take k)).bind fun t => nx L t i.toNat
  | [], st, k, i, h => by simp at h
  | x :: r, st, 0, i, h => by
    simp at h; subst h
    show (nx L st x.toNat).bind _ = _
    simp [runO]
  | x :: r, st, k + 1, i, h => by
    have h' : r[k]? = some i := by simpa using h
    show (nx L st x.toNat).bind (fun t => runO L t (r.take (k + 1))) = ((nx L st x.toNat).bind fun t => runO L t (r.take k)).bind _
    cases nx L st x.toNat with
    | none => rfl
    | some t => exact runO_take h'
theorem runO_none {L : List CallV} : ∀ {o : List Int} {st : MS} {k : Nat}, runO L st (o.take k) = none → runO L st o = none
  | [], st, k, h => by simpa using h
  | x :: r, st, 0, h => by simp [runO] at h
  | x :: r, st, k + 1, h => by
    have h1 : (nx L st x.toNat).bind (fun t => runO L t (r.take k)) = none := h
    show (nx L st x.toNat).bind (fun t => runO L t r) = none
    cases hn : nx L st x.toNat with
    | none => rfl
    | some t => rw [hn] at h1; exact runO_none h1
theorem all_no {n j : Nat} {q : Nat → Bool} (hj : j < n) (h : q j = false) : (List.range n).all q = false := by
  rw [List.all_eq_false]; exact ⟨j, List.mem_range.2 hj, by simp [h]⟩
theorem all_yes {n : Nat} {q : Nat → Bool} (h : ∀ j, j < n → q j = true) : (List.range n).all q = true := by
  rw [List.all_eq_true]; exact fun j hj => h j (List.mem_range.1 hj)
theorem agrees_rng {o : List Int} {cs : List CallV} (h0 : (checkP cs).2 = 0) (h : (agreesP o cs).2 = 0) : ∀ x ∈ o, 0 ≤ x ∧ x < (cs.length : Int) := by
  unfold agreesP at h
  rw [if_pos h0] at h
  by_cases hE : ordE cs.length [] o = 0
  · exact (ordE_inv _ _ hE).1
  · rw [if_neg hE] at h; exact absurd h hE
def VRel (c : CfgV) (cs : List CallV) (o : List Int) (w : World) (m i : Value) (wr : World) : Prop :=
  ∃ (k b : Nat) (M : MM), i = .int .i64 k ∧ m = .pointer (some ⟨b, 0, none⟩) ∧ k ≤ o.length ∧ Run w wr b M ∧ runO cs (newS c) (o.take k) = some M.st ∧ MSok M.st k
set_option maxRecDepth 100000 in
set_option maxHeartbeats 4000000 in
theorem valid_any (c : CfgV) (p po : Option Addr) (cap co : Nat) (cs : List CallV) (o : List Int) (w : World) (hC : CRow w p cap cs) (hO : IRd w po o) (hs : cs.length ≤ 1000) (hs2 : o.length ≤ 1000) (hok : ∀ x ∈ cs, x.Ok) (hd : ∀ x ∈ cs, x.ps.length ≤ 1000000) :
    Calls Tryz.prog 28 #[c.v, .slice po o.length co, .slice p cs.length cap] w fun e w' => e = .returned (.int .i64 (validE c o cs)) ∧ Below w.heap.size w w' := by
  have hB0 : Below w.heap.size w (w.alloc (.cells #[.int .i64 c.slots, .int .u64 c.gens, .int .i64 c.clients, .int .i64 c.readers, .int .i64 c.queue, .int .i64 c.batch, .int .i64 c.feed, .string c.text] 24)) := (Below.refl w.heap.size w).alloc (Nat.le_refl _) _
  have hag := fun W (h : Below w.heap.size w W) => agrees_any p po cap co cs o W (hC.on h) (hO.on h) (by omega) (by omega) hok
  by_cases h0 : startE c cs = 0
  · have hst := start_ok (hC.on hB0) hs hok h0
    obtain ⟨h00, hck, hle⟩ := start_len h0
    have hv : validE c o cs = if (agreesP o cs).2 ≠ 0 then (agreesP o cs).2 else if (agreesP o cs).1 = false then 26 else match runO cs (newS c) o with | none => 26 | some _ => if hasAll cs o then 0 else 26 := by unfold validE; rw [if_neg (by rw [h0]; simp)]; rfl
    unfold CfgV.v at *
    by_cases ha : (agreesP o cs).2 = 0
    · rw [if_neg (by rw [ha]; simp)] at hv
      by_cases hab : (agreesP o cs).1 = false
      · rw [if_pos hab] at hv
        rw [ha, hab] at hag
        go_enter Tryz.func28, Tryz.ntmps28
        go_wp2_with (first | (go_at_call 61; refine hst.mono ?_; rintro e w1 ⟨b, M, rfl, hR, hM⟩; have hb1 := hB0.trans (hR.bl.mono hB0.size)) | (go_at_call 55; refine (hag _ hb1).mono ?_; rintro e w2 ⟨rfl, hb2⟩))
        go_returns
        exact ⟨by rw [hv]; rfl, hb1.trans (hb2.mono hb1.size)⟩
      · have habt : (agreesP o cs).1 = true := by simpa using hab
        rw [if_neg hab] at hv
        rw [ha, habt] at hag
        have hrng := agrees_rng hck ha
        go_enter Tryz.func28, Tryz.ntmps28
        go_wp2_with (first | (go_at_call 61; refine hst.mono ?_; rintro e w1 ⟨b, M, rfl, hR, hM⟩; have hb1 := hB0.trans (hR.bl.mono hB0.size)) | (go_at_call 55; refine (hag _ hb1).mono ?_; rintro e w2 ⟨rfl, hb2⟩))
        have hR2 := (Run.up hR hB0).on hb2
        clear hag hst hR hb2 hb1
        go_loopw [7, 38] (fun m i wr => VRel c cs o w m i wr) (fun m i wr => o.length - (intOf i).toNat)
        case atStart => exact ⟨0, b, M, rfl, rfl, by omega, hR2, by rw [hM]; rfl, by rw [hM]; exact newS_ok h00⟩
        case round =>
          obtain ⟨k, b', M', rfl, rfl, hk, hR3, hrun, hMok⟩ := hrel
          by_cases hlt : k < o.length
          · obtain ⟨x, hx⟩ : ∃ x, o[k]? = some x := ⟨_, List.getElem?_eq_getElem hlt⟩
            obtain ⟨bo, oo, rfl, hco⟩ := irow_at hO (by omega)
            have hck0 := hco wr hR3.bl k _ hx
            clear hco
            have hxr := hrng x (List.mem_of_getElem? hx)
            have htk := runO_take (L := cs) (st := newS c) hx
            rw [hrun] at htk
            obtain ⟨i, rfl⟩ : ∃ i : Nat, x = i := ⟨x.toNat, by omega⟩
            have hi : i < cs.length := by omega
            obtain ⟨bq, off, rfl, hcap, hbq, hA⟩ := crow_at hC (by omega)
            have hld := (hA.below hR3.bl hbq).load (getC_some hi)
            have hcm : getC cs i ∈ cs := List.mem_of_getElem? (getC_some hi)
            have hcok := hok _ hcm
            have hcd := hd _ hcm
            have hnx : nx cs M'.st i = nextS M'.st (getC cs i) := rfl
            generalize getC cs i = q at *
            have hne := next_any b' M' q wr k hR3.at_ hMok (by omega) hcok hcd
            have Htk := Lib.hid htk
            clear htk hrun
            cases hn : nextS M'.st q with
            | none =>
              have hv2 : validE c o cs = 26 := by
                rw [hv, runO_none (k := k + 1) (by rw [Htk.out]; show nx cs M'.st i = none; rw [hnx, hn])]
              go_wp2_with (go_at_call 66; refine hne.mono ?_; rintro e w4 ⟨b4, M4, he, hR4, hst4⟩; rw [hn] at he; subst he)
              go_returns
              exact ⟨by rw [hv2]; rfl, (Run.up hR4 hR3.bl).bl⟩
            | some t =>
              have hr2 : runO cs (newS c) (o.take (k + 1)) = some t := by rw [Htk.out]; show nx cs M'.st i = some t; rw [hnx, hn]
              have htok := next_ok hMok hcok hn
              go_wp2_with (go_at_call 66; refine hne.mono ?_; rintro e w4 ⟨b4, M4, he, hR4, hst4⟩; rw [hn] at he; subst he)
              go_roundw
              case rel => exact ⟨k + 1, b4, M4, by go_num, rfl, by omega, Run.up hR4 hR3.bl, by rw [hr2, hst4 t hn], by rw [hst4 t hn]; exact htok⟩
              case measure => simp [intOf]; omega
          · have hke : k = o.length := by omega
            subst hke
            rw [List.take_length] at hrun
            rw [hrun] at hv
            have hb3 := hR3.bl
            clear hR3 hR2 hMok
            go_wp2
            go_loopw [14, 15, 57] (fun x14 x15 i wq => ∃ k : Nat, i = .int .i64 k ∧ k ≤ cs.length ∧ Below w.heap.size w wq ∧ ∀ j, j < k → (decide ((getC cs j).answered < 0) || o.contains (j : Int)) = true) (fun x14 x15 i wq => cs.length - (intOf i).toNat)
            case atStart => exact ⟨0, rfl, by omega, hb3, fun j hj => by omega⟩
            case round =>
              clear hb3 hrun
              obtain ⟨k, rfl, hk, hB, hall⟩ := hrel
              by_cases hlt : k < cs.length
              · obtain ⟨bq, off, rfl, hcap, hbq, hA⟩ := crow_at hC (by omega)
                have hld := (hA.below hB hbq).load (getC_some hlt)
                have hno := fun (h : (decide ((getC cs k).answered < 0) || o.contains (k : Int)) = false) => (all_no (n := cs.length) (q := fun j => decide ((getC cs j).answered < 0) || o.contains (j : Int)) hlt h)
                have hstep := fun (h : (decide ((getC cs k).answered < 0) || o.contains (k : Int)) = true) => (show ∀ j, j < k + 1 → (decide ((getC cs j).answered < 0) || o.contains (j : Int)) = true from fun j hj => by
                  rcases Nat.lt_or_ge j k with h' | h'
                  · exact hall j h'
                  · have : j = k := by omega
                    subst this; exact h)
                have Hstep := Lib.hid hstep
                have Hno := Lib.hid hno
                clear hstep hno hall
                generalize getC cs k = q at *
                have hBa : Below w.heap.size w (wr.alloc (.cells (callL q).toArray 56)) := hB.alloc hB.size _
                by_cases hans : 0 ≤ q.answered
                · have hd1 : decide (0 ≤ q.answered) = true := by simpa using hans
                  have hd2 : decide (q.answered < 0) = false := by simpa using hans
                  have hct := contains_any po co o k _ (hO.on hBa) (by omega)
                  generalize hcc : o.contains (k : Int) = cc at hct
                  have Hcc := Lib.hid hcc
                  clear hcc
                  have hb4 : ∀ w5, Below (wr.alloc (.cells (callL q).toArray 56)).heap.size (wr.alloc (.cells (callL q).toArray 56)) w5 → Below w.heap.size w w5 := fun w5 h => hBa.trans (h.mono hBa.size)
                  cases cc with
                  | true =>
                    go_wp2_with (go_at_call 71; refine hct.mono ?_; rintro e w5 ⟨rfl, hb5⟩)
                    go_roundw
                    case rel => exact ⟨k + 1, by go_num, by omega, hb4 _ hb5, Hstep.out (by rw [Hcc.out]; simp)⟩
                    case measure => simp [intOf]; omega
                  | false =>
                    have hv2 : validE c o cs = 26 := by
                      have := Hno.out (by rw [Hcc.out, hd2]; rfl)
                      rw [hv]; unfold hasAll; rw [this]; rfl
                    go_wp2_with (go_at_call 71; refine hct.mono ?_; rintro e w5 ⟨rfl, hb5⟩)
                    go_returns
                    exact ⟨by rw [hv2]; rfl, hb4 _ hb5⟩
                · have hd1 : decide (0 ≤ q.answered) = false := by simpa using hans
                  go_wp2
                  go_roundw
                  case rel => exact ⟨k + 1, by go_num, by omega, hBa, Hstep.out (by have h1 : decide (q.answered < 0) = true := (by simpa using hans); rw [h1]; rfl)⟩
                  case measure => simp [intOf]; omega
              · have hke : k = cs.length := by omega
                subst hke
                have hv2 : validE c o cs = 0 := by
                  rw [hv]; unfold hasAll; rw [all_yes hall]; rfl
                go_wp2
                go_returns
                exact ⟨by rw [hv2]; rfl, hB⟩
    · rw [if_pos ha] at hv
      have hda : ((agreesP o cs).2 != 0) = true := by simpa using ha
      generalize (agreesP o cs).2 = ae at *
      generalize (agreesP o cs).1 = ab at *
      go_enter Tryz.func28, Tryz.ntmps28
      go_wp2_with (first | (go_at_call 61; refine hst.mono ?_; rintro e w1 ⟨b, M, rfl, hR, hM⟩; have hb1 := hB0.trans (hR.bl.mono hB0.size)) | (go_at_call 55; refine (hag _ hb1).mono ?_; rintro e w2 ⟨rfl, hb2⟩))
      go_returns
      exact ⟨by rw [hv]; rfl, hb1.trans (hb2.mono hb1.size)⟩
  · have hst := start_no (hC.on hB0) hs hok h0
    have hf : validE c o cs = startE c cs := by unfold validE; rw [if_pos h0]
    have hd : (startE c cs != 0) = true := by simpa using h0
    generalize startE c cs = sE at *
    unfold CfgV.v at *
    go_enter Tryz.func28, Tryz.ntmps28
    go_wp2_with (go_at_call 61; refine hst.mono ?_; rintro e w1 ⟨rfl, hb1⟩)
    go_returns
    exact ⟨by rw [hf]; rfl, hB0.trans (hb1.mono hB0.size)⟩
end Go.Proofs.YtdeiocppghhfdaaGreat.Lin
namespace Go.Proofs.YtdeiocppghhfdaaGreat.Lin
set_option linter.unusedVariables false
set_option linter.unusedSimpArgs false
open Go.RowKit Go.Lib Go.Shelf
open Hs
open KitI (own_below)
attribute [local go_sem, local simp] Hs.callL_0 Hs.callL_1 Hs.callL_2 Hs.callL_3 Hs.callL_4 Hs.callL_5 Hs.callL_6 Hs.callL_7 Hs.callL_8 Hs.callL_9 Hs.callL_10 Hs.callL_11 Hs.callL_12 Hs.callL_13 Hs.callL_14 Hs.callL_15 Hs.callL_16 Hs.callL_17 Hs.callL_18 Hs.callL_19 Hs.callL_20 Hs.callL_21 Hs.callL_22 Hs.callL_23 Hs.callL_24 Hs.callL_25 Hs.callL_26 Hs.resL_0 Hs.resL_1 Hs.resL_2 Hs.resL_3 Hs.resL_4 Hs.resL_5 Hs.resL_6 Hs.resL_7 Hs.resL_8 Hs.resL_9 Hs.resL_10 Hs.resL_11 Hs.resL_12 Hs.callG_0 Hs.callG_1 Hs.callG_2 Hs.callG_3 Hs.callG_4 Hs.callG_5 Hs.callG_6 Hs.callG_7 Hs.callG_8 Hs.callG_9 Hs.callG_10 Hs.callG_11 Hs.callG_12 Hs.callG_13 Hs.callG_14 Hs.callG_15 Hs.callG_16 Hs.callG_17 Hs.callG_18 Hs.callG_19 Hs.callG_20 Hs.callG_21 Hs.callG_22 Hs.callG_23 Hs.callG_24 Hs.callG_25 Hs.callG_26 Hs.resG_0 Hs.resG_1 Hs.resG_2 Hs.resG_3 Hs.resG_4 Hs.resG_5 Hs.resG_6 Hs.resG_7 Hs.resG_8 Hs.resG_9 Hs.resG_10 Hs.resG_11 Hs.resG_12 Hs.callL_len Hs.resL_len
attribute [local go_sem ↓] Hs.loadCall_eq Hs.loadRes_eq
attribute [local go_sem] Hs.ld_new Hs.ld_first Hs.ld_second Hs.ldr_new Hs.st_new
def fewN (m : Nat) (cs : List CallV) : List CallV := (cs.take m).map fun c => (cut100 c).pure
theorem fewN_len (m : Nat) (cs : List CallV) : (fewN m cs).length ≤ m := by unfold fewN; simp; omega
theorem fewN_nil (m : Nat) : fewN m [] = [] := by simp [fewN]
theorem fewN_step {m : Nat} {cs : List CallV} {k : Nat} {c : CallV} (h : cs[k]? = some c) (hk : k < m) : fewN m (cs.take (k + 1)) = fewN m (cs.take k) ++ [(cut100 c).pure] := by
  unfold fewN
  rw [List.take_take, List.take_take, Nat.min_eq_right (by omega), Nat.min_eq_right (by omega), List.take_add_one, h, Option.toList_some, List.map_append]
  rfl
attribute [local go_sem, local simp] fold_call
def FewRel (m : Nat) (w : World) (cs : List CallV) (o i : Value) (wr : World) : Prop :=
  ∃ k : Nat, i = .int .i64 k ∧ k ≤ m ∧ k ≤ cs.length ∧ ORow w w.heap.size wr o (fewN m (cs.take k)) ∧ Below w.heap.size w wr
attribute [local go_sem, local simp] fold_call
set_option maxRecDepth 100000 in
set_option maxHeartbeats 1000000 in
theorem few36_some (m : Nat) (hm24 : m ≤ 24) (b off cap : Nat) (cs : List CallV) (w : World) (hb : b < w.heap.size) (hC : CAt w b off cs) (hs : cs.length < 9223372036854775808) (hd : ∀ c ∈ cs, DRaw w c) :
    Calls Tryz.prog 18 #[.slice (some ⟨b, off, none⟩) cs.length cap, .int .i64 m] w fun e w' => ∃ v, e = .returned v ∧ ORow w w.heap.size w' v (fewN m cs) ∧ Below w.heap.size w w' := by
  obtain ⟨i0, hi, hz0, hz1, hz2⟩ := info_parts infoC
  go_enter Tryz.func18, Tryz.ntmps18
  go_wp2
  go_loopw [5, 6] (fun o i wr => FewRel m w cs o i wr) (fun o i wr => cs.length - (intOf i).toNat)
  case atStart => exact ⟨0, rfl, by omega, by omega, (by rw [List.take_zero, fewN_nil]; exact ORow.nil _ _ _), Below.refl _ _⟩
  case round =>
    obtain ⟨k, rfl, hk, hk2, hR, hB⟩ := hrel
    by_cases hlt : k < cs.length
    · by_cases h24 : k < m
      · obtain ⟨c, hc⟩ : ∃ c, cs[k]? = some c := ⟨_, List.getElem?_eq_getElem hlt⟩
        have hld := (hC.below hB hb).load hc
        have hdm : decide (k < m) = true := by simpa using h24
        have hst := fewN_step hc h24
        have hle := Nat.le_trans (fewN_len m (cs.take k)) hm24
        have hdc := (hd c (List.mem_of_getElem? hc)).on hB
        generalize fewN m (cs.take k) = L at *
        have Hst := Lib.hid hst
        clear hst hc
        have hBa : Below wr.heap.size wr (wr.alloc (.cells (callL c).toArray 56)) := (Below.refl _ _).alloc (Nat.le_refl _) _
        have hBa2 : Below wr.heap.size wr (wr.alloc (.cells (callL (cut100 c)).toArray 56)) := (Below.refl _ _).alloc (Nat.le_refl _) _
        have cp := copycall_any (cut100 c) (wr.alloc (.cells (callL (cut100 c)).toArray 56)) ((hdc.on hBa2).cut)
        have hB5 := hB.trans (hBa2.mono hB.size)
        have hR2 := hR.on hBa2
        have hld2 := ld_new wr (cut100 c)
        clear hR
        rcases hdc with ⟨h2, h3⟩ | ⟨b', off', h1, h4, h5, h2, h3⟩
        · have hset := call_cut c (min (0 : Int) 100).toNat (by rw [h2]; rfl)
          have q26 := callL_26 c
          have g26 := callG_26 c
          rw [h2, List.length_nil] at q26 g26
          cases hda : c.da with
          | none =>
            rw [hda] at q26 g26 hset
            rw [h3 hda] at q26 g26 hset
            clear h2 h3 hda
            go_wp2_with fail
            refine cp.mono ?_
            clear cp hset q26 g26 hld2
            rintro e w2 ⟨c', rfl, hpu, hDc, hB2⟩
            have hsz : w.heap.size ≤ w2.heap.size := Nat.le_trans hB5.size hB2.size
            have hBw := hB5.trans (hB2.mono hB5.size)
            have hDw := hDc.mono hB5.size
            have hR3 := hR2.on hB2
            clear hR2 hB2 hB5 hDc hBa hBa2 hld
            obtain ⟨cs', hm, hown2, hD2⟩ := hR3
            have hlen : cs'.length ≤ 24 := by rw [← List.length_map (f := CallV.pure), hm]; exact hle
            have Hlen := Lib.hid hlen
            have hl1 := callL_len c'
            have ho1 := ones_call c'
            have hn1 := pieces_new w2 (callL c') 56
            clear hlen
            go_wp2_with (at_builtin; (try simp only [fold_call]); refine wpList_append_own _ rfl _ _ 25 rfl w.heap.size 56 i0 _ 27 240 Tryz.underlying25 hi hz0 hz1 hz2 rfl (by decide) _ _ _ rfl (hown2.alloc _) ⟨_, 0, none⟩ 1 1 (callL c') rfl (by rw [hl1]) hn1 ho1 (by have := Hlen.out; unfold maxLen; omega) (by have := Hlen.out; omega) (by simp; omega) ?_; intro v' w3 hown' hgrow _)
            have hB3 := (hBw.alloc hsz _).grown hgrow (by simp; omega) fun k hk => (hown2.lt k hk).1
            go_roundw
            case rel => exact ⟨k + 1, by go_num, by omega, by omega, ⟨cs' ++ [c'], by rw [List.map_append, hm, Hst.out, List.map_singleton, hpu], by rw [callsL_snoc, List.length_append]; exact hown', fun c hc => by
                rcases List.mem_append.1 hc with hc | hc
                · exact ((hD2 c hc).on ((Below.refl _ _).alloc (Nat.le_refl _) _)).grown (hown2.alloc _) hgrow
                · rw [List.mem_singleton.1 hc]; exact (hDw.on ((Below.refl _ _).alloc (Nat.le_refl _) _)).grown (hown2.alloc _) hgrow⟩, hB3⟩
            case measure => simp [intOf]; omega
          | some ad =>
            rw [hda] at q26 g26 hset
            clear h2 h3 hda
            go_wp2_with fail
            refine cp.mono ?_
            clear cp hset q26 g26 hld2
            rintro e w2 ⟨c', rfl, hpu, hDc, hB2⟩
            have hsz : w.heap.size ≤ w2.heap.size := Nat.le_trans hB5.size hB2.size
            have hBw := hB5.trans (hB2.mono hB5.size)
            have hDw := hDc.mono hB5.size
            have hR3 := hR2.on hB2
            clear hR2 hB2 hB5 hDc hBa hBa2 hld
            obtain ⟨cs', hm, hown2, hD2⟩ := hR3
            have hlen : cs'.length ≤ 24 := by rw [← List.length_map (f := CallV.pure), hm]; exact hle
            have Hlen := Lib.hid hlen
            have hl1 := callL_len c'
            have ho1 := ones_call c'
            have hn1 := pieces_new w2 (callL c') 56
            clear hlen
            go_wp2_with (at_builtin; (try simp only [fold_call]); refine wpList_append_own _ rfl _ _ 25 rfl w.heap.size 56 i0 _ 27 240 Tryz.underlying25 hi hz0 hz1 hz2 rfl (by decide) _ _ _ rfl (hown2.alloc _) ⟨_, 0, none⟩ 1 1 (callL c') rfl (by rw [hl1]) hn1 ho1 (by have := Hlen.out; unfold maxLen; omega) (by have := Hlen.out; omega) (by simp; omega) ?_; intro v' w3 hown' hgrow _)
            have hB3 := (hBw.alloc hsz _).grown hgrow (by simp; omega) fun k hk => (hown2.lt k hk).1
            go_roundw
            case rel => exact ⟨k + 1, by go_num, by omega, by omega, ⟨cs' ++ [c'], by rw [List.map_append, hm, Hst.out, List.map_singleton, hpu], by rw [callsL_snoc, List.length_append]; exact hown', fun c hc => by
                rcases List.mem_append.1 hc with hc | hc
                · exact ((hD2 c hc).on ((Below.refl _ _).alloc (Nat.le_refl _) _)).grown (hown2.alloc _) hgrow
                · rw [List.mem_singleton.1 hc]; exact (hDw.on ((Below.refl _ _).alloc (Nat.le_refl _) _)).grown (hown2.alloc _) hgrow⟩, hB3⟩
            case measure => simp [intOf]; omega
        · clear h3
          have hset := call_cut c (min (c.ps.length : Int) 100).toNat (by rw [List.length_take]; omega)
          have q26 := callL_26 c
          have g26 := callG_26 c
          rw [h1] at q26 g26 hset
          have hm1 : min (c.ps.length : Int) 100 ≤ (c.dc : Int) := by omega
          have hm0 : 0 ≤ min (c.ps.length : Int) 100 := by omega
          clear h1 h2
          go_wp2_with fail
          refine cp.mono ?_
          clear cp hset q26 g26 hld2
          rintro e w2 ⟨c', rfl, hpu, hDc, hB2⟩
          have hsz : w.heap.size ≤ w2.heap.size := Nat.le_trans hB5.size hB2.size
          have hBw := hB5.trans (hB2.mono hB5.size)
          have hDw := hDc.mono hB5.size
          have hR3 := hR2.on hB2
          clear hR2 hB2 hB5 hDc hBa hBa2 hld
          obtain ⟨cs', hm, hown2, hD2⟩ := hR3
          have hlen : cs'.length ≤ 24 := by rw [← List.length_map (f := CallV.pure), hm]; exact hle
          have Hlen := Lib.hid hlen
          have hl1 := callL_len c'
          have ho1 := ones_call c'
          have hn1 := pieces_new w2 (callL c') 56
          clear hlen
          go_wp2_with (at_builtin; (try simp only [fold_call]); refine wpList_append_own _ rfl _ _ 25 rfl w.heap.size 56 i0 _ 27 240 Tryz.underlying25 hi hz0 hz1 hz2 rfl (by decide) _ _ _ rfl (hown2.alloc _) ⟨_, 0, none⟩ 1 1 (callL c') rfl (by rw [hl1]) hn1 ho1 (by have := Hlen.out; unfold maxLen; omega) (by have := Hlen.out; omega) (by simp; omega) ?_; intro v' w3 hown' hgrow _)
          have hB3 := (hBw.alloc hsz _).grown hgrow (by simp; omega) fun k hk => (hown2.lt k hk).1
          go_roundw
          case rel => exact ⟨k + 1, by go_num, by omega, by omega, ⟨cs' ++ [c'], by rw [List.map_append, hm, Hst.out, List.map_singleton, hpu], by rw [callsL_snoc, List.length_append]; exact hown', fun c hc => by
              rcases List.mem_append.1 hc with hc | hc
              · exact ((hD2 c hc).on ((Below.refl _ _).alloc (Nat.le_refl _) _)).grown (hown2.alloc _) hgrow
              · rw [List.mem_singleton.1 hc]; exact (hDw.on ((Below.refl _ _).alloc (Nat.le_refl _) _)).grown (hown2.alloc _) hgrow⟩, hB3⟩
          case measure => simp [intOf]; omega
      · have hkk : k = m := by omega
        subst hkk
        go_wp2
        go_returns
        have e : fewN k cs = fewN k (cs.take k) := by unfold fewN; rw [List.take_take, Nat.min_self]
        exact ⟨_, rfl, by rw [e]; exact hR, hB⟩
    · have hkk : k = cs.length := by omega
      subst hkk
      rw [List.take_length] at hR
      go_wp2
      go_returns
      exact ⟨_, rfl, hR, hB⟩
theorem few36_nil (m : Nat) (p : Option Addr) (cap : Nat) (w : World) : Calls Tryz.prog 18 #[.slice p 0 cap, .int .i64 m] w fun e w' => ∃ v, e = .returned v ∧ ORow w w.heap.size w' v (fewN m []) ∧ Below w.heap.size w w' := by
  go_enter Tryz.func18, Tryz.ntmps18
  go_wp2
  refine wp_loop_rounds 1 ?_
  rw [rounds_succ]
  go_wp2
  go_returns
  exact ⟨_, rfl, (by rw [fewN_nil]; exact ORow.nil _ _ _), Below.refl _ _⟩
theorem few36_any (m : Nat) (hm : m ≤ 24) (p : Option Addr) (cap : Nat) (cs : List CallV) (w : World) (hA : ArgRow w p cs) : Calls Tryz.prog 18 #[.slice p cs.length cap, .int .i64 m] w fun e w' => ∃ v, e = .returned v ∧ ORow w w.heap.size w' v (fewN m cs) ∧ Below w.heap.size w w' := by
  rcases hA with rfl | ⟨b, off, rfl, h2, h3, h4, h5⟩
  · exact few36_nil m p cap w
  · exact few36_some m hm b off cap cs w h2 h3 h4 fun c hc => (h5 c hc).2
theorem fewN_mem {m : Nat} {cs : List CallV} {x : CallV} (h : x ∈ fewN m cs) : ∃ c ∈ cs, x = (cut100 c).pure := by
  unfold fewN at h
  obtain ⟨c, hc, rfl⟩ := List.mem_map.1 h
  exact ⟨c, List.mem_of_mem_take hc, rfl⟩
theorem fewN_ok {w : World} {p : Option Addr} {m : Nat} {cs : List CallV} (hA : ArgRow w p cs) : ∀ c ∈ fewN m cs, c.Ok := fun c hc => by
  obtain ⟨d, hd, rfl⟩ := fewN_mem hc
  rcases hA with rfl | ⟨_, _, _, _, _, _, h⟩
  · cases hd
  · exact cut_ok (h d hd).1
theorem few36_h (m : Nat) (hm : m ≤ 24) (p : Option Addr) (cap : Nat) (cs : List CallV) (w : World) (hA : ArgRow w p cs) :
    Calls Tryz.prog 18 #[.slice p cs.length cap, .int .i64 m] w fun e w' => ∃ p' cap' hs, e = .returned (.slice p' hs.length cap') ∧ hs.map CallV.pure = fewN m cs ∧ HRow w' p' cap' hs ∧ w'.ownsRow w.heap.size 56 27 (.slice p' hs.length cap') hs.length (callsL hs) ∧ Below w.heap.size w w' := by
  refine (few36_any m hm p cap cs w hA).mono ?_
  rintro e w' ⟨v, rfl, ⟨hs, h1, h2, h3⟩, hB⟩
  obtain ⟨p', cap', hv, hC⟩ := crow_of_own h2
  subst hv
  refine ⟨p', cap', hs, rfl, h1, ⟨hC, fun c hc => (h3 c hc).at, fun c hc => ?_, ?_⟩, h2, hB⟩
  · have hmm : c.pure ∈ fewN m cs := by rw [← h1]; exact List.mem_map_of_mem hc
    exact pure_ok (d := c.pure) rfl (fewN_ok hA _ hmm)
  · have := congrArg List.length h1
    rw [List.length_map] at this
    have := fewN_len m cs
    omega
end Go.Proofs.YtdeiocppghhfdaaGreat.Lin
namespace Go.Proofs.YtdeiocppghhfdaaGreat.Lin
set_option linter.unusedVariables false
set_option linter.unusedSimpArgs false
open Go.RowKit Go.Lib Go.Shelf
open Hs
open KitI (iv IRow own_below)
attribute [local go_sem, local simp] Hs.callL_0 Hs.callL_1 Hs.callL_2 Hs.callL_3 Hs.callL_4 Hs.callL_5 Hs.callL_6 Hs.callL_7 Hs.callL_8 Hs.callL_9 Hs.callL_10 Hs.callL_11 Hs.callL_12 Hs.callL_13 Hs.callL_14 Hs.callL_15 Hs.callL_16 Hs.callL_17 Hs.callL_18 Hs.callL_19 Hs.callL_20 Hs.callL_21 Hs.callL_22 Hs.callL_23 Hs.callL_24 Hs.callL_25 Hs.callL_26 Hs.resL_0 Hs.resL_1 Hs.resL_2 Hs.resL_3 Hs.resL_4 Hs.resL_5 Hs.resL_6 Hs.resL_7 Hs.resL_8 Hs.resL_9 Hs.resL_10 Hs.resL_11 Hs.resL_12 Hs.callG_0 Hs.callG_1 Hs.callG_2 Hs.callG_3 Hs.callG_4 Hs.callG_5 Hs.callG_6 Hs.callG_7 Hs.callG_8 Hs.callG_9 Hs.callG_10 Hs.callG_11 Hs.callG_12 Hs.callG_13 Hs.callG_14 Hs.callG_15 Hs.callG_16 Hs.callG_17 Hs.callG_18 Hs.callG_19 Hs.callG_20 Hs.callG_21 Hs.callG_22 Hs.callG_23 Hs.callG_24 Hs.callG_25 Hs.callG_26 Hs.resG_0 Hs.resG_1 Hs.resG_2 Hs.resG_3 Hs.resG_4 Hs.resG_5 Hs.resG_6 Hs.resG_7 Hs.resG_8 Hs.resG_9 Hs.resG_10 Hs.resG_11 Hs.resG_12 Hs.callL_len Hs.resL_len
attribute [local go_sem ↓] Hs.loadCall_eq Hs.loadRes_eq
attribute [local go_sem] Hs.ld_new Hs.ld_first Hs.ld_second Hs.ldr_new Hs.st_new
def smallC (n : Nat) (c : CfgV) : CfgV := { c with text := c.text.extract 0 (min c.text.size n) }
set_option maxRecDepth 100000 in
set_option maxHeartbeats 2000000 in
theorem small36_any (c : CfgV) (w : World) : Calls Tryz.prog 17 #[c.v] w fun e w' => e = .returned (smallC 100 c).v ∧ Below w.heap.size w w' := by
  have hm0 : 0 ≤ min (c.text.size : Int) 100 := by omega
  have hm1 : min (c.text.size : Int) 100 ≤ c.text.size := by omega
  have hmn : (min (c.text.size : Int) 100).toNat = min c.text.size 100 := by omega
  unfold CfgV.v smallC
  go_enter Tryz.func17, Tryz.ntmps17
  go_wp2
  exact ⟨rfl, _, results_cell_row rfl _ _ _ _ _ _ _ rfl (by rw [← World.size_alloc]; exact heap_alloc_new _ _) Tryz.underlying24 rfl (by kernel_rfl), rfl, below2 _ _ _⟩
def cfg36 : CfgV := ⟨16, 9, 2, 1, 2, 2, 2, ⟨#[97, 98]⟩⟩
theorem config36_any (w : World) : Calls Tryz.prog 31 #[] w fun e w' => e = .returned cfg36.v ∧ Below w.heap.size w w' := by
  go_enter Tryz.func31, Tryz.ntmps31
  go_wp2
  exact ⟨rfl, _, results_cell_row rfl _ _ _ _ _ _ _ rfl (heap_alloc_new _ _) Tryz.underlying24 rfl (by kernel_rfl), rfl, (Below.refl _ _).alloc (Nat.le_refl _) _⟩
def zeroC : CallV := { thread := 0, index := 0, okind := 0, oslot := 0, oat := 0, on := 0, oid := 0, ograv := 0, otext := ⟨#[]⟩, invoked := 0, took := 0, rank := 0, answered := 0, steps := 0, err := 0, rev := 0, rslot := 0, rat := 0, rgrav := 0, rtext := ⟨#[]⟩, mb := 0, mr := 0, ml := 0, ik := 0, ifrom := 0, ito := 0, ps := [], da := none, dc := 0 }
def ex36 (a b : Int) : List CallV := [{ zeroC with okind := 1, oat := 1, otext := ⟨#[120]⟩, took := 5, answered := 5, steps := 2, rev := a }, { zeroC with thread := 1, okind := 5, invoked := 1, took := 4, answered := 4, steps := 2, rev := b }, { zeroC with thread := 1, index := 1, okind := 2, on := 1, invoked := 6, took := -1, answered := -1 }]
theorem f36a : findP cfg36 (ex36 1 0) = ([1, 0], true, 0) := by decide +kernel
theorem f36b : (findP cfg36 (ex36 2 0)).2 = (false, 0) := by decide +kernel
theorem f36c : findP cfg36 (ex36 1 1) = ([0, 1], true, 0) := by decide +kernel
theorem c36 : countP cfg36 100 (ex36 1 0) = (2, 0) := by decide +kernel
theorem v36a : validE cfg36 [1, 0, 2] (ex36 1 0) = 0 := by decide +kernel
theorem v36b : validE cfg36 [0, 1] (ex36 1 0) = 26 := by decide +kernel
theorem v36c : validE cfg36 [1] (ex36 1 0) = 26 := by decide +kernel
theorem v36d : validE cfg36 [2, 1, 0] (ex36 1 0) = 26 := by decide +kernel
theorem ok36 (a b : Int) : ∀ c ∈ ex36 a b, c.Ok := by
  intro c hc
  simp only [ex36, List.mem_cons, List.not_mem_nil, or_false] at hc
  rcases hc with rfl | rfl | rfl <;> constructor <;> simp [zeroC]
theorem ps36 (a b : Int) : ∀ c ∈ ex36 a b, c.ps.length ≤ 1000000 := by
  intro c hc
  simp only [ex36, List.mem_cons, List.not_mem_nil, or_false] at hc
  rcases hc with rfl | rfl | rfl <;> simp [zeroC]
def Ex36 (W : World) (B : Nat) (a b : Int) : Prop := W.heap[B]? = some (.cells (callsL (ex36 a b)).toArray 56 (0, 0))
set_option maxRecDepth 100000 in
set_option maxHeartbeats 1000000 in
theorem example36_any (w : World) : Calls Tryz.prog 30 #[] w fun e w' => e = .returned (.slice (some ⟨w.heap.size, 0, none⟩) 3 3) ∧ Ex36 w' w.heap.size 1 0 ∧ Below w.heap.size w w' := by
  go_enter Tryz.func30, Tryz.ntmps30
  go_wp2
  go_returns
  exact ⟨rfl, (heap_alloc_new _ _).trans (congrArg some (by kernel_rfl)), (Below.refl _ _).alloc (Nat.le_refl _) _⟩
theorem Ex36.crow {W : World} {B : Nat} {a b : Int} (h : Ex36 W B a b) : CRow W (some ⟨B, 0, none⟩) 3 (ex36 a b) := .inr ⟨B, 0, rfl, Nat.le_refl 3, (Array.getElem?_eq_some_iff.1 h).1, fun j u hj => by rw [Nat.zero_add, blk_cell h]; exact hj⟩
theorem Ex36.on {W W' : World} {B : Nat} {a b : Int} (h : Ex36 W B a b) (hb : Below W.heap.size W W') : Ex36 W' B a b := blk_below h hb (Array.getElem?_eq_some_iff.1 h).1
end Go.Proofs.YtdeiocppghhfdaaGreat.Lin
namespace Go.Proofs.YtdeiocppghhfdaaGreat.Lin
set_option linter.unusedVariables false
set_option linter.unusedSimpArgs false
open Go.RowKit Go.Lib Go.Shelf
open Hs
open KitI (iv IRow own_below)
attribute [local go_sem, local simp] Hs.callL_0 Hs.callL_1 Hs.callL_2 Hs.callL_3 Hs.callL_4 Hs.callL_5 Hs.callL_6 Hs.callL_7 Hs.callL_8 Hs.callL_9 Hs.callL_10 Hs.callL_11 Hs.callL_12 Hs.callL_13 Hs.callL_14 Hs.callL_15 Hs.callL_16 Hs.callL_17 Hs.callL_18 Hs.callL_19 Hs.callL_20 Hs.callL_21 Hs.callL_22 Hs.callL_23 Hs.callL_24 Hs.callL_25 Hs.callL_26 Hs.resL_0 Hs.resL_1 Hs.resL_2 Hs.resL_3 Hs.resL_4 Hs.resL_5 Hs.resL_6 Hs.resL_7 Hs.resL_8 Hs.resL_9 Hs.resL_10 Hs.resL_11 Hs.resL_12 Hs.callG_0 Hs.callG_1 Hs.callG_2 Hs.callG_3 Hs.callG_4 Hs.callG_5 Hs.callG_6 Hs.callG_7 Hs.callG_8 Hs.callG_9 Hs.callG_10 Hs.callG_11 Hs.callG_12 Hs.callG_13 Hs.callG_14 Hs.callG_15 Hs.callG_16 Hs.callG_17 Hs.callG_18 Hs.callG_19 Hs.callG_20 Hs.callG_21 Hs.callG_22 Hs.callG_23 Hs.callG_24 Hs.callG_25 Hs.callG_26 Hs.resG_0 Hs.resG_1 Hs.resG_2 Hs.resG_3 Hs.resG_4 Hs.resG_5 Hs.resG_6 Hs.resG_7 Hs.resG_8 Hs.resG_9 Hs.resG_10 Hs.resG_11 Hs.resG_12 Hs.callL_len Hs.resL_len
attribute [local go_sem ↓] Hs.loadCall_eq Hs.loadRes_eq
attribute [local go_sem] Hs.ld_new Hs.ld_first Hs.ld_second Hs.ldr_new Hs.st_new
def lessZ : List Int → List Int → Bool
  | _, [] => false
  | [], _ :: _ => true
  | a :: r, b :: q => if a = b then lessZ r q else decide (a < b)
theorem lessZ_nil (b : List Int) : lessZ [] b = decide (0 < b.length) := by cases b <;> simp [lessZ]
theorem lessZ_cast : ∀ (a b : List Nat), lessZ (a.map fun (n : Nat) => (n : Int)) (b.map fun (n : Nat) => (n : Int)) = lessL a b
  | a, [] => by cases a <;> rfl
  | [], b :: q => rfl
  | a :: r, b :: q => by
    show (if (a : Int) = b then _ else _) = if a = b then _ else _
    by_cases h : a = b
    · rw [if_pos (by omega), if_pos h]; exact lessZ_cast r q
    · rw [if_neg (by omega), if_neg h]; exact decide_eq_decide.2 Int.ofNat_lt
set_option maxRecDepth 100000 in
set_option maxHeartbeats 2000000 in
theorem less_any (pa pb : Option Addr) (ca cb : Nat) (za zb : List Int) (w : World) (ha : IRd w pa za) (hb : IRd w pb zb) (hsa : za.length ≤ 1000000) (hsb : zb.length ≤ 1000000) :
    Calls Tryz.prog 32 #[.slice pa za.length ca, .slice pb zb.length cb] w fun e w' => e = .returned (.bool (lessZ za zb)) ∧ Below w.heap.size w w' := by
  go_enter Tryz.func32, Tryz.ntmps32
  go_wp2
  go_loopw [5] (fun i wr => ∃ k : Nat, i = .int .i64 k ∧ k ≤ za.length ∧ k ≤ zb.length ∧ Below w.heap.size w wr ∧ lessZ (za.drop k) (zb.drop k) = lessZ za zb) (fun i wr => za.length - (intOf i).toNat)
  case atStart => exact ⟨0, rfl, by omega, by omega, Below.refl _ _, rfl⟩
  case round =>
    obtain ⟨k, rfl, hka, hkb, hB, hl⟩ := hrel
    have Hl := Lib.hid hl
    clear hl
    by_cases hla : k < za.length
    · by_cases hlb : k < zb.length
      · obtain ⟨x, hx⟩ : ∃ x, za[k]? = some x := ⟨_, List.getElem?_eq_getElem hla⟩
        obtain ⟨y, hy⟩ : ∃ y, zb[k]? = some y := ⟨_, List.getElem?_eq_getElem hlb⟩
        obtain ⟨b1, o1, rfl, hc1⟩ := irow_at ha (by omega)
        obtain ⟨b2, o2, rfl, hc2⟩ := irow_at hb (by omega)
        have hB1 := hB.drew
        have e1 := hc1 wr hB k _ hx
        have e2 := hc2 wr hB k _ hy
        have e1' := hc1 wr.drew hB1 k _ hx
        have e2' := hc2 wr.drew hB1 k _ hy
        have hda : za.drop k = x :: za.drop (k + 1) := by rw [List.drop_eq_getElem_cons hla]; congr 1; exact Option.some.inj ((List.getElem?_eq_getElem hla).symm.trans hx)
        have hdb : zb.drop k = y :: zb.drop (k + 1) := by rw [List.drop_eq_getElem_cons hlb]; congr 1; exact Option.some.inj ((List.getElem?_eq_getElem hlb).symm.trans hy)
        have hstep : lessZ za zb = if x = y then lessZ (za.drop (k + 1)) (zb.drop (k + 1)) else decide (x < y) := by rw [← Hl.out, hda, hdb]; rfl
        have Hs := Lib.hid hstep
        clear hstep hda hdb hc1 hc2 hx hy
        by_cases hxy : x = y
        · have Hxy := Lib.hid hxy
          have hd : (x != y) = false := by simpa using hxy
          clear hxy
          go_wp2
          refine wp_region_noPanic ?_
          refine wp_region_held_drew (S := fun W => W.cell? ⟨b1, o1 + k, none⟩ = some (.int .i64 x) ∧ W.cell? ⟨b2, o2 + k, none⟩ = some (.int .i64 y)) (by kernel_rfl) ?_ (fun hHeld => ?_)
          · first | exact ⟨e1, e2⟩ | exact ⟨e1', e2'⟩
          iterate 9 (((first | refine np_n ?_ ?_ ?_ | refine np_t 0 ?_ ?_ ?_); rotate_left 1; (· (intro w hSw; (try dsimp only at hSw); go_simp; all_goals with_reducible rfl)); (try simp only [nSO])))
          refine wpAnyH_done (by kernel_rfl) ?_ _
          refine NoPanic.normal ?_
          go_wp2
          go_roundw
          case rel => exact ⟨k + 1, by go_num, by omega, by omega, hB1, by rw [Hs.out, if_pos Hxy.out]⟩
          case measure => simp [intOf]; omega
        · have Hxy := Lib.hid hxy
          have hd : (x != y) = true := by simpa using hxy
          clear hxy
          have hB2 := hB1.drew
          go_wp2
          refine wp_region_noPanic ?_
          refine wp_region_held_drew (S := fun W => W.cell? ⟨b1, o1 + k, none⟩ = some (.int .i64 x) ∧ W.cell? ⟨b2, o2 + k, none⟩ = some (.int .i64 y)) (by kernel_rfl) ?_ (fun hHeld => ?_)
          · first | exact ⟨e1, e2⟩ | exact ⟨e1', e2'⟩
          iterate 9 (((first | refine np_n ?_ ?_ ?_ | refine np_t 0 ?_ ?_ ?_); rotate_left 1; (· (intro w hSw; (try dsimp only at hSw); go_simp; all_goals with_reducible rfl)); (try simp only [nSO])))
          refine wpAnyH_done (by kernel_rfl) ?_ _
          refine NoPanic.normal ?_
          go_wp2
          refine wp_region_noPanic ?_
          refine wp_region_held_drew (S := fun W => W.cell? ⟨b1, o1 + k, none⟩ = some (.int .i64 x) ∧ W.cell? ⟨b2, o2 + k, none⟩ = some (.int .i64 y)) (by kernel_rfl) ?_ (fun hHeld => ?_)
          · first | exact ⟨e1, e2⟩ | exact ⟨e1', e2'⟩
          iterate 10 (((first | refine np_n ?_ ?_ ?_ | refine np_t 0 ?_ ?_ ?_); rotate_left 1; (· (intro w hSw; (try dsimp only at hSw); go_simp; all_goals with_reducible rfl)); (try simp only [nSO])))
          refine wpAnyH_done (by kernel_rfl) ?_ _
          refine NoPanic.normal ?_
          go_wp2
          go_returns
          exact ⟨by rw [Hs.out, if_neg Hxy.out]; rfl, hB2⟩
      · have hkk : k = zb.length := by omega
        subst hkk
        go_wp2
        go_returns
        have h1 := Hl.out
        rw [List.drop_length] at h1
        refine ⟨?_, hB⟩
        rw [← h1]
        have h2 : lessZ (za.drop zb.length) [] = false := by cases za.drop zb.length <;> rfl
        rw [h2]
        have h3 : decide (za.length < zb.length) = false := by simp; omega
        (try rw [← h3]); simp; try omega
    · have hkk : k = za.length := by omega
      subst hkk
      go_wp2
      go_returns
      have h1 := Hl.out
      rw [List.drop_length, lessZ_nil, List.length_drop] at h1
      refine ⟨?_, hB⟩
      rw [← h1]
      simp; try omega
end Go.Proofs.YtdeiocppghhfdaaGreat.Lin
namespace Go.Proofs.YtdeiocppghhfdaaGreat.Lin
set_option linter.unusedVariables false
set_option linter.unusedSimpArgs false
open Go.RowKit Go.Lib Go.Shelf
open Hs
open KitI (iv IRow own_below)
attribute [local go_sem, local simp] Hs.callL_0 Hs.callL_1 Hs.callL_2 Hs.callL_3 Hs.callL_4 Hs.callL_5 Hs.callL_6 Hs.callL_7 Hs.callL_8 Hs.callL_9 Hs.callL_10 Hs.callL_11 Hs.callL_12 Hs.callL_13 Hs.callL_14 Hs.callL_15 Hs.callL_16 Hs.callL_17 Hs.callL_18 Hs.callL_19 Hs.callL_20 Hs.callL_21 Hs.callL_22 Hs.callL_23 Hs.callL_24 Hs.callL_25 Hs.callL_26 Hs.resL_0 Hs.resL_1 Hs.resL_2 Hs.resL_3 Hs.resL_4 Hs.resL_5 Hs.resL_6 Hs.resL_7 Hs.resL_8 Hs.resL_9 Hs.resL_10 Hs.resL_11 Hs.resL_12 Hs.callG_0 Hs.callG_1 Hs.callG_2 Hs.callG_3 Hs.callG_4 Hs.callG_5 Hs.callG_6 Hs.callG_7 Hs.callG_8 Hs.callG_9 Hs.callG_10 Hs.callG_11 Hs.callG_12 Hs.callG_13 Hs.callG_14 Hs.callG_15 Hs.callG_16 Hs.callG_17 Hs.callG_18 Hs.callG_19 Hs.callG_20 Hs.callG_21 Hs.callG_22 Hs.callG_23 Hs.callG_24 Hs.callG_25 Hs.callG_26 Hs.resG_0 Hs.resG_1 Hs.resG_2 Hs.resG_3 Hs.resG_4 Hs.resG_5 Hs.resG_6 Hs.resG_7 Hs.resG_8 Hs.resG_9 Hs.resG_10 Hs.resG_11 Hs.resG_12 Hs.callL_len Hs.resL_len
attribute [local go_sem ↓] Hs.loadCall_eq Hs.loadRes_eq
attribute [local go_sem] Hs.ld_new Hs.ld_first Hs.ld_second Hs.ldr_new Hs.st_new
theorem irow_own {w : World} {base n : Nat} {v : Value} {zs : List Nat} (h : w.ownsRow base tInt 1 v n (zs.map fun (x : Nat) => iv x)) (hn : n = zs.length) : IRow w v (zs.map fun (x : Nat) => (x : Int)) :=
  IRow.own (base := base) (e := tInt) (n := n) (by rw [List.map_map]; exact h) (by rw [List.length_map]; exact hn)
structure AwW (w W : World) (B : Nat) (a b : Int) : Prop where
  row : Ex36 W B a b
  bl : Below w.heap.size w W
theorem AwW.on {w W W' : World} {B : Nat} {a b : Int} (h : AwW w W B a b) (hb : Below W.heap.size W W') : AwW w W' B a b := ⟨h.row.on hb, h.bl.trans (hb.mono h.bl.size)⟩
theorem below_alloc (W : World) (o : Obj) : Below W.heap.size W (W.alloc o) := (Below.refl _ _).alloc (Nat.le_refl _) _
section
variable {W : World} {B : Nat}
theorem aFind1 (h : Ex36 W B 1 0) : Calls Tryz.prog 19 #[cfg36.v, .slice (some ⟨B, 0, none⟩) 3 3] W fun e w' => ∃ p q, e = .returned (.tuple #[.slice p 2 q, .bool true, .int .i64 0]) ∧ IRow w' (.slice p 2 q) [1, 0] ∧ Below W.heap.size W w' := by
  refine (find_any cfg36 _ 3 (ex36 1 0) W h.crow (by decide) (ok36 1 0) (ps36 1 0)).mono ?_
  rintro e w' ⟨v, he, hO, hb⟩
  rw [f36a] at he hO
  obtain ⟨p, q, rfl⟩ := own_slice hO
  exact ⟨p, q, he, irow_own hO rfl, hb⟩
theorem aFind2 (h : Ex36 W B 1 1) : Calls Tryz.prog 19 #[cfg36.v, .slice (some ⟨B, 0, none⟩) 3 3] W fun e w' => ∃ p q, e = .returned (.tuple #[.slice p 2 q, .bool true, .int .i64 0]) ∧ IRow w' (.slice p 2 q) [0, 1] ∧ Below W.heap.size W w' := by
  refine (find_any cfg36 _ 3 (ex36 1 1) W h.crow (by decide) (ok36 1 1) (ps36 1 1)).mono ?_
  rintro e w' ⟨v, he, hO, hb⟩
  rw [f36c] at he hO
  obtain ⟨p, q, rfl⟩ := own_slice hO
  exact ⟨p, q, he, irow_own hO rfl, hb⟩
theorem aCheck (h : Ex36 W B 2 0) : Calls Tryz.prog 23 #[cfg36.v, .slice (some ⟨B, 0, none⟩) 3 3] W fun e w' => e = .returned (.tuple #[.bool false, .int .i64 0]) ∧ Below W.heap.size W w' := by
  have := check_l cfg36 _ 3 (ex36 2 0) W h.crow (by decide) (ok36 2 0) (ps36 2 0)
  rwa [f36b] at this
theorem aCount (h : Ex36 W B 1 0) : Calls Tryz.prog 21 #[cfg36.v, .int .i64 100, .slice (some ⟨B, 0, none⟩) 3 3] W fun e w' => e = .returned (.tuple #[.int .i64 2, .int .i64 0]) ∧ Below W.heap.size W w' := by
  have := count_any cfg36 100 _ 3 (ex36 1 0) W h.crow (by decide) (ok36 1 0) (ps36 1 0)
  rwa [c36] at this
theorem aValid (h : Ex36 W B 1 0) (o : List Int) (r : Int) (g : Nat) (hg : IRow W (.slice (some ⟨g, 0, none⟩) o.length o.length) o) (ho : o.length ≤ 10) (hr : validE cfg36 o (ex36 1 0) = r) :
    Calls Tryz.prog 28 #[cfg36.v, .slice (some ⟨g, 0, none⟩) o.length o.length, .slice (some ⟨B, 0, none⟩) 3 3] W fun e w' => e = .returned (.int .i64 r) ∧ Below W.heap.size W w' := by
  have := valid_any cfg36 _ (some ⟨g, 0, none⟩) 3 o.length (ex36 1 0) o W h.crow (IRd.of hg) (by decide) (by omega) (ok36 1 0) (ps36 1 0)
  rwa [hr] at this
theorem eqiT (va vb : Value) (zs : List Int) (ha : IRow W va zs) (hb : IRow W vb zs) (hs : zs.length ≤ 1000000) : Calls Tryz.prog 24 #[va, vb] W fun e w' => e = .returned (.bool true) ∧ Below W.heap.size W w' := by
  have h := KitI.eqi_any W va vb zs zs ha hb hs hs
  rwa [decide_eq_true rfl] at h
end
theorem Ex36.c15 {W : World} {B : Nat} {a b : Int} (h : Ex36 W B a b) : W.cell? ⟨B, 15, none⟩ = some (.int .i64 a) := blk_cell h 15
theorem Ex36.c42 {W : World} {B : Nat} {a b : Int} (h : Ex36 W B a b) : W.cell? ⟨B, 42, none⟩ = some (.int .i64 b) := blk_cell h 42
theorem Ex36.s15 {W : World} {B : Nat} {a b : Int} (h : Ex36 W B a b) (x : Int) : Ex36 (W.setCell ⟨B, 15, none⟩ (.int .i64 x)) B x b := blk_set h 15 (.int .i64 x)
theorem Ex36.s42 {W : World} {B : Nat} {a b : Int} (h : Ex36 W B a b) (x : Int) : Ex36 (W.setCell ⟨B, 42, none⟩ (.int .i64 x)) B a x := blk_set h 42 (.int .i64 x)
attribute [local irreducible] callL cfg36
set_option maxRecDepth 100000 in
set_option maxHeartbeats 2000000 in
theorem awake36_any (w : World) : Calls Tryz.prog 26 #[] w fun e w' => e = .returned (.bool true) ∧ Below w.heap.size w w' := by
  go_enter Tryz.func26, Tryz.ntmps26
  go_wp2_with fail
  refine (example36_any w).mono ?_
  rintro e w1 ⟨rfl, hC, hB1⟩
  obtain ⟨B, hBB⟩ : ∃ B, w.heap.size = B := ⟨_, rfl⟩
  have hx : AwW w w1 B 1 0 := ⟨hBB ▸ hC, hB1⟩
  have HB := Lib.hid hBB
  clear hC hB1
  rw [hBB]
  clear hBB
  go_wp2_with fail
  refine (config36_any _).mono ?_
  rintro e w2 ⟨rfl, hb⟩
  replace hx := hx.on hb
  clear hb
  go_wp2_with fail
  refine (aFind1 hx.row).mono ?_
  rintro e w3 ⟨p1, q1, rfl, hI, hb⟩
  replace hx := hx.on hb
  clear hb
  go_wp2_with fail
  refine (config36_any _).mono ?_
  rintro e w4 ⟨rfl, hb⟩
  replace hx := hx.on hb
  replace hI := hI.on hb
  clear hb
  go_wp2_with fail
  refine (aCount hx.row).mono ?_
  rintro e w5 ⟨rfl, hb⟩
  replace hx := hx.on hb
  replace hI := hI.on hb
  clear hb
  go_wp2_with fail
  replace hx := hx.on (below_alloc w5 (.cells #[.int .i64 1, .int .i64 0] tInt))
  replace hI := hI.on (below_alloc w5 (.cells #[.int .i64 1, .int .i64 0] tInt))
  refine (eqiT _ _ [1, 0] hI (IRow.new [1, 0] _ _ 2 2 rfl rfl _) (by decide)).mono ?_
  rintro e w6 ⟨rfl, hb⟩
  replace hx := hx.on hb
  clear hb hI
  go_wp2_with fail
  refine (config36_any _).mono ?_
  rintro e w7 ⟨rfl, hb⟩
  replace hx := hx.on hb
  clear hb
  replace hx := hx.on (below_alloc w7 (.cells #[.int .i64 1, .int .i64 0, .int .i64 2] tInt))
  have hV := aValid hx.row [1, 0, 2] 0 w7.heap.size (IRow.new [1, 0, 2] _ _ 3 3 rfl rfl _) (by decide) v36a
  go_wp2_with fail
  refine hV.mono ?_
  rintro e w8 ⟨rfl, hb⟩
  replace hx := hx.on hb
  clear hb hV
  go_wp2_with fail
  refine (config36_any _).mono ?_
  rintro e w9 ⟨rfl, hb⟩
  replace hx := hx.on hb
  clear hb
  replace hx := hx.on (below_alloc w9 (.cells #[.int .i64 0, .int .i64 1] tInt))
  have hV := aValid hx.row [0, 1] 26 w9.heap.size (IRow.new [0, 1] _ _ 2 2 rfl rfl _) (by decide) v36b
  go_wp2_with fail
  refine hV.mono ?_
  rintro e w10 ⟨rfl, hb⟩
  replace hx := hx.on hb
  clear hb hV
  go_wp2_with fail
  refine (config36_any _).mono ?_
  rintro e w11 ⟨rfl, hb⟩
  replace hx := hx.on hb
  clear hb
  replace hx := hx.on (below_alloc w11 (.cells #[.int .i64 1] tInt))
  have hV := aValid hx.row [1] 26 w11.heap.size (IRow.new [1] _ _ 1 1 rfl rfl _) (by decide) v36c
  go_wp2_with fail
  refine hV.mono ?_
  rintro e w12 ⟨rfl, hb⟩
  replace hx := hx.on hb
  clear hb hV
  go_wp2_with fail
  refine (config36_any _).mono ?_
  rintro e w13 ⟨rfl, hb⟩
  replace hx := hx.on hb
  clear hb
  replace hx := hx.on (below_alloc w13 (.cells #[.int .i64 2, .int .i64 1, .int .i64 0] tInt))
  have hV := aValid hx.row [2, 1, 0] 26 w13.heap.size (IRow.new [2, 1, 0] _ _ 3 3 rfl rfl _) (by decide) v36d
  go_wp2_with fail
  refine hV.mono ?_
  rintro e w14 ⟨rfl, hb⟩
  replace hx := hx.on hb
  clear hb hV
  have hr := hx.row
  have r15 : w14.cell? ⟨B, 15, none⟩ = some (.int .i64 1) := hr.c15
  have f15 : w14.frozen? ⟨B, 15, none⟩ = false := blk_frozen hr 15
  have hx2 : AwW w (w14.setCell ⟨B, 15, none⟩ (.int .i64 2)) B 2 0 := ⟨hr.s15 2, hx.bl.setCell (p := ⟨B, 15, none⟩) (by rw [HB.out]; exact Nat.le_refl _) _⟩
  clear hx hr
  go_wp2_with fail
  refine (config36_any _).mono ?_
  rintro e w15 ⟨rfl, hb⟩
  replace hx2 := hx2.on hb
  clear hb
  go_wp2_with fail
  refine (aCheck hx2.row).mono ?_
  rintro e w16 ⟨rfl, hb⟩
  have hbl := (hx2.on hb).bl
  clear hb hx2
  go_wp2_with fail
  refine (example36_any _).mono ?_
  rintro e w17 ⟨rfl, hC, hb⟩
  have hge : B ≤ w16.heap.size := by have := hbl.size; have := HB.out; omega
  replace hbl := hbl.trans (hb.mono (by have := HB.out; omega))
  generalize w16.heap.size = g at *
  have hx : AwW w w17 g 1 0 := ⟨hC, hbl⟩
  clear hC hb hbl
  have hr := hx.row
  have r42 := hr.c42
  have f42 : w17.frozen? ⟨g, 42, none⟩ = false := blk_frozen hr 42
  have hx2 : AwW w (w17.setCell ⟨g, 42, none⟩ (.int .i64 1)) g 1 1 := ⟨hr.s42 1, hx.bl.setCell (p := ⟨g, 42, none⟩) (by rw [HB.out]; exact hge) _⟩
  clear hx hr
  go_wp2_with fail
  refine (config36_any _).mono ?_
  rintro e w18 ⟨rfl, hb⟩
  replace hx2 := hx2.on hb
  clear hb
  go_wp2_with fail
  refine (aFind2 hx2.row).mono ?_
  rintro e w19 ⟨p2, q2, rfl, hI, hb⟩
  have hbl := (hx2.on hb).bl
  clear hb hx2
  replace hI := hI.on (below_alloc w19 (.cells #[.int .i64 0, .int .i64 1] tInt))
  replace hbl := hbl.alloc hbl.size (.cells #[.int .i64 0, .int .i64 1] tInt)
  go_wp2_with fail
  refine (eqiT _ _ [0, 1] hI (IRow.new [0, 1] _ _ 2 2 rfl rfl _) (by decide)).mono ?_
  rintro e w20 ⟨rfl, hb⟩
  go_wp2_with fail
  go_returns
  exact ⟨rfl, hbl.trans (hb.mono hbl.size)⟩
end Go.Proofs.YtdeiocppghhfdaaGreat.Lin
