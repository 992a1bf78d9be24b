/- The reference of history: Prefix. -/
import Derived.Test.YtjinnlmmlbmodaaHrC
namespace Go.Proofs.Ytjinnlmmlbmodaa
open Go.RowKit Go.Lib Go.Shelf
open KitI (own_below)
attribute [local go_sem, local simp] callL_0 callL_1 callL_2 callL_3 callL_4 callL_5 callL_6 callL_7 callL_8 callL_9 callL_10 callL_11 callL_12 callL_13 callL_14 callL_15 callL_16 callL_17 callL_18 callL_19 callL_20 callL_21 callL_22 callL_23 callL_24 callL_25 callL_26 resL_0 resL_1 resL_2 resL_3 resL_4 resL_5 resL_6 resL_7 resL_8 resL_9 resL_10 resL_11 resL_12 callG_0 callG_1 callG_2 callG_3 callG_4 callG_5 callG_6 callG_7 callG_8 callG_9 callG_10 callG_11 callG_12 callG_13 callG_14 callG_15 callG_16 callG_17 callG_18 callG_19 callG_20 callG_21 callG_22 callG_23 callG_24 callG_25 callG_26 resG_0 resG_1 resG_2 resG_3 resG_4 resG_5 resG_6 resG_7 resG_8 resG_9 resG_10 resG_11 resG_12 callL_len resL_len
attribute [local go_sem ↓] loadCall_eq loadRes_eq
attribute [local go_sem] ld_new ld_first ld_second ldr_new st_new

attribute [local go_sem, local simp] fold_call callS_10 callS_11 callS_12 callS_13 callS_14 callS_15 callS_16 callS_17 callS_18 callS_19 callS_20 callS_21 callS_22 callS_23 callS_24 callS_25 callS_26
set_option linter.unusedSimpArgs false in
set_option maxRecDepth 100000 in
set_option maxHeartbeats 2000000 in
theorem refPrefix_some (b off cap : Nat) (s : Int) (cs : List CallV) (w : World) (hcap : cs.length ≤ cap) (hb : b < w.heap.size) (hC : CAt w b off cs) (hs : cs.length ≤ 1000000) (hok : ∀ c ∈ cs, c.Ok) (hd : ∀ c ∈ cs, DAt w c) :
    Calls Try.prog 32 #[.int .i64 s, .slice (some ⟨b, off, none⟩) cs.length cap] w (PrefPost w s cs) := by
  obtain ⟨i0, hi, hz0, hz1, hz2⟩ := info_parts infoC
  have ck := refCheck_any (some ⟨b, off, none⟩) cap cs w (.inr ⟨b, off, rfl, hcap, by omega, hC⟩) hs hok hd
  obtain ⟨k1, hk1⟩ : ∃ k1, (checkP cs).1 = k1 := ⟨_, rfl⟩
  rw [hk1] at ck
  rcases check_two cs with h0 | h22
  · rw [h0] at ck
    have H0 := Lib.hid h0
    clear h0 hk1
    go_enter Try.func32, Try.ntmps32
    go_wp2_with fail
    refine ck.mono ?_
    clear ck
    rintro e w1 ⟨rfl, hB1⟩
    by_cases hsm : s < -1
    · go_wp2
      go_returns
      exact .inr (.inl ⟨H0.out, hsm, rfl, hB1⟩)
    · have hs1 : -1 ≤ s := by omega
      have Hs1 := Lib.hid hs1
      clear hs1
      go_wp2
      go_loopw [8, 9] (fun o i wr => PfRel w w.heap.size s cs o i wr) (fun o i wr => cs.length - (intOf i).toNat)
      case atStart => exact ⟨0, rfl, by omega, ORow.nil _ _ _, hB1⟩
      case round =>
        clear hB1
        obtain ⟨k, rfl, hk, hR, hB⟩ := hrel
        by_cases hlt : k < cs.length
        · obtain ⟨c, hc⟩ : ∃ c, cs[k]? = some c := ⟨_, List.getElem?_eq_getElem hlt⟩
          have hld := (hC.below hB hb).load hc
          have hc9 := hc
          have hst := pref_step (s := s) hc
          have hle := pref_len s (cs.take k)
          rw [List.length_take, Nat.min_eq_left hk] at hle
          have hdc := (hd c (List.mem_of_getElem? hc))
          generalize prefS s (cs.take k) = L at *
          have Hst := Lib.hid hst
          clear hst hc
          have q9 := (hC.below hB hb).cell hc9 9 (by omega)
          rw [callL_9] at q9
          have Hdummy := Lib.hid hc9
          clear hc9 Hdummy
          by_cases hq : s < c.invoked
          · have hR2 := hR
            have hq2 : ¬ c.invoked ≤ s := by omega
            have Hq := Lib.hid hq2
            clear hq2
            go_wp2
            go_roundw
            case rel => exact ⟨k + 1, by go_num, by omega, by rw [Hst.out, if_neg Hq.out, List.append_nil]; exact hR2, hB⟩
            case measure => simp [intOf]; omega
          · have hq2 : c.invoked ≤ s := by omega
            have Hq := Lib.hid hq2
            clear hq2
            have cp := copycall_any c wr (.inr (hdc.on hB))
            have hB5 := hB
            have hR2 := hR
            clear hdc hR hB
            go_wp2_with fail
            refine cp.mono ?_
            clear cp
            rintro e w2 ⟨c', rfl, hpu, hDc, hB2⟩
            have hsz : w.heap.size ≤ w2.heap.size := Nat.le_trans hB5.size hB2.size
            have hBw := hB5.trans (hB2.mono hB5.size)
            have hDw := hDc.mono hB5.size
            have hR3 := hR2.on hB2
            have hld2 := ld_new w2 c'
            clear hR2 hB2 hB5 hDc hld q9
            obtain ⟨cs', hm, hown2, hD2⟩ := hR3
            have hlen : cs'.length ≤ cs.length := by rw [← List.length_map (f := CallV.pure), hm]; omega
            have Hlen := Lib.hid hlen
            clear hlen
            by_cases ha : s < c'.answered
            · by_cases ht : s < c'.took
              · have hcut : cutV s c' = cutT (cutA c') := by unfold cutV; rw [if_pos ht, if_pos ha]
                simp only [cutT, cutA, clrV] at hcut
                have Hcut := Lib.hid hcut
                clear hcut
                have hcw := cut_own (s := s) hDw
                have hcp := cut_pure (s := s) hpu
                go_wp2_with (at_builtin; (try simp only [fold_call]); rw [← Hcut.out]; clear ha ht; generalize cutV s c' = cN at *; have hl1 := callL_len cN; have ho1 := ones_call cN; have hn1 := cells_new1 w2 (.cells (callL cN).toArray 34) (callL cN) 34; refine wpList_append_own _ rfl _ _ 37 rfl w.heap.size 34 i0 _ 27 240 Try.underlying37 hi hz0 hz1 hz2 rfl (by decide) _ _ _ rfl ((hown2.alloc _).alloc _) ⟨_, 0, none⟩ 1 1 (callL cN) rfl (by rw [hl1]) hn1 ho1 (by have := Hlen.out; unfold maxLen; omega) (by have := Hlen.out; omega) (by simp; omega) ?_; intro v' w3 hown' hgrow _)
                have hB3 := ((hBw.alloc hsz _).alloc (by simp; omega) _).grown hgrow (by simp; omega) fun k hk => (hown2.lt k hk).1
                go_roundw
                case rel => exact ⟨k + 1, by go_num, by omega, ⟨cs' ++ [cN], by rw [List.map_append, hm, Hst.out, if_pos Hq.out, List.map_singleton, hcp], by rw [callsL_snoc, List.length_append]; exact hown', fun c hc => by
                    rcases List.mem_append.1 hc with hc | hc
                    · exact (((hD2 c hc).on ((Below.refl _ _).alloc (Nat.le_refl _) _)).on ((Below.refl _ _).alloc (Nat.le_refl _) _)).grown ((hown2.alloc _).alloc _) hgrow
                    · rw [List.mem_singleton.1 hc]; exact ((hcw.on ((Below.refl _ _).alloc (Nat.le_refl _) _)).on ((Below.refl _ _).alloc (Nat.le_refl _) _)).grown ((hown2.alloc _).alloc _) hgrow⟩, hB3⟩
                case measure => simp [intOf]; omega
              · have hcut : cutV s c' = cutA c' := by unfold cutV; rw [if_neg ht, if_pos ha]
                simp only [cutT, cutA, clrV] at hcut
                have Hcut := Lib.hid hcut
                clear hcut
                have hcw := cut_own (s := s) hDw
                have hcp := cut_pure (s := s) hpu
                go_wp2_with (at_builtin; (try simp only [fold_call]); rw [← Hcut.out]; clear ha ht; generalize cutV s c' = cN at *; have hl1 := callL_len cN; have ho1 := ones_call cN; have hn1 := cells_new1 w2 (.cells (callL cN).toArray 34) (callL cN) 34; refine wpList_append_own _ rfl _ _ 37 rfl w.heap.size 34 i0 _ 27 240 Try.underlying37 hi hz0 hz1 hz2 rfl (by decide) _ _ _ rfl ((hown2.alloc _).alloc _) ⟨_, 0, none⟩ 1 1 (callL cN) rfl (by rw [hl1]) hn1 ho1 (by have := Hlen.out; unfold maxLen; omega) (by have := Hlen.out; omega) (by simp; omega) ?_; intro v' w3 hown' hgrow _)
                have hB3 := ((hBw.alloc hsz _).alloc (by simp; omega) _).grown hgrow (by simp; omega) fun k hk => (hown2.lt k hk).1
                go_roundw
                case rel => exact ⟨k + 1, by go_num, by omega, ⟨cs' ++ [cN], by rw [List.map_append, hm, Hst.out, if_pos Hq.out, List.map_singleton, hcp], by rw [callsL_snoc, List.length_append]; exact hown', fun c hc => by
                    rcases List.mem_append.1 hc with hc | hc
                    · exact (((hD2 c hc).on ((Below.refl _ _).alloc (Nat.le_refl _) _)).on ((Below.refl _ _).alloc (Nat.le_refl _) _)).grown ((hown2.alloc _).alloc _) hgrow
                    · rw [List.mem_singleton.1 hc]; exact ((hcw.on ((Below.refl _ _).alloc (Nat.le_refl _) _)).on ((Below.refl _ _).alloc (Nat.le_refl _) _)).grown ((hown2.alloc _).alloc _) hgrow⟩, hB3⟩
                case measure => simp [intOf]; omega
            · by_cases ht : s < c'.took
              · have hcut : cutV s c' = cutT c' := by unfold cutV; rw [if_pos ht, if_neg ha]
                simp only [cutT, cutA, clrV] at hcut
                have Hcut := Lib.hid hcut
                clear hcut
                have hcw := cut_own (s := s) hDw
                have hcp := cut_pure (s := s) hpu
                go_wp2_with (at_builtin; (try simp only [fold_call]); rw [← Hcut.out]; clear ha ht; generalize cutV s c' = cN at *; have hl1 := callL_len cN; have ho1 := ones_call cN; have hn1 := cells_new1 w2 (.cells (callL cN).toArray 34) (callL cN) 34; refine wpList_append_own _ rfl _ _ 37 rfl w.heap.size 34 i0 _ 27 240 Try.underlying37 hi hz0 hz1 hz2 rfl (by decide) _ _ _ rfl ((hown2.alloc _).alloc _) ⟨_, 0, none⟩ 1 1 (callL cN) rfl (by rw [hl1]) hn1 ho1 (by have := Hlen.out; unfold maxLen; omega) (by have := Hlen.out; omega) (by simp; omega) ?_; intro v' w3 hown' hgrow _)
                have hB3 := ((hBw.alloc hsz _).alloc (by simp; omega) _).grown hgrow (by simp; omega) fun k hk => (hown2.lt k hk).1
                go_roundw
                case rel => exact ⟨k + 1, by go_num, by omega, ⟨cs' ++ [cN], by rw [List.map_append, hm, Hst.out, if_pos Hq.out, List.map_singleton, hcp], by rw [callsL_snoc, List.length_append]; exact hown', fun c hc => by
                    rcases List.mem_append.1 hc with hc | hc
                    · exact (((hD2 c hc).on ((Below.refl _ _).alloc (Nat.le_refl _) _)).on ((Below.refl _ _).alloc (Nat.le_refl _) _)).grown ((hown2.alloc _).alloc _) hgrow
                    · rw [List.mem_singleton.1 hc]; exact ((hcw.on ((Below.refl _ _).alloc (Nat.le_refl _) _)).on ((Below.refl _ _).alloc (Nat.le_refl _) _)).grown ((hown2.alloc _).alloc _) hgrow⟩, hB3⟩
                case measure => simp [intOf]; omega
              · have hcut : cutV s c' = c' := by unfold cutV; rw [if_neg ht, if_neg ha]
                have Hcut := Lib.hid hcut
                clear hcut
                have hcw := cut_own (s := s) hDw
                have hcp := cut_pure (s := s) hpu
                go_wp2_with (at_builtin; (try simp only [fold_call]); rw [← Hcut.out]; clear ha ht; generalize cutV s c' = cN at *; have hl1 := callL_len cN; have ho1 := ones_call cN; have hn1 := cells_new1 w2 (.cells (callL cN).toArray 34) (callL cN) 34; refine wpList_append_own _ rfl _ _ 37 rfl w.heap.size 34 i0 _ 27 240 Try.underlying37 hi hz0 hz1 hz2 rfl (by decide) _ _ _ rfl ((hown2.alloc _).alloc _) ⟨_, 0, none⟩ 1 1 (callL cN) rfl (by rw [hl1]) hn1 ho1 (by have := Hlen.out; unfold maxLen; omega) (by have := Hlen.out; omega) (by simp; omega) ?_; intro v' w3 hown' hgrow _)
                have hB3 := ((hBw.alloc hsz _).alloc (by simp; omega) _).grown hgrow (by simp; omega) fun k hk => (hown2.lt k hk).1
                go_roundw
                case rel => exact ⟨k + 1, by go_num, by omega, ⟨cs' ++ [cN], by rw [List.map_append, hm, Hst.out, if_pos Hq.out, List.map_singleton, hcp], by rw [callsL_snoc, List.length_append]; exact hown', fun c hc => by
                    rcases List.mem_append.1 hc with hc | hc
                    · exact (((hD2 c hc).on ((Below.refl _ _).alloc (Nat.le_refl _) _)).on ((Below.refl _ _).alloc (Nat.le_refl _) _)).grown ((hown2.alloc _).alloc _) hgrow
                    · rw [List.mem_singleton.1 hc]; exact ((hcw.on ((Below.refl _ _).alloc (Nat.le_refl _) _)).on ((Below.refl _ _).alloc (Nat.le_refl _) _)).grown ((hown2.alloc _).alloc _) hgrow⟩, hB3⟩
                case measure => simp [intOf]; omega
        · have hkk : k = cs.length := by omega
          rw [hkk, List.take_length] at hR
          clear hkk
          go_wp2
          go_returns
          exact .inr (.inr ⟨H0.out, Hs1.out, _, rfl, hR, hB⟩)
  · rw [h22] at ck
    have H0 := Lib.hid h22
    clear h22 hk1
    go_enter Try.func32, Try.ntmps32
    go_wp2_with fail
    refine ck.mono ?_
    clear ck
    rintro e w1 ⟨rfl, hB1⟩
    go_wp2
    go_returns
    exact .inl ⟨H0.out, rfl, hB1⟩
set_option maxRecDepth 100000 in
theorem refPrefix_nil (s : Int) (w : World) : Calls Try.prog 32 #[.int .i64 s, .slice none 0 0] w (PrefPost w s []) := by
  have ck := refCheck_nil w
  rw [check_nilP] at ck
  by_cases hsm : s < -1
  · go_enter Try.func32, Try.ntmps32
    go_wp2_with fail
    refine ck.mono ?_
    rintro e w1 ⟨rfl, hB1⟩
    go_wp2
    go_returns
    exact .inr (.inl ⟨rfl, hsm, rfl, hB1⟩)
  · have hs1 : -1 ≤ s := by omega
    have Hs1 := Lib.hid hs1
    clear hs1
    go_enter Try.func32, Try.ntmps32
    go_wp2_with fail
    refine ck.mono ?_
    rintro e w1 ⟨rfl, hB1⟩
    go_wp2
    refine wp_loop_rounds 1 ?_
    rw [rounds_succ]
    go_wp2
    go_returns
    exact .inr (.inr ⟨rfl, Hs1.out, _, rfl, ORow.nil _ _ _, hB1⟩)
theorem refPrefix_any (p : Option Addr) (cap : Nat) (s : Int) (cs : List CallV) (w : World) (hC : CRow w p cap cs) (hs : cs.length ≤ 1000000) (hok : ∀ c ∈ cs, c.Ok) (hd : ∀ c ∈ cs, DAt w c) :
    Calls Try.prog 32 #[.int .i64 s, .slice p cs.length cap] w (PrefPost w s cs) := by
  rcases hC with ⟨rfl, rfl, rfl⟩ | ⟨b, off, rfl, h1, h2, h3⟩
  · exact refPrefix_nil s w
  · exact refPrefix_some b off cap s cs w h1 h2 h3 hs hok hd
end Go.Proofs.Ytjinnlmmlbmodaa
