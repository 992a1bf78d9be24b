/- few of the history laws. -/
import Derived.Test.YtjinnlmmlbmodaaHisT
namespace Go.Proofs.Ytjinnlmmlbmodaa
open Go.RowKit Go.Lib Go.Shelf
open KitI (own_below)
attribute [local go_sem, local simp] callL_0 callL_1 callL_2 callL_3 callL_4 callL_5 callL_6 callL_7 callL_8 callL_9 callL_10 callL_11 callL_12 callL_13 callL_14 callL_15 callL_16 callL_17 callL_18 callL_19 callL_20 callL_21 callL_22 callL_23 callL_24 callL_25 callL_26 resL_0 resL_1 resL_2 resL_3 resL_4 resL_5 resL_6 resL_7 resL_8 resL_9 resL_10 resL_11 resL_12 callG_0 callG_1 callG_2 callG_3 callG_4 callG_5 callG_6 callG_7 callG_8 callG_9 callG_10 callG_11 callG_12 callG_13 callG_14 callG_15 callG_16 callG_17 callG_18 callG_19 callG_20 callG_21 callG_22 callG_23 callG_24 callG_25 callG_26 resG_0 resG_1 resG_2 resG_3 resG_4 resG_5 resG_6 resG_7 resG_8 resG_9 resG_10 resG_11 resG_12 callL_len resL_len
attribute [local go_sem ↓] loadCall_eq loadRes_eq
attribute [local go_sem] ld_new ld_first ld_second ldr_new st_new

/-- The delta of a call lies in memory, however long it is. -/
def DRaw (w : World) (c : CallV) : Prop := (c.ps = [] ∧ (c.da = none → c.dc = 0)) ∨ ∃ b off, c.da = some ⟨b, off, none⟩ ∧ c.ps.length ≤ c.dc ∧ c.ps.length < 9223372036854775808 ∧ b < w.heap.size ∧ ∀ j u, (piecesL c.ps)[j]? = some u → w.cell? ⟨b, off + j, none⟩ = some u
theorem piecesL_pre (ps : List PieceV) (n j : Nat) (u : Value) (h : (piecesL (ps.take n))[j]? = some u) : (piecesL ps)[j]? = some u := by
  have e : piecesL ps = piecesL (ps.take n) ++ piecesL (ps.drop n) := by
    unfold piecesL
    rw [← List.flatMap_append, List.take_append_drop]
  rw [e, List.getElem?_append_left (List.getElem?_eq_some_iff.1 h).1]
  exact h
theorem DRaw.cut {w : World} {c : CallV} (h : DRaw w c) : (cut100 c).ps = [] ∨ DAt w (cut100 c) := by
  rcases h with ⟨h1, h2⟩ | ⟨b, off, h1, _, _, h2, h3⟩
  · exact .inl (by unfold cut100; rw [h1]; rfl)
  · exact .inr ⟨Nat.le_trans (cut100_len c) (by omega), .inr ⟨b, off, h1, h2, fun j u hj => h3 j u (piecesL_pre c.ps 100 j u hj)⟩⟩
theorem DRaw.on {w w' : World} {c : CallV} (h : DRaw w c) (hb : Below w.heap.size w w') : DRaw w' c := by
  rcases h with h | ⟨b, off, h1, h4, h5, h2, h3⟩
  · exact .inl h
  · exact .inr ⟨b, off, h1, h4, h5, Nat.lt_of_lt_of_le h2 hb.size, fun j u hj => by rw [hb.cell (p := ⟨b, off + j, none⟩) h2]; exact h3 j u hj⟩
theorem DRaw.of {w : World} {c : CallV} (h : DAt w c) (hc : c.ps.length ≤ c.dc) : DRaw w c := by
  rcases h with ⟨h0, ⟨h1, h2, h3⟩ | ⟨b, off, h1, h2, h3⟩⟩
  · exact .inl ⟨h2, fun _ => h3⟩
  · exact .inr ⟨b, off, h1, hc, by omega, h2, h3⟩
theorem call_cut (c : CallV) (n : Nat) (h : n = (c.ps.take 100).length) : (callL c).set 26 (.slice c.da n c.dc) = callL (cut100 c) := by subst h; rfl
def FewRel (w : World) (cs : List CallV) (o i : Value) (wr : World) : Prop :=
  ∃ k : Nat, i = .int .i64 k ∧ k ≤ 24 ∧ k ≤ cs.length ∧ ORow w w.heap.size wr o (fewL (cs.take k)) ∧ Below w.heap.size w wr
attribute [local go_sem, local simp] fold_call
set_option maxRecDepth 100000 in
set_option maxHeartbeats 1000000 in
theorem few_some (b off cap : Nat) (cs : List CallV) (w : World) (hb : b < w.heap.size) (hC : CAt w b off cs) (hs : cs.length < 9223372036854775808) (hd : ∀ c ∈ cs, DRaw w c) :
    Calls Try.prog 19 #[.slice (some ⟨b, off, none⟩) cs.length cap] w fun e w' => ∃ v, e = .returned v ∧ ORow w w.heap.size w' v (fewL cs) ∧ Below w.heap.size w w' := by
  obtain ⟨i0, hi, hz0, hz1, hz2⟩ := info_parts infoC
  go_enter Try.func19, Try.ntmps19
  go_wp2
  go_loopw [3, 4] (fun o i wr => FewRel w cs o i wr) (fun o i wr => cs.length - (intOf i).toNat)
  case atStart => exact ⟨0, rfl, by omega, by omega, ORow.nil _ _ _, Below.refl _ _⟩
  case round =>
    obtain ⟨k, rfl, hk, hk2, hR, hB⟩ := hrel
    by_cases hlt : k < cs.length
    · by_cases h24 : k < 24
      · obtain ⟨c, hc⟩ : ∃ c, cs[k]? = some c := ⟨_, List.getElem?_eq_getElem hlt⟩
        have hld := (hC.below hB hb).load hc
        have hst := few_step hc h24
        have hle := few_len (cs.take k)
        have hdc := (hd c (List.mem_of_getElem? hc)).on hB
        generalize fewL (cs.take k) = L at *
        have Hst := Lib.hid hst
        clear hst hc
        have hBa : Below wr.heap.size wr (wr.alloc (.cells (callL c).toArray 34)) := (Below.refl _ _).alloc (Nat.le_refl _) _
        have hBa2 : Below wr.heap.size wr (wr.alloc (.cells (callL (cut100 c)).toArray 34)) := (Below.refl _ _).alloc (Nat.le_refl _) _
        have cp := copycall_any (cut100 c) (wr.alloc (.cells (callL (cut100 c)).toArray 34)) ((hdc.on hBa2).cut)
        have hB5 := hB.trans (hBa2.mono hB.size)
        have hR2 := hR.on hBa2
        have hld2 := ld_new wr (cut100 c)
        clear hR
        rcases hdc with ⟨h2, h3⟩ | ⟨b', off', h1, h4, h5, h2, h3⟩
        · have hset := call_cut c (min (0 : Int) 100).toNat (by rw [h2]; rfl)
          have q26 := callL_26 c
          have g26 := callG_26 c
          rw [h2, List.length_nil] at q26 g26
          cases hda : c.da with
          | none =>
            rw [hda] at q26 g26 hset
            rw [h3 hda] at q26 g26 hset
            clear h2 h3 hda
            go_wp2_with fail
            refine cp.mono ?_
            clear cp hset q26 g26 hld2
            rintro e w2 ⟨c', rfl, hpu, hDc, hB2⟩
            have hsz : w.heap.size ≤ w2.heap.size := Nat.le_trans hB5.size hB2.size
            have hBw := hB5.trans (hB2.mono hB5.size)
            have hDw := hDc.mono hB5.size
            have hR3 := hR2.on hB2
            clear hR2 hB2 hB5 hDc hBa hBa2 hld
            obtain ⟨cs', hm, hown2, hD2⟩ := hR3
            have hlen : cs'.length ≤ 24 := by rw [← List.length_map (f := CallV.pure), hm]; exact hle
            have Hlen := Lib.hid hlen
            have hl1 := callL_len c'
            have ho1 := ones_call c'
            have hn1 := pieces_new w2 (callL c') 34
            clear hlen
            go_wp2_with (at_builtin; (try simp only [fold_call]); refine wpList_append_own _ rfl _ _ 37 rfl w.heap.size 34 i0 _ 27 240 Try.underlying37 hi hz0 hz1 hz2 rfl (by decide) _ _ _ rfl (hown2.alloc _) ⟨_, 0, none⟩ 1 1 (callL c') rfl (by rw [hl1]) hn1 ho1 (by have := Hlen.out; unfold maxLen; omega) (by have := Hlen.out; omega) (by simp; omega) ?_; intro v' w3 hown' hgrow _)
            have hB3 := (hBw.alloc hsz _).grown hgrow (by simp; omega) fun k hk => (hown2.lt k hk).1
            go_roundw
            case rel => exact ⟨k + 1, by go_num, by omega, by omega, ⟨cs' ++ [c'], by rw [List.map_append, hm, Hst.out, List.map_singleton, hpu], by rw [callsL_snoc, List.length_append]; exact hown', fun c hc => by
                rcases List.mem_append.1 hc with hc | hc
                · exact ((hD2 c hc).on ((Below.refl _ _).alloc (Nat.le_refl _) _)).grown (hown2.alloc _) hgrow
                · rw [List.mem_singleton.1 hc]; exact (hDw.on ((Below.refl _ _).alloc (Nat.le_refl _) _)).grown (hown2.alloc _) hgrow⟩, hB3⟩
            case measure => simp [intOf]; omega
          | some ad =>
            rw [hda] at q26 g26 hset
            clear h2 h3 hda
            go_wp2_with fail
            refine cp.mono ?_
            clear cp hset q26 g26 hld2
            rintro e w2 ⟨c', rfl, hpu, hDc, hB2⟩
            have hsz : w.heap.size ≤ w2.heap.size := Nat.le_trans hB5.size hB2.size
            have hBw := hB5.trans (hB2.mono hB5.size)
            have hDw := hDc.mono hB5.size
            have hR3 := hR2.on hB2
            clear hR2 hB2 hB5 hDc hBa hBa2 hld
            obtain ⟨cs', hm, hown2, hD2⟩ := hR3
            have hlen : cs'.length ≤ 24 := by rw [← List.length_map (f := CallV.pure), hm]; exact hle
            have Hlen := Lib.hid hlen
            have hl1 := callL_len c'
            have ho1 := ones_call c'
            have hn1 := pieces_new w2 (callL c') 34
            clear hlen
            go_wp2_with (at_builtin; (try simp only [fold_call]); refine wpList_append_own _ rfl _ _ 37 rfl w.heap.size 34 i0 _ 27 240 Try.underlying37 hi hz0 hz1 hz2 rfl (by decide) _ _ _ rfl (hown2.alloc _) ⟨_, 0, none⟩ 1 1 (callL c') rfl (by rw [hl1]) hn1 ho1 (by have := Hlen.out; unfold maxLen; omega) (by have := Hlen.out; omega) (by simp; omega) ?_; intro v' w3 hown' hgrow _)
            have hB3 := (hBw.alloc hsz _).grown hgrow (by simp; omega) fun k hk => (hown2.lt k hk).1
            go_roundw
            case rel => exact ⟨k + 1, by go_num, by omega, by omega, ⟨cs' ++ [c'], by rw [List.map_append, hm, Hst.out, List.map_singleton, hpu], by rw [callsL_snoc, List.length_append]; exact hown', fun c hc => by
                rcases List.mem_append.1 hc with hc | hc
                · exact ((hD2 c hc).on ((Below.refl _ _).alloc (Nat.le_refl _) _)).grown (hown2.alloc _) hgrow
                · rw [List.mem_singleton.1 hc]; exact (hDw.on ((Below.refl _ _).alloc (Nat.le_refl _) _)).grown (hown2.alloc _) hgrow⟩, hB3⟩
            case measure => simp [intOf]; omega
        · clear h3
          have hset := call_cut c (min (c.ps.length : Int) 100).toNat (by rw [List.length_take]; omega)
          have q26 := callL_26 c
          have g26 := callG_26 c
          rw [h1] at q26 g26 hset
          have hm1 : min (c.ps.length : Int) 100 ≤ (c.dc : Int) := by omega
          have hm0 : 0 ≤ min (c.ps.length : Int) 100 := by omega
          clear h1 h2
          go_wp2_with fail
          refine cp.mono ?_
          clear cp hset q26 g26 hld2
          rintro e w2 ⟨c', rfl, hpu, hDc, hB2⟩
          have hsz : w.heap.size ≤ w2.heap.size := Nat.le_trans hB5.size hB2.size
          have hBw := hB5.trans (hB2.mono hB5.size)
          have hDw := hDc.mono hB5.size
          have hR3 := hR2.on hB2
          clear hR2 hB2 hB5 hDc hBa hBa2 hld
          obtain ⟨cs', hm, hown2, hD2⟩ := hR3
          have hlen : cs'.length ≤ 24 := by rw [← List.length_map (f := CallV.pure), hm]; exact hle
          have Hlen := Lib.hid hlen
          have hl1 := callL_len c'
          have ho1 := ones_call c'
          have hn1 := pieces_new w2 (callL c') 34
          clear hlen
          go_wp2_with (at_builtin; (try simp only [fold_call]); refine wpList_append_own _ rfl _ _ 37 rfl w.heap.size 34 i0 _ 27 240 Try.underlying37 hi hz0 hz1 hz2 rfl (by decide) _ _ _ rfl (hown2.alloc _) ⟨_, 0, none⟩ 1 1 (callL c') rfl (by rw [hl1]) hn1 ho1 (by have := Hlen.out; unfold maxLen; omega) (by have := Hlen.out; omega) (by simp; omega) ?_; intro v' w3 hown' hgrow _)
          have hB3 := (hBw.alloc hsz _).grown hgrow (by simp; omega) fun k hk => (hown2.lt k hk).1
          go_roundw
          case rel => exact ⟨k + 1, by go_num, by omega, by omega, ⟨cs' ++ [c'], by rw [List.map_append, hm, Hst.out, List.map_singleton, hpu], by rw [callsL_snoc, List.length_append]; exact hown', fun c hc => by
              rcases List.mem_append.1 hc with hc | hc
              · exact ((hD2 c hc).on ((Below.refl _ _).alloc (Nat.le_refl _) _)).grown (hown2.alloc _) hgrow
              · rw [List.mem_singleton.1 hc]; exact (hDw.on ((Below.refl _ _).alloc (Nat.le_refl _) _)).grown (hown2.alloc _) hgrow⟩, hB3⟩
          case measure => simp [intOf]; omega
      · have hkk : k = 24 := by omega
        subst hkk
        go_wp2
        go_returns
        have e : fewL cs = fewL (cs.take 24) := by unfold fewL; rw [List.take_take, Nat.min_self]
        exact ⟨_, rfl, by rw [e]; exact hR, hB⟩
    · have hkk : k = cs.length := by omega
      subst hkk
      rw [List.take_length] at hR
      go_wp2
      go_returns
      exact ⟨_, rfl, hR, hB⟩
theorem few_nil (p : Option Addr) (cap : Nat) (w : World) : Calls Try.prog 19 #[.slice p 0 cap] w fun e w' => ∃ v, e = .returned v ∧ ORow w w.heap.size w' v (fewL []) ∧ Below w.heap.size w w' := by
  go_enter Try.func19, Try.ntmps19
  go_wp2
  refine wp_loop_rounds 1 ?_
  rw [rounds_succ]
  go_wp2
  go_returns
  exact ⟨_, rfl, ORow.nil _ _ _, Below.refl _ _⟩
/-- The calls that an argument bears. -/
def ArgRow (w : World) (p : Option Addr) (cs : List CallV) : Prop := cs = [] ∨ ∃ b off, p = some ⟨b, off, none⟩ ∧ b < w.heap.size ∧ CAt w b off cs ∧ cs.length < 9223372036854775808 ∧ ∀ c ∈ cs, c.Ok ∧ DRaw w c
theorem ArgRow.on {w w' : World} {p : Option Addr} {cs : List CallV} (h : ArgRow w p cs) (hb : Below w.heap.size w w') : ArgRow w' p cs := by
  rcases h with h | ⟨b, off, h1, h2, h3, h4, h5⟩
  · exact .inl h
  · exact .inr ⟨b, off, h1, Nat.lt_of_lt_of_le h2 hb.size, h3.on hb, h4, fun c hc => ⟨(h5 c hc).1, (h5 c hc).2.on hb⟩⟩
/-- **few: a copy of the first 24 calls, their deltas cut to 100 pieces.** -/
theorem few_any (p : Option Addr) (cap : Nat) (cs : List CallV) (w : World) (hA : ArgRow w p cs) : Calls Try.prog 19 #[.slice p cs.length cap] w fun e w' => ∃ v, e = .returned v ∧ ORow w w.heap.size w' v (fewL cs) ∧ Below w.heap.size w w' := by
  rcases hA with rfl | ⟨b, off, rfl, h2, h3, h4, h5⟩
  · exact few_nil p cap w
  · exact few_some b off cap cs w h2 h3 h4 fun c hc => (h5 c hc).2
end Go.Proofs.Ytjinnlmmlbmodaa
