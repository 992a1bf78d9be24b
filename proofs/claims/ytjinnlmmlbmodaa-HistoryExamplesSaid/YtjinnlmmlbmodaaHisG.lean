/- Effects of history: the walk. -/
import Derived.Test.YtjinnlmmlbmodaaHisF
namespace Go.Proofs.Ytjinnlmmlbmodaa
open Go.RowKit Go.Lib Go.Sort Go.Shelf
open KitI (iv IRow own_below infoI)
attribute [local go_sem, local simp] callL_0 callL_1 callL_2 callL_3 callL_4 callL_5 callL_6 callL_7 callL_8 callL_9 callL_10 callL_11 callL_12 callL_13 callL_14 callL_15 callL_16 callL_17 callL_18 callL_19 callL_20 callL_21 callL_22 callL_23 callL_24 callL_25 callL_26 resL_0 resL_1 resL_2 resL_3 resL_4 resL_5 resL_6 resL_7 resL_8 resL_9 resL_10 resL_11 resL_12 callG_0 callG_1 callG_2 callG_3 callG_4 callG_5 callG_6 callG_7 callG_8 callG_9 callG_10 callG_11 callG_12 callG_13 callG_14 callG_15 callG_16 callG_17 callG_18 callG_19 callG_20 callG_21 callG_22 callG_23 callG_24 callG_25 callG_26 resG_0 resG_1 resG_2 resG_3 resG_4 resG_5 resG_6 resG_7 resG_8 resG_9 resG_10 resG_11 resG_12 callL_len resL_len
attribute [local go_sem ↓] loadCall_eq loadRes_eq
attribute [local go_sem] ld_new ld_first ld_second ldr_new st_new

theorem check_two (cs : List CallV) : (checkP cs).2 = 0 ∨ (checkP cs).2 = 22 := by
  unfold checkP
  split
  · exact .inr rfl
  · exact .inl rfl
def BRel (w : World) (base b off cap Bl : Nat) (cs : List CallV) (q : CallV → Bool) (o i : Value) (wr : World) : Prop :=
  ∃ k : Nat, i = .int .i64 k ∧ k ≤ cs.length ∧ wr.ownsRow base 3 1 o (places q (cs.take k) 0).length ((places q (cs.take k) 0).map nv) ∧ Below w.heap.size w wr ∧ base ≤ wr.heap.size ∧ CAt wr b off cs ∧ wr.cell? ⟨Bl, 0, none⟩ = some (.slice (some ⟨b, off, none⟩) cs.length cap)
/-- What Effects returns. -/
def EffPost (w : World) (base : Nat) (cs : List CallV) (e : Ending) (w' : World) : Prop :=
  ((checkP cs).2 = 22 ∧ e = .returned (.tuple #[.slice none 0 0, .int .i64 22]) ∧ Below w.heap.size w w') ∨
  ((checkP cs).2 = 0 ∧ ∃ v L, EffIs cs L ∧ e = .returned (.tuple #[v, .int .i64 0]) ∧ w'.ownsRow base 3 1 v L.length (L.map nv) ∧ Below w.heap.size w w')
theorem sort_none (p : Option Addr) (c : Nat) (f : FuncId) (cb : Array Value) (W : World) : Calls Try.prog 40 #[.slice p 0 c, .func (.func f) #[] cb] W fun e w' => e = .returned (.tuple #[]) ∧ w' = W :=
  AnyF.slices_SortFunc_none (P := Try.prog) (ρ := Try.sortL_ren) { Try.sortL with } p c _ W

set_option maxRecDepth 100000 in
set_option maxHeartbeats 2000000 in
theorem effects_some (b off cap : Nat) (cs : List CallV) (w : World) (hcap : cs.length ≤ cap) (hb : b < w.heap.size) (hC : CAt w b off cs) (hs : cs.length ≤ 1000000) (hok : ∀ c ∈ cs, c.Ok) :
    Calls Try.prog 21 #[.slice (some ⟨b, off, none⟩) cs.length cap] w (EffPost w (w.heap.size + 1) cs) := by
  obtain ⟨i0, hi, hz0, hz1, hz2⟩ := info_parts infoI
  obtain ⟨wa, hwa⟩ : ∃ wa, w.alloc (.cells #[.slice (some ⟨b, off, none⟩) cs.length cap] 37) = wa := ⟨_, rfl⟩
  have hsz : wa.heap.size = w.heap.size + 1 := by rw [← hwa]; simp
  have hBa : Below w.heap.size w wa := by rw [← hwa]; exact (Below.refl _ _).alloc (Nat.le_refl _) _
  have hbox : wa.cell? ⟨w.heap.size, 0, none⟩ = some (.slice (some ⟨b, off, none⟩) cs.length cap) := by rw [← hwa]; exact (Boxed.new w _ _).cell
  have hCa := hC.below hBa hb
  have ck := check_any (some ⟨b, off, none⟩) cap cs wa (.inr ⟨b, off, rfl, hcap, by omega, hCa⟩) hs hok
  obtain ⟨k1, hk1⟩ : ∃ k1, (checkP cs).1 = k1 := ⟨_, rfl⟩
  rw [hk1] at ck
  rcases check_two cs with h0 | h22
  · rw [h0] at ck
    have H0 := Lib.hid h0
    have Hk1 := Lib.hid hk1
    clear h0 hk1 hC
    go_enter Try.func21, Try.ntmps21
    go_wp2_with fail
    have Hwa := Lib.hid hwa
    clear hwa
    refine ck.mono ?_
    clear ck
    rintro e w1 ⟨rfl, hB1⟩
    have hb1 := (hB1.cell (p := ⟨w.heap.size, 0, none⟩) (by simp; omega)).trans hbox
    have hC1 := hCa.on hB1
    have hBw := hBa.trans (hB1.mono (by omega))
    have hz := hB1.size
    clear hbox hCa hB1 hBa
    go_wp2
    go_loopw [6, 19] (fun o i wr => BRel w (w.heap.size + 1) b off cap w.heap.size cs tookQ o i wr) (fun o i wr => cs.length - (intOf i).toNat)
    case atStart => exact ⟨0, rfl, by omega, World.ownsRow_nil _ _ _ _, hBw, by omega, hC1, hb1⟩
    case round =>
      clear hb1 hC1 hBw hz
      obtain ⟨k, rfl, hk, hown, hB, hz, hC2, hb2⟩ := hrel
      by_cases hlt : k < cs.length
      · obtain ⟨c, hc⟩ : ∃ c, cs[k]? = some c := ⟨_, List.getElem?_eq_getElem hlt⟩
        have hld := hC2.load hc
        have hst := places_step (q := tookQ) hc
        have hle := places_len (q := tookQ) (cs := cs.take k) (k := 0)
        rw [List.length_take, Nat.min_eq_left hk] at hle
        generalize places tookQ (cs.take k) 0 = pl at *
        have Hst := Lib.hid hst
        clear hst hc
        have hBq : Below wr.heap.size wr (wr.alloc (.cells (callL c).toArray 34)) := (Below.refl _ _).alloc (Nat.le_refl _) _
        have hown2 := hown.alloc (.cells (callL c).toArray 34)
        by_cases hq : 0 ≤ c.took
        · have hq' : tookQ c = true := by simpa [tookQ] using hq
          have Hq := Lib.hid hq'
          clear hq'
          go_wp2_with (at_builtin; refine wpList_append_own _ rfl _ _ 40 rfl (w.heap.size + 1) 3 i0 (.int .i64 0) 1 8 Try.underlying40 hi hz0 hz1 hz2 rfl (by decide) _ _ _ rfl (hown2.alloc _) ⟨_, 0, none⟩ 1 1 [.int .i64 (k : Int)] rfl rfl (cell_one_new1 _ _ _ _) (by simp [Value.oneCell']) (by unfold maxLen; omega) (by omega) (by simp at *; omega) ?_; intro v' w3 hown' hgrow _)
          have hB3 := ((hB.alloc hB.size (.cells (callL c).toArray 34)).alloc (by have := hB.size; simp; omega) (.cells #[.int .i64 (k : Int)] 3)).grown hgrow (by have := hB.size; simp at *; omega) fun k hk => (by have := (hown2.lt k hk).1; omega)
          have hk3 : ∀ p : Addr, p.block < w.heap.size + 1 → w3.cell? p = wr.cell? p := fun p hp => by
            have h1 : Below (w.heap.size + 1) wr w3 := (((Below.refl _ _).alloc hz (.cells (callL c).toArray 34)).alloc (by simp; omega) (.cells #[.int .i64 (k : Int)] 3)).grown hgrow (by simp; omega) fun k hk => (hown2.lt k hk).1
            exact h1.cell hp
          have hz3 : w.heap.size + 1 ≤ w3.heap.size := by have := hgrow.size; simp at this; omega
          go_roundw
          case rel => exact ⟨k + 1, by go_num, by omega, by rw [Hst.out, Hq.out]; simpa [nv] using hown', hB3, hz3, fun j u hj => (hk3 _ (by simp; omega)).trans (hC2 j u hj), (hk3 _ (by simp)).trans hb2⟩
          case measure => simp [intOf]; omega
        · have hq' : tookQ c = false := by simpa [tookQ] using hq
          have Hq := Lib.hid hq'
          have hlt0 : c.took < 0 := by omega
          clear hq' hq
          have hC4 := hC2.on hBq
          have hb4 := (hBq.cell (p := ⟨w.heap.size, 0, none⟩) (by simp; omega)).trans hb2
          go_wp2
          go_roundw
          case rel => exact ⟨k + 1, by go_num, by omega, by rw [Hst.out, Hq.out]; simpa [nv] using hown2, hB.alloc hB.size _, by simp; omega, hC4, hb4⟩
          case measure => simp [intOf]; omega
      · have hkk : k = cs.length := by omega
        rw [hkk, List.take_length] at hown
        have hlen := places_len (q := tookQ) (cs := cs) (k := 0)
        clear hkk
        by_cases hp0 : (places tookQ cs 0).length = 0
        · have hnil : places tookQ cs 0 = [] := List.length_eq_zero_iff.1 hp0
          rw [hnil] at hown
          obtain ⟨p, c', rfl⟩ : ∃ p c', u6 = .slice p 0 c' := by
            rcases hown.2 with ⟨h1, _⟩ | ⟨g, c', cur, h1, _⟩
            · exact ⟨_, _, h1⟩
            · exact ⟨_, _, h1⟩
          have Hnil := Lib.hid hnil
          clear hnil hp0 hlen
          go_wp2_with (go_at_call 40; refine (sort_none _ _ _ _ _).mono ?_; rintro e w' ⟨rfl, rfl⟩)
          go_returns
          exact .inr ⟨H0.out, _, [], ⟨by rw [Hnil.out], List.Pairwise.nil⟩, rfl, hown, hB⟩
        · rcases hown.2 with ⟨_, h1⟩ | ⟨g, cg, cur, rfl, hbase, hg, hnc, hcm, hcs, htake⟩
          · exact absurd h1 hp0
          · rw [Nat.mul_one] at htake
            have so := sortE w.heap.size b off cap g cg cs H0.out hok wr cur _ (by omega) hs hb2 hC2 (by omega) (by omega) hg htake hnc hcm hcs (w.heap.size + 1) hbase
            clear hg htake hcs hcm hp0 hown
            go_wp2_with fail
            refine so.mono ?_
            clear so
            rintro e w' ⟨rfl, L, hL, hrow, hgr, hll⟩
            have hrow2 : w'.ownsRow (w.heap.size + 1) 3 1 (.slice (some ⟨g, 0, none⟩) (places tookQ cs 0).length cg) L.length (L.map nv) := by rw [← hll]; exact hrow
            have hB5 := hB.grown hgr hB.size (fun k hk => by cases hk; omega)
            go_wp2
            go_returns
            exact .inr ⟨H0.out, _, L, hL, rfl, hrow2, hB5⟩
  · rw [h22] at ck
    have H0 := Lib.hid h22
    have Hk1 := Lib.hid hk1
    clear h22 hk1 hC
    go_enter Try.func21, Try.ntmps21
    go_wp2_with fail
    refine ck.mono ?_
    clear ck
    rintro e w1 ⟨rfl, hB1⟩
    have hBw := hBa.trans (hB1.mono (by omega))
    clear hbox hCa hB1 hBa hwa
    go_wp2
    go_returns
    exact .inl ⟨H0.out, rfl, hBw⟩

theorem check_nilP : checkP [] = (0, 0) := rfl
set_option maxRecDepth 100000 in
theorem effects_nil (w : World) : Calls Try.prog 21 #[.slice none 0 0] w (EffPost w (w.heap.size + 1) []) := by
  have ck := fun W => check_nil W
  rw [check_nilP] at ck
  go_enter Try.func21, Try.ntmps21
  go_wp2_with fail
  refine (ck _).mono ?_
  rintro e w1 ⟨rfl, hB1⟩
  have hb1 := (hB1.cell (p := ⟨w.heap.size, 0, none⟩) (by simp)).trans (Boxed.new w 37 (.slice none 0 0)).cell
  have hBw := ((Below.refl w.heap.size w).alloc (Nat.le_refl _) (.cells #[.slice none 0 0] 37)).trans (hB1.mono (by simp))
  go_wp2
  refine wp_loop_rounds 1 ?_
  rw [rounds_succ]
  go_wp2_with (go_at_call 40; refine (sort_none _ _ _ _ _).mono ?_; rintro e w' ⟨rfl, rfl⟩)
  go_returns
  exact .inr ⟨rfl, _, [], ⟨List.Perm.refl _, List.Pairwise.nil⟩, rfl, World.ownsRow_nil _ _ _ _, hBw⟩
/-- **Effects: the places of the calls that took effect, in order; or the error of Check.** -/
theorem effects_any (p : Option Addr) (cap : Nat) (cs : List CallV) (w : World) (hC : CRow w p cap cs) (hs : cs.length ≤ 1000000) (hok : ∀ c ∈ cs, c.Ok) :
    Calls Try.prog 21 #[.slice p cs.length cap] w (EffPost w (w.heap.size + 1) cs) := by
  rcases hC with ⟨rfl, rfl, rfl⟩ | ⟨b, off, rfl, h1, h2, h3⟩
  · exact effects_nil w
  · exact effects_some b off cap cs w h1 h2 h3 hs hok
end Go.Proofs.Ytjinnlmmlbmodaa
