/- HistoryAgrees: the walk. -/
import Derived.Test.YtjinnlmmlbmodaaHrI
import Derived.Test.YtjinnlmmlbmodaaHrF
namespace Go.Proofs.Ytjinnlmmlbmodaa
open Go.RowKit Go.Lib Go.Shelf
open KitI (iv IRow own_below infoI eqi_any)
attribute [local go_sem, local simp] callL_0 callL_1 callL_2 callL_3 callL_4 callL_5 callL_6 callL_7 callL_8 callL_9 callL_10 callL_11 callL_12 callL_13 callL_14 callL_15 callL_16 callL_17 callL_18 callL_19 callL_20 callL_21 callL_22 callL_23 callL_24 callL_25 callL_26 resL_0 resL_1 resL_2 resL_3 resL_4 resL_5 resL_6 resL_7 resL_8 resL_9 resL_10 resL_11 resL_12 callG_0 callG_1 callG_2 callG_3 callG_4 callG_5 callG_6 callG_7 callG_8 callG_9 callG_10 callG_11 callG_12 callG_13 callG_14 callG_15 callG_16 callG_17 callG_18 callG_19 callG_20 callG_21 callG_22 callG_23 callG_24 callG_25 callG_26 resG_0 resG_1 resG_2 resG_3 resG_4 resG_5 resG_6 resG_7 resG_8 resG_9 resG_10 resG_11 resG_12 callL_len resL_len
attribute [local go_sem ↓] loadCall_eq loadRes_eq
attribute [local go_sem] ld_new ld_first ld_second ldr_new st_new

/-- A row of numbers that can be cut. -/
def OrdRow (W : World) (po : Option Addr) (co : Nat) (zs : List Int) : Prop := (po = none ∧ zs = [] ∧ co = 0) ∨ ∃ b off, po = some ⟨b, off, none⟩ ∧ zs.length ≤ co ∧ ∀ j u, zs[j]? = some u → W.cell? ⟨b, off + j, none⟩ = some (.int .i64 u)
theorem OrdRow.on {W W' : World} {po : Option Addr} {co : Nat} {zs : List Int} (h : OrdRow W po co zs) (hb : Below W.heap.size W W') : OrdRow W' po co zs := by
  rcases h with h | ⟨b, off, h1, h2, h3⟩
  · exact .inl h
  · exact .inr ⟨b, off, h1, h2, fun j u hj => by rw [hb.cell (cell_size (h3 j u hj))]; exact h3 j u hj⟩
theorem OrdRow.irow {W : World} {po : Option Addr} {co : Nat} {zs : List Int} (h : OrdRow W po co zs) : IRow W (.slice po zs.length co) zs := by
  rcases h with ⟨rfl, rfl, rfl⟩ | ⟨b, off, rfl, _, h3⟩
  · exact .inl ⟨rfl, rfl⟩
  · exact .inr ⟨b, off, co, rfl, h3⟩
def CiRel (w : World) (zs : List Int) (o i : Value) (wr : World) : Prop :=
  ∃ k : Nat, i = .int .i64 k ∧ k ≤ zs.length ∧ wr.ownsRow w.heap.size 3 1 o k ((zs.take k).map iv) ∧ Below w.heap.size w wr
set_option maxRecDepth 100000 in
set_option maxHeartbeats 1000000 in
theorem copyints_any (po : Option Addr) (co : Nat) (zs : List Int) (w : World) (h : OrdRow w po co zs) (hl : zs.length ≤ 1000000) : Calls Try.prog 28 #[.slice po zs.length co] w fun e w' => ∃ v, e = .returned v ∧ IRow w' v zs ∧ Below w.heap.size w w' := by
  obtain ⟨i0, hi, hz0, hz1, hz2⟩ := info_parts infoI
  go_enter Try.func28, Try.ntmps28
  go_wp2
  go_loopw [3, 4] (fun o i wr => CiRel w zs o i wr) (fun o i wr => zs.length - (intOf i).toNat)
  case atStart => exact ⟨0, rfl, by omega, World.ownsRow_nil _ _ _ _, Below.refl _ _⟩
  case round =>
    obtain ⟨k, rfl, hk, hown, hB⟩ := hrel
    by_cases hlt : k < zs.length
    · obtain ⟨z, hz⟩ : ∃ z, zs[k]? = some z := ⟨_, List.getElem?_eq_getElem hlt⟩
      obtain ⟨b, off, rfl, hco, hc⟩ : ∃ b off, po = some ⟨b, off, none⟩ ∧ zs.length ≤ co ∧ ∀ j u, zs[j]? = some u → w.cell? ⟨b, off + j, none⟩ = some (.int .i64 u) := by
        rcases h with ⟨_, h, _⟩ | h
        · rw [h] at hlt; simp at hlt
        · exact h
      have q := (hB.cell (cell_size (hc k z hz))).trans (hc k z hz)
      have htk : (zs.take (k + 1)).map iv = (zs.take k).map iv ++ [.int .i64 z] := by rw [List.take_add_one, hz, Option.toList_some, List.map_append]; rfl
      have Htk := Lib.hid htk
      clear htk hc hz
      go_wp2_with (at_builtin; refine wpList_append_own _ rfl _ _ 40 rfl w.heap.size 3 i0 (.int .i64 0) 1 8 Try.underlying40 hi hz0 hz1 hz2 rfl (by decide) _ _ _ rfl (hown.alloc _) ⟨_, 0, none⟩ 1 1 [.int .i64 z] rfl rfl (pieces_new _ _ _) (by simp [Value.oneCell']) (by unfold maxLen; omega) (by omega) (by have := hB.size; simp at *; omega) ?_; intro v' w3 hown' hgrow _)
      have hB3 := (hB.alloc hB.size (.cells #[.int .i64 z] 3)).grown hgrow (by have := hB.size; simp at *; omega) fun k hk => (hown.lt k hk).1
      go_roundw
      case rel => exact ⟨k + 1, by go_num, by omega, by rw [Htk.out]; exact hown', hB3⟩
      case measure => simp [intOf]; omega
    · have hkk : k = zs.length := by omega
      subst hkk
      rw [List.take_length] at hown
      have hr := IRow.own hown rfl
      clear hown
      go_wp2
      go_returns
      exact ⟨_, rfl, hr, hB⟩
theorem ag_two (L : List CallV) (hid : L.map CallV.pure = L) (zs : List Int) (hz : zs.length ≤ 30) : ∃ (r : Bool) (e : Int), ∀ (hs : List CallV) (p po : Option Addr) (cap co : Nat) (W : World), hs.map CallV.pure = L → HRow W p cap hs → IRow W (.slice po zs.length co) zs →
    Calls Try.prog 22 #[.slice po zs.length co, .slice p hs.length cap] W (fun ed w' => ed = .returned (.tuple #[.bool r, .int .i64 e]) ∧ Below W.heap.size W w') ∧
    Calls Try.prog 29 #[.slice po zs.length co, .slice p hs.length cap] W (fun ed w' => ed = .returned (.tuple #[.bool r, .int .i64 e]) ∧ Below W.heap.size W w') := by
  refine ⟨(agreesP zs L).1, (agreesP zs L).2, fun hs p po cap co W hm hH hO => ?_⟩
  have hpair : ∀ i j, pairB zs hs i j = pairB zs L i j := fun i j => by
    unfold pairB
    rw [← hm, List.getElem?_map, List.getElem?_map]
    cases hs[i]? <;> cases hs[j]? <;> rfl
  have hlen : hs.length = L.length := by rw [← hm, List.length_map]
  have e : agreesP zs hs = agreesP zs L := by
    unfold agreesP okPairs
    rw [check_of_pure (hm.trans hid.symm), hlen]
    simp only [hpair]
  rw [← e]
  have hl := hH.len
  exact ⟨agrees_any p po cap co hs zs W hH.row hO (by omega) (by omega) hH.ok, refAgrees_any p po cap co hs zs W hH.row hO (by omega) (by omega) hH.ok hH.dat⟩
theorem irow_form3 {W : World} {v : Value} {zs : List Int} (h : IRow W v zs) : ∃ p c, v = .slice p zs.length c := by
  rcases h with ⟨h1, h2⟩ | ⟨b, off, c, h1, h2⟩
  · exact ⟨none, 0, by rw [h1, h2]; rfl⟩
  · exact ⟨_, _, h1⟩
/-- What holds at each point of HistoryAgrees. -/
structure AS (w : World) (p : Option Addr) (cs : List CallV) (po : Option Addr) (co : Nat) (zs : List Int) (W : World) : Prop where
  a : ArgRow W p cs
  o : OrdRow W po co zs
  bl : Below w.heap.size w W
theorem AS.on {w : World} {p : Option Addr} {cs : List CallV} {po : Option Addr} {co : Nat} {zs : List Int} {W W' : World} (h : AS w p cs po co zs W) (hb : Below W.heap.size W W') : AS w p cs po co zs W' := ⟨h.a.on hb, h.o.on hb, h.bl.trans (hb.mono h.bl.size)⟩
structure AT (w : World) (p : Option Addr) (cs : List CallV) (po : Option Addr) (co : Nat) (zs : List Int) (p1 : Option Addr) (cap1 : Nat) (hs : List CallV) (W : World) : Prop where
  s : AS w p cs po co zs W
  h : HRow W p1 cap1 hs
theorem AT.on {w : World} {p : Option Addr} {cs : List CallV} {po : Option Addr} {co : Nat} {zs : List Int} {p1 : Option Addr} {cap1 : Nat} {hs : List CallV} {W W' : World} (h : AT w p cs po co zs p1 cap1 hs W) (hb : Below W.heap.size W W') : AT w p cs po co zs p1 cap1 hs W' := ⟨h.s.on hb, h.h.on hb⟩
set_option linter.unusedSimpArgs false in
set_option maxRecDepth 100000 in
set_option maxHeartbeats 4000000 in
theorem agl_none (p : Option Addr) (cap : Nat) (cs : List CallV) (w : World) (hA : ArgRow w p cs) (hO : OrdRow w none 0 []) : Calls Try.prog 17 #[.slice none 0 0, .slice p cs.length cap] w fun e w' => e = .returned (.bool true) ∧ Below w.heap.size w w' := by
  have hm1 : min (0 : Int) 30 = 0 := rfl
  have hz : ([] : List Int).length ≤ 30 := by simp
  have hx0 : AS w p cs none 0 [] w.drew := ⟨hA, hO, (Below.refl _ _).drew⟩
  obtain ⟨rb, re, AG⟩ := ag_two (fewL cs) (few_idem cs) [] hz
  have AG' := Lib.hid AG
  clear AG hO hA
  go_enter Try.func17, Try.ntmps17
  go_wp2
  refine wp_region_noPanic ?_
  refine wp_region_held_drew (S := fun W => AS w p cs none 0 [] W) (by kernel_rfl) ?_ (fun hHeld => ?_)
  · first | exact hx2 | exact hx1 | exact hx0
  first | fail | (refine np_take (i := 0) (v := ?_) rfl (by kernel_rfl) (by kernel_rfl) (by kernel_rfl) (by rfl) ?_ (by assumption) ?_; rotate_left 1; (· (intro w hSw; (try dsimp only at hSw); go_simp; all_goals with_reducible rfl)); (try simp only [Act.put, List.setIfInBounds_toArray, List.set_cons_zero, List.set_cons_succ]))
  first | fail | (refine np_take (i := 2) (v := ?_) rfl (by kernel_rfl) (by kernel_rfl) (by kernel_rfl) (by rfl) ?_ (by assumption) ?_; rotate_left 1; (· (intro w hSw; (try dsimp only at hSw); go_simp; all_goals with_reducible rfl)); (try simp only [Act.put, List.setIfInBounds_toArray, List.set_cons_zero, List.set_cons_succ]))
  first | fail | (refine np_take (i := 3) (v := ?_) rfl (by kernel_rfl) (by kernel_rfl) (by kernel_rfl) (by rfl) ?_ (by assumption) ?_; rotate_left 1; (· (intro w hSw; (try dsimp only at hSw); go_simp; all_goals with_reducible rfl)); (try simp only [Act.put, List.setIfInBounds_toArray, List.set_cons_zero, List.set_cons_succ]))
  first | fail | (refine np_take (i := 4) (v := ?_) rfl (by kernel_rfl) (by kernel_rfl) (by kernel_rfl) (by rfl) ?_ (by assumption) ?_; rotate_left 1; (· (intro w hSw; (try dsimp only at hSw); go_simp; all_goals with_reducible rfl)); (try simp only [Act.put, List.setIfInBounds_toArray, List.set_cons_zero, List.set_cons_succ]))
  first | fail | (refine np_take (i := 5) (v := ?_) rfl (by kernel_rfl) (by kernel_rfl) (by kernel_rfl) (by rfl) ?_ (by assumption) ?_; rotate_left 1; (· (intro w hSw; (try dsimp only at hSw); go_simp; all_goals with_reducible rfl)); (try simp only [Act.put, List.setIfInBounds_toArray, List.set_cons_zero, List.set_cons_succ]))
  first | fail | (refine np_take (i := 6) (v := ?_) rfl (by kernel_rfl) (by kernel_rfl) (by kernel_rfl) (by rfl) ?_ (by assumption) ?_; rotate_left 1; (· (intro w hSw; (try dsimp only at hSw); go_simp; all_goals with_reducible rfl)); (try simp only [Act.put, List.setIfInBounds_toArray, List.set_cons_zero, List.set_cons_succ]))
  first | fail | (refine np_step (i := 1) rfl (by kernel_rfl) (fun K hK => ?_); rw [if_pos (by rfl)]; go_simp; ((go_at_call 19; refine (few_h p cap cs _ hHeld.a).mono ?_; rintro e v1 ⟨p1, cap1, hs, rfl, hm, hH, hbc⟩; have hx1 := hHeld.on hbc)); (try go_wp2_with fail); refine hK.out _ _ ?_ (fun hHeld => ?_); (· (first | exact hx2 | exact hx1 | exact hx0)); clear hK K; (try simp only [Act.put, List.setIfInBounds_toArray, List.set_cons_zero, List.set_cons_succ]))
  first | fail | (refine np_step (i := 7) rfl (by kernel_rfl) (fun K hK => ?_); rw [if_pos (by rfl)]; go_simp; ((go_at_call 28; refine (copyints_any none 0 [] _ hHeld.o (by omega)).mono ?_; rintro e v2 ⟨vo, rfl, hC, hbc⟩; have hx2 := hHeld.on hbc; replace hH := hH.on hbc)); (try go_wp2_with fail); refine hK.out _ _ ?_ (fun hHeld => ?_); (· (first | exact hx2 | exact hx1 | exact hx0)); clear hK K; (try simp only [Act.put, List.setIfInBounds_toArray, List.set_cons_zero, List.set_cons_succ]))
  first | fail | (refine np_take (i := 8) (v := ?_) rfl (by kernel_rfl) (by kernel_rfl) (by kernel_rfl) (by rfl) ?_ (by assumption) ?_; rotate_left 1; (· (intro w hSw; (try dsimp only at hSw); go_simp; all_goals with_reducible rfl)); (try simp only [Act.put, List.setIfInBounds_toArray, List.set_cons_zero, List.set_cons_succ]))
  first | fail | (refine np_take (i := 9) (v := ?_) rfl (by kernel_rfl) (by kernel_rfl) (by kernel_rfl) (by rfl) ?_ (by assumption) ?_; rotate_left 1; (· (intro w hSw; (try dsimp only at hSw); go_simp; all_goals with_reducible rfl)); (try simp only [Act.put, List.setIfInBounds_toArray, List.set_cons_zero, List.set_cons_succ]))
  refine wpAnyH_done (by kernel_rfl) ?_ _
  refine NoPanic.normal ?_
  obtain ⟨pc, cc, rfl⟩ := irow_form3 hC
  have hI : AT w p cs none 0 [] p1 cap1 hs v2 := ⟨hHeld, hH⟩
  have Hm := Lib.hid hm
  clear hHeld hH hm hx0 hx1 hx2
  go_wp2_with fail
  refine (AG'.out hs p1 pc cap1 cc _ Hm.out hI.h hC).1.mono ?_
  rintro e v3 ⟨rfl, hb⟩
  replace hI := hI.on hb
  replace hC := hC.on hb
  clear hb
  have hx0 : AT w p cs none 0 [] p1 cap1 hs v3.drew := hI.on (Below.refl _ _).drew
  have hC0 := hC.on (Below.refl _ _).drew
  clear hI hC
  go_wp2
  refine wp_region_noPanic ?_
  refine wp_region_held_drew (S := fun W => AT w p cs none 0 [] p1 cap1 hs W) (by kernel_rfl) ?_ (fun hHeld => ?_)
  · first | exact hx2 | exact hx1 | exact hx0
  first | fail | (refine np_take (i := 0) (v := ?_) rfl (by kernel_rfl) (by kernel_rfl) (by kernel_rfl) (by rfl) ?_ (by assumption) ?_; rotate_left 1; (· (intro w hSw; (try dsimp only at hSw); go_simp; all_goals with_reducible rfl)); (try simp only [Act.put, List.setIfInBounds_toArray, List.set_cons_zero, List.set_cons_succ]))
  first | fail | (refine np_take (i := 1) (v := ?_) rfl (by kernel_rfl) (by kernel_rfl) (by kernel_rfl) (by rfl) ?_ (by assumption) ?_; rotate_left 1; (· (intro w hSw; (try dsimp only at hSw); go_simp; all_goals with_reducible rfl)); (try simp only [Act.put, List.setIfInBounds_toArray, List.set_cons_zero, List.set_cons_succ]))
  first | fail | (refine np_take (i := 2) (v := ?_) rfl (by kernel_rfl) (by kernel_rfl) (by kernel_rfl) (by rfl) ?_ (by assumption) ?_; rotate_left 1; (· (intro w hSw; (try dsimp only at hSw); go_simp; all_goals with_reducible rfl)); (try simp only [Act.put, List.setIfInBounds_toArray, List.set_cons_zero, List.set_cons_succ]))
  first | fail | (refine np_take (i := 3) (v := ?_) rfl (by kernel_rfl) (by kernel_rfl) (by kernel_rfl) (by rfl) ?_ (by assumption) ?_; rotate_left 1; (· (intro w hSw; (try dsimp only at hSw); go_simp; all_goals with_reducible rfl)); (try simp only [Act.put, List.setIfInBounds_toArray, List.set_cons_zero, List.set_cons_succ]))
  first | fail | (refine np_take (i := 4) (v := ?_) rfl (by kernel_rfl) (by kernel_rfl) (by kernel_rfl) (by rfl) ?_ (by assumption) ?_; rotate_left 1; (· (intro w hSw; (try dsimp only at hSw); go_simp; all_goals with_reducible rfl)); (try simp only [Act.put, List.setIfInBounds_toArray, List.set_cons_zero, List.set_cons_succ]))
  first | fail | (refine np_take (i := 5) (v := ?_) rfl (by kernel_rfl) (by kernel_rfl) (by kernel_rfl) (by rfl) ?_ (by assumption) ?_; rotate_left 1; (· (intro w hSw; (try dsimp only at hSw); go_simp; all_goals with_reducible rfl)); (try simp only [Act.put, List.setIfInBounds_toArray, List.set_cons_zero, List.set_cons_succ]))
  first | fail | (refine np_step (i := 6) rfl (by kernel_rfl) (fun K hK => ?_); rw [if_pos (by rfl)]; go_simp; ((go_at_call 19; refine (few_h p cap cs _ hHeld.s.a).mono ?_; rintro e v4 ⟨pf, cf, fs, rfl, hmf, hF, hbc⟩; have hx1 := hHeld.on hbc; replace hC0 := hC0.on hbc)); (try go_wp2_with fail); refine hK.out _ _ ?_ (fun hHeld => ?_); (· (first | exact hx2 | exact hx1 | exact hx0)); clear hK K; (try simp only [Act.put, List.setIfInBounds_toArray, List.set_cons_zero, List.set_cons_succ]))
  first | fail | (refine np_step (i := 7) rfl (by kernel_rfl) (fun K hK => ?_); rw [if_pos (by rfl)]; go_simp; ((go_at_call 29; refine (AG'.out fs pf none cf 0 _ hmf hF hHeld.s.o.irow).2.mono ?_; rintro e v5 ⟨rfl, hbc⟩; have hx2 := hHeld.on hbc; replace hC0 := hC0.on hbc)); (try go_wp2_with fail); refine hK.out _ _ ?_ (fun hHeld => ?_); (· (first | exact hx2 | exact hx1 | exact hx0)); clear hK K; (try simp only [Act.put, List.setIfInBounds_toArray, List.set_cons_zero, List.set_cons_succ]))
  first | fail | (refine np_take (i := 8) (v := ?_) rfl (by kernel_rfl) (by kernel_rfl) (by kernel_rfl) (by rfl) ?_ (by assumption) ?_; rotate_left 1; (· (intro w hSw; (try dsimp only at hSw); go_simp; all_goals with_reducible rfl)); (try simp only [Act.put, List.setIfInBounds_toArray, List.set_cons_zero, List.set_cons_succ]))
  first | fail | (refine np_take (i := 9) (v := ?_) rfl (by kernel_rfl) (by kernel_rfl) (by kernel_rfl) (by rfl) ?_ (by assumption) ?_; rotate_left 1; (· (intro w hSw; (try dsimp only at hSw); go_simp; all_goals with_reducible rfl)); (try simp only [Act.put, List.setIfInBounds_toArray, List.set_cons_zero, List.set_cons_succ]))
  first | fail | (refine np_take (i := 10) (v := ?_) rfl (by kernel_rfl) (by kernel_rfl) (by kernel_rfl) (by rfl) ?_ (by assumption) ?_; rotate_left 1; (· (intro w hSw; (try dsimp only at hSw); go_simp; all_goals with_reducible rfl)); (try simp only [Act.put, List.setIfInBounds_toArray, List.set_cons_zero, List.set_cons_succ]))
  first | fail | (refine np_take (i := 11) (v := ?_) rfl (by kernel_rfl) (by kernel_rfl) (by kernel_rfl) (by rfl) ?_ (by assumption) ?_; rotate_left 1; (· (intro w hSw; (try dsimp only at hSw); go_simp; all_goals with_reducible rfl)); (try simp only [Act.put, List.setIfInBounds_toArray, List.set_cons_zero, List.set_cons_succ]))
  first | fail | (refine np_take (i := 12) (v := ?_) rfl (by kernel_rfl) (by kernel_rfl) (by kernel_rfl) (by rfl) ?_ (by assumption) ?_; rotate_left 1; (· (intro w hSw; (try dsimp only at hSw); go_simp; all_goals with_reducible rfl)); (try simp only [Act.put, List.setIfInBounds_toArray, List.set_cons_zero, List.set_cons_succ]))
  refine wpAnyH_done (by kernel_rfl) ?_ _
  refine NoPanic.normal ?_
  have hI := hHeld
  have t1 : (rb == rb) = true := by simp
  have t2 : (re == re) = true := by simp
  clear hHeld hx0 hx1 hx2 hF hmf
  go_wp2_with fail
  refine (few_h p cap cs _ hI.s.a).mono ?_
  rintro e v6 ⟨pf, cf, fs, rfl, hmf, hF, hb⟩
  replace hI := hI.on hb
  replace hC0 := hC0.on hb
  clear hb
  go_wp2_with fail
  refine (eqcalls_same p1 pf cap1 cf hs fs _ (Hm.out.trans hmf.symm) (by have := hI.h.len; omega) hI.h.row hF.row hI.h.dat hF.dat).mono ?_
  rintro e v7 ⟨rfl, hb⟩
  replace hI := hI.on hb
  replace hC0 := hC0.on hb
  clear hb hF hmf
  have eqi := eqiS _ _ _ [] hC0 hI.s.o.irow (by omega)
  go_wp2_with fail
  refine eqi.mono ?_
  clear eqi
  rintro e v8 ⟨rfl, hb⟩
  replace hI := hI.on hb
  clear hb hC0
  go_wp2_with fail
  refine (awake_any _).mono ?_
  rintro e v9 ⟨rfl, hb⟩
  replace hI := hI.on hb
  clear hb
  have hbl := hI.s.bl
  go_wp2
  go_returns
  exact ⟨rfl, hbl⟩
set_option linter.unusedSimpArgs false in
set_option maxRecDepth 100000 in
set_option maxHeartbeats 4000000 in
theorem agl_some (p : Option Addr) (cap : Nat) (cs : List CallV) (b off co : Nat) (zs : List Int) (hz : zs.length ≤ 30) (hzc : zs.length ≤ co) (w : World) (hA : ArgRow w p cs) (hO : OrdRow w (some ⟨b, off, none⟩) co zs) : Calls Try.prog 17 #[.slice (some ⟨b, off, none⟩) zs.length co, .slice p cs.length cap] w fun e w' => e = .returned (.bool true) ∧ Below w.heap.size w w' := by
  have hm1 : min (zs.length : Int) 30 = (zs.length : Int) := by omega
  have hm2 : (zs.length : Int) ≤ (co : Int) := by omega
  have hx0 : AS w p cs (some ⟨b, off, none⟩) co zs w.drew := ⟨hA, hO, (Below.refl _ _).drew⟩
  obtain ⟨rb, re, AG⟩ := ag_two (fewL cs) (few_idem cs) zs hz
  have AG' := Lib.hid AG
  clear AG hO hA
  go_enter Try.func17, Try.ntmps17
  go_wp2
  refine wp_region_noPanic ?_
  refine wp_region_held_drew (S := fun W => AS w p cs (some ⟨b, off, none⟩) co zs W) (by kernel_rfl) ?_ (fun hHeld => ?_)
  · first | exact hx2 | exact hx1 | exact hx0
  first | fail | (refine np_take (i := 0) (v := ?_) rfl (by kernel_rfl) (by kernel_rfl) (by kernel_rfl) (by rfl) ?_ (by assumption) ?_; rotate_left 1; (· (intro w hSw; (try dsimp only at hSw); go_simp; all_goals with_reducible rfl)); (try simp only [Act.put, List.setIfInBounds_toArray, List.set_cons_zero, List.set_cons_succ]))
  first | fail | (refine np_take (i := 2) (v := ?_) rfl (by kernel_rfl) (by kernel_rfl) (by kernel_rfl) (by rfl) ?_ (by assumption) ?_; rotate_left 1; (· (intro w hSw; (try dsimp only at hSw); go_simp; all_goals with_reducible rfl)); (try simp only [Act.put, List.setIfInBounds_toArray, List.set_cons_zero, List.set_cons_succ]))
  first | fail | (refine np_take (i := 3) (v := ?_) rfl (by kernel_rfl) (by kernel_rfl) (by kernel_rfl) (by rfl) ?_ (by assumption) ?_; rotate_left 1; (· (intro w hSw; (try dsimp only at hSw); go_simp; all_goals with_reducible rfl)); (try simp only [Act.put, List.setIfInBounds_toArray, List.set_cons_zero, List.set_cons_succ]))
  first | fail | (refine np_take (i := 4) (v := ?_) rfl (by kernel_rfl) (by kernel_rfl) (by kernel_rfl) (by rfl) ?_ (by assumption) ?_; rotate_left 1; (· (intro w hSw; (try dsimp only at hSw); go_simp; all_goals with_reducible rfl)); (try simp only [Act.put, List.setIfInBounds_toArray, List.set_cons_zero, List.set_cons_succ]))
  first | fail | (refine np_take (i := 5) (v := ?_) rfl (by kernel_rfl) (by kernel_rfl) (by kernel_rfl) (by rfl) ?_ (by assumption) ?_; rotate_left 1; (· (intro w hSw; (try dsimp only at hSw); go_simp; all_goals with_reducible rfl)); (try simp only [Act.put, List.setIfInBounds_toArray, List.set_cons_zero, List.set_cons_succ]))
  first | fail | (refine np_take (i := 6) (v := ?_) rfl (by kernel_rfl) (by kernel_rfl) (by kernel_rfl) (by rfl) ?_ (by assumption) ?_; rotate_left 1; (· (intro w hSw; (try dsimp only at hSw); go_simp; all_goals with_reducible rfl)); (try simp only [Act.put, List.setIfInBounds_toArray, List.set_cons_zero, List.set_cons_succ]))
  first | fail | (refine np_step (i := 1) rfl (by kernel_rfl) (fun K hK => ?_); rw [if_pos (by rfl)]; go_simp; ((go_at_call 19; refine (few_h p cap cs _ hHeld.a).mono ?_; rintro e v1 ⟨p1, cap1, hs, rfl, hm, hH, hbc⟩; have hx1 := hHeld.on hbc)); (try go_wp2_with fail); refine hK.out _ _ ?_ (fun hHeld => ?_); (· (first | exact hx2 | exact hx1 | exact hx0)); clear hK K; (try simp only [Act.put, List.setIfInBounds_toArray, List.set_cons_zero, List.set_cons_succ]))
  first | fail | (refine np_step (i := 7) rfl (by kernel_rfl) (fun K hK => ?_); rw [if_pos (by rfl)]; go_simp; ((go_at_call 28; refine (copyints_any (some ⟨b, off, none⟩) co zs _ hHeld.o (by omega)).mono ?_; rintro e v2 ⟨vo, rfl, hC, hbc⟩; have hx2 := hHeld.on hbc; replace hH := hH.on hbc)); (try go_wp2_with fail); refine hK.out _ _ ?_ (fun hHeld => ?_); (· (first | exact hx2 | exact hx1 | exact hx0)); clear hK K; (try simp only [Act.put, List.setIfInBounds_toArray, List.set_cons_zero, List.set_cons_succ]))
  first | fail | (refine np_take (i := 8) (v := ?_) rfl (by kernel_rfl) (by kernel_rfl) (by kernel_rfl) (by rfl) ?_ (by assumption) ?_; rotate_left 1; (· (intro w hSw; (try dsimp only at hSw); go_simp; all_goals with_reducible rfl)); (try simp only [Act.put, List.setIfInBounds_toArray, List.set_cons_zero, List.set_cons_succ]))
  first | fail | (refine np_take (i := 9) (v := ?_) rfl (by kernel_rfl) (by kernel_rfl) (by kernel_rfl) (by rfl) ?_ (by assumption) ?_; rotate_left 1; (· (intro w hSw; (try dsimp only at hSw); go_simp; all_goals with_reducible rfl)); (try simp only [Act.put, List.setIfInBounds_toArray, List.set_cons_zero, List.set_cons_succ]))
  refine wpAnyH_done (by kernel_rfl) ?_ _
  refine NoPanic.normal ?_
  obtain ⟨pc, cc, rfl⟩ := irow_form3 hC
  have hI : AT w p cs (some ⟨b, off, none⟩) co zs p1 cap1 hs v2 := ⟨hHeld, hH⟩
  have Hm := Lib.hid hm
  clear hHeld hH hm hx0 hx1 hx2
  go_wp2_with fail
  refine (AG'.out hs p1 pc cap1 cc _ Hm.out hI.h hC).1.mono ?_
  rintro e v3 ⟨rfl, hb⟩
  replace hI := hI.on hb
  replace hC := hC.on hb
  clear hb
  have hx0 : AT w p cs (some ⟨b, off, none⟩) co zs p1 cap1 hs v3.drew := hI.on (Below.refl _ _).drew
  have hC0 := hC.on (Below.refl _ _).drew
  clear hI hC
  go_wp2
  refine wp_region_noPanic ?_
  refine wp_region_held_drew (S := fun W => AT w p cs (some ⟨b, off, none⟩) co zs p1 cap1 hs W) (by kernel_rfl) ?_ (fun hHeld => ?_)
  · first | exact hx2 | exact hx1 | exact hx0
  first | fail | (refine np_take (i := 0) (v := ?_) rfl (by kernel_rfl) (by kernel_rfl) (by kernel_rfl) (by rfl) ?_ (by assumption) ?_; rotate_left 1; (· (intro w hSw; (try dsimp only at hSw); go_simp; all_goals with_reducible rfl)); (try simp only [Act.put, List.setIfInBounds_toArray, List.set_cons_zero, List.set_cons_succ]))
  first | fail | (refine np_take (i := 1) (v := ?_) rfl (by kernel_rfl) (by kernel_rfl) (by kernel_rfl) (by rfl) ?_ (by assumption) ?_; rotate_left 1; (· (intro w hSw; (try dsimp only at hSw); go_simp; all_goals with_reducible rfl)); (try simp only [Act.put, List.setIfInBounds_toArray, List.set_cons_zero, List.set_cons_succ]))
  first | fail | (refine np_take (i := 2) (v := ?_) rfl (by kernel_rfl) (by kernel_rfl) (by kernel_rfl) (by rfl) ?_ (by assumption) ?_; rotate_left 1; (· (intro w hSw; (try dsimp only at hSw); go_simp; all_goals with_reducible rfl)); (try simp only [Act.put, List.setIfInBounds_toArray, List.set_cons_zero, List.set_cons_succ]))
  first | fail | (refine np_take (i := 3) (v := ?_) rfl (by kernel_rfl) (by kernel_rfl) (by kernel_rfl) (by rfl) ?_ (by assumption) ?_; rotate_left 1; (· (intro w hSw; (try dsimp only at hSw); go_simp; all_goals with_reducible rfl)); (try simp only [Act.put, List.setIfInBounds_toArray, List.set_cons_zero, List.set_cons_succ]))
  first | fail | (refine np_take (i := 4) (v := ?_) rfl (by kernel_rfl) (by kernel_rfl) (by kernel_rfl) (by rfl) ?_ (by assumption) ?_; rotate_left 1; (· (intro w hSw; (try dsimp only at hSw); go_simp; all_goals with_reducible rfl)); (try simp only [Act.put, List.setIfInBounds_toArray, List.set_cons_zero, List.set_cons_succ]))
  first | fail | (refine np_take (i := 5) (v := ?_) rfl (by kernel_rfl) (by kernel_rfl) (by kernel_rfl) (by rfl) ?_ (by assumption) ?_; rotate_left 1; (· (intro w hSw; (try dsimp only at hSw); go_simp; all_goals with_reducible rfl)); (try simp only [Act.put, List.setIfInBounds_toArray, List.set_cons_zero, List.set_cons_succ]))
  first | fail | (refine np_step (i := 6) rfl (by kernel_rfl) (fun K hK => ?_); rw [if_pos (by rfl)]; go_simp; ((go_at_call 19; refine (few_h p cap cs _ hHeld.s.a).mono ?_; rintro e v4 ⟨pf, cf, fs, rfl, hmf, hF, hbc⟩; have hx1 := hHeld.on hbc; replace hC0 := hC0.on hbc)); (try go_wp2_with fail); refine hK.out _ _ ?_ (fun hHeld => ?_); (· (first | exact hx2 | exact hx1 | exact hx0)); clear hK K; (try simp only [Act.put, List.setIfInBounds_toArray, List.set_cons_zero, List.set_cons_succ]))
  first | fail | (refine np_step (i := 7) rfl (by kernel_rfl) (fun K hK => ?_); rw [if_pos (by rfl)]; go_simp; ((go_at_call 29; refine (AG'.out fs pf (some ⟨b, off, none⟩) cf co _ hmf hF hHeld.s.o.irow).2.mono ?_; rintro e v5 ⟨rfl, hbc⟩; have hx2 := hHeld.on hbc; replace hC0 := hC0.on hbc)); (try go_wp2_with fail); refine hK.out _ _ ?_ (fun hHeld => ?_); (· (first | exact hx2 | exact hx1 | exact hx0)); clear hK K; (try simp only [Act.put, List.setIfInBounds_toArray, List.set_cons_zero, List.set_cons_succ]))
  first | fail | (refine np_take (i := 8) (v := ?_) rfl (by kernel_rfl) (by kernel_rfl) (by kernel_rfl) (by rfl) ?_ (by assumption) ?_; rotate_left 1; (· (intro w hSw; (try dsimp only at hSw); go_simp; all_goals with_reducible rfl)); (try simp only [Act.put, List.setIfInBounds_toArray, List.set_cons_zero, List.set_cons_succ]))
  first | fail | (refine np_take (i := 9) (v := ?_) rfl (by kernel_rfl) (by kernel_rfl) (by kernel_rfl) (by rfl) ?_ (by assumption) ?_; rotate_left 1; (· (intro w hSw; (try dsimp only at hSw); go_simp; all_goals with_reducible rfl)); (try simp only [Act.put, List.setIfInBounds_toArray, List.set_cons_zero, List.set_cons_succ]))
  first | fail | (refine np_take (i := 10) (v := ?_) rfl (by kernel_rfl) (by kernel_rfl) (by kernel_rfl) (by rfl) ?_ (by assumption) ?_; rotate_left 1; (· (intro w hSw; (try dsimp only at hSw); go_simp; all_goals with_reducible rfl)); (try simp only [Act.put, List.setIfInBounds_toArray, List.set_cons_zero, List.set_cons_succ]))
  first | fail | (refine np_take (i := 11) (v := ?_) rfl (by kernel_rfl) (by kernel_rfl) (by kernel_rfl) (by rfl) ?_ (by assumption) ?_; rotate_left 1; (· (intro w hSw; (try dsimp only at hSw); go_simp; all_goals with_reducible rfl)); (try simp only [Act.put, List.setIfInBounds_toArray, List.set_cons_zero, List.set_cons_succ]))
  first | fail | (refine np_take (i := 12) (v := ?_) rfl (by kernel_rfl) (by kernel_rfl) (by kernel_rfl) (by rfl) ?_ (by assumption) ?_; rotate_left 1; (· (intro w hSw; (try dsimp only at hSw); go_simp; all_goals with_reducible rfl)); (try simp only [Act.put, List.setIfInBounds_toArray, List.set_cons_zero, List.set_cons_succ]))
  refine wpAnyH_done (by kernel_rfl) ?_ _
  refine NoPanic.normal ?_
  have hI := hHeld
  have t1 : (rb == rb) = true := by simp
  have t2 : (re == re) = true := by simp
  clear hHeld hx0 hx1 hx2 hF hmf
  go_wp2_with fail
  refine (few_h p cap cs _ hI.s.a).mono ?_
  rintro e v6 ⟨pf, cf, fs, rfl, hmf, hF, hb⟩
  replace hI := hI.on hb
  replace hC0 := hC0.on hb
  clear hb
  go_wp2_with fail
  refine (eqcalls_same p1 pf cap1 cf hs fs _ (Hm.out.trans hmf.symm) (by have := hI.h.len; omega) hI.h.row hF.row hI.h.dat hF.dat).mono ?_
  rintro e v7 ⟨rfl, hb⟩
  replace hI := hI.on hb
  replace hC0 := hC0.on hb
  clear hb hF hmf
  have eqi := eqiS _ _ _ zs hC0 hI.s.o.irow (by omega)
  go_wp2_with fail
  refine eqi.mono ?_
  clear eqi
  rintro e v8 ⟨rfl, hb⟩
  replace hI := hI.on hb
  clear hb hC0
  go_wp2_with fail
  refine (awake_any _).mono ?_
  rintro e v9 ⟨rfl, hb⟩
  replace hI := hI.on hb
  clear hb
  have hbl := hI.s.bl
  go_wp2
  go_returns
  exact ⟨rfl, hbl⟩
/-- **HistoryAgrees returns true.** -/
theorem agl_any (p po : Option Addr) (cap co : Nat) (cs : List CallV) (zs : List Int) (w : World) (hz : zs.length ≤ 30) (hA : ArgRow w p cs) (hO : OrdRow w po co zs) : Calls Try.prog 17 #[.slice po zs.length co, .slice p cs.length cap] w fun e w' => e = .returned (.bool true) ∧ Below w.heap.size w w' := by
  have hO2 := hO
  rcases hO with ⟨rfl, rfl, rfl⟩ | ⟨b, off, rfl, h, _⟩
  · exact agl_none p cap cs w hA hO2
  · exact agl_some p cap cs b off co zs hz h w hA hO2
end Go.Proofs.Ytjinnlmmlbmodaa
