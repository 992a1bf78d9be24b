/- Of of history. -/
import Derived.Test.YtjinnlmmlbmodaaHisJ
import Derived.Test.YtjinnlmmlbmodaaRegG
namespace Go.Proofs.Ytjinnlmmlbmodaa
open Go.RowKit Go.Lib Go.Shelf
open KitI (own_below)
attribute [local go_sem] Oper.semAt_some
attribute [local go_sem, local simp] callL_0 callL_1 callL_2 callL_3 callL_4 callL_5 callL_6 callL_7 callL_8 callL_9 callL_10 callL_11 callL_12 callL_13 callL_14 callL_15 callL_16 callL_17 callL_18 callL_19 callL_20 callL_21 callL_22 callL_23 callL_24 callL_25 callL_26 resL_0 resL_1 resL_2 resL_3 resL_4 resL_5 resL_6 resL_7 resL_8 resL_9 resL_10 resL_11 resL_12 callG_0 callG_1 callG_2 callG_3 callG_4 callG_5 callG_6 callG_7 callG_8 callG_9 callG_10 callG_11 callG_12 callG_13 callG_14 callG_15 callG_16 callG_17 callG_18 callG_19 callG_20 callG_21 callG_22 callG_23 callG_24 callG_25 callG_26 resG_0 resG_1 resG_2 resG_3 resG_4 resG_5 resG_6 resG_7 resG_8 resG_9 resG_10 resG_11 resG_12 callL_len resL_len
attribute [local go_sem ↓] loadCall_eq loadRes_eq
attribute [local go_sem] ld_new ld_first ld_second ldr_new st_new
attribute [local go_sem, local simp] fold_call

/-- What Of collects. -/
def atV (cs : List CallV) (i : Nat) : CallV := (cs[i]?.getD default).pure
def OInv (w : World) (B1 base : Nat) (cs : List CallV) (pre : List Nat) (W : World) : Prop :=
  ∃ (v : Value) (cs' : List CallV), Boxed W B1 37 v ∧ W.ownsRow base 34 27 v cs'.length (callsL cs') ∧ cs'.map CallV.pure = pre.map (atV cs) ∧ ∀ c ∈ cs', DOwn w W c
theorem OInv_own {β : Type} (w : World) (B1 base : Nat) (cs : List CallV) (f : β → List Nat) : Own (fun (s : β) W => OInv w B1 base cs (f s) W) := by
  rintro s X Y row ⟨v, cs', h1, h2, h3, h4⟩ hg hrow
  obtain ⟨v', h5, h6, _⟩ := holdsRow_own (β := List CallV) base B1 37 34 27 (fun cs => cs.length) callsL (fun _ _ => True) cs' X Y row ⟨v, h1, h2, trivial⟩ hg hrow
  refine ⟨v', cs', h5, h6, h3, fun c hc => ?_⟩
  rcases h4 c hc with ⟨h0, h | ⟨g, cur, e1, e2, e3, e4⟩⟩
  · exact ⟨h0, .inl h⟩
  · refine ⟨h0, .inr ⟨g, cur, e1, e2, (hg.block g (Array.getElem?_eq_some_iff.1 e3).1 (fun e => ?_)).trans e3, e4⟩⟩
    obtain ⟨o, ho, hc'⟩ := hrow g e.symm
    rw [e3] at ho
    cases ho
    cases hc'

theorem cells_new0 (W : World) (L : List Value) (T : TypeId) : ∀ (j : Nat) (u : Value), L[j]? = some u → (W.alloc (.cells L.toArray T)).cell? ((⟨W.heap.size, 0, none⟩ : Addr).add j) = some u := by
  intro j u h
  have h2 := blk_cell (blk_new W L T) j
  rw [Addr.add_mid, Nat.zero_add, h2, h]
theorem own_base {w : World} {base base' : Nat} {e : TypeId} {size : Nat} {v : Value} {n : Nat} {xs : List Value} (h : w.ownsRow base e size v n xs) (hb : base' ≤ base) : w.ownsRow base' e size v n xs := by
  refine ⟨h.1, ?_⟩
  rcases h.2 with h | ⟨g, cap, cur, h1, h2, h3⟩
  · exact .inl h
  · exact .inr ⟨g, cap, cur, h1, Nat.le_trans hb h2, h3⟩
theorem DOwn.set {w W : World} {c : CallV} {B : Nat} {t : TypeId} {v v' : Value} (h : DOwn w W c) (hb : Boxed W B t v) (ht : t ≠ 72) : DOwn w (W.setCell ⟨B, 0, none⟩ v') c := by
  rcases h with ⟨h0, h | ⟨g, cur, h1, h2, h3, h4⟩⟩
  · exact ⟨h0, .inl h⟩
  · refine ⟨h0, .inr ⟨g, cur, h1, h2, (Below.heap_setCell _ _ _ _ (fun e => ?_)).trans h3, h4⟩⟩
    have e : g = B := e
    subst e
    unfold Boxed at hb
    rw [h3] at hb
    cases hb
    exact ht rfl

set_option maxRecDepth 100000 in
set_option maxHeartbeats 2000000 in
theorem of_call (p : Option Addr) (cap : Nat) (t : Int) (cs : List CallV) (w : World) (hC : CRow w p cap cs) (hs : cs.length ≤ 1000000) (hd : ∀ c ∈ cs, DAt w c) :
    Calls Try.prog 26 #[.int .i64 t, .slice p cs.length cap] w fun e w' => ∃ v, e = .returned v ∧ ORow w w.heap.size w' v ((thIdx t cs 0).map (atV cs)) ∧ Below w.heap.size w w' := by
  obtain ⟨i0, hi, hz0, hz1, hz2⟩ := info_parts infoC
  refine (callsIn_wide (n := 4)).1 (callsIn_of_wp_marks Try.func26 rfl trivial (wpIn_wide.2 ?_) rfl)
  simp only [Try.ntmps26, List.size_toArray, List.length_cons, List.length_nil, Nat.reduceAdd, Nat.reduceSub, Array.replicate_succ, Array.replicate_zero, List.push_toArray, List.append_toArray, List.nil_append, List.cons_append]
  go_wp2_with (go_at_call 37; refine (of_any _ _ _ _ _).mono ?_; rintro e w' ⟨rfl, rfl⟩)
  have hs0 := Boxed.new w 37 (.slice p cs.length cap)
  have hs1 := Boxed.new (w.alloc (.cells #[.slice p cs.length cap] 37)) 37 (.slice none 0 0)
  have hs2 := Boxed.new ((w.alloc (.cells #[.slice p cs.length cap] 37)).alloc (.cells #[.slice none 0 0] 37)) 3 (.int .i64 t)
  have hs3 := Boxed.new (((w.alloc (.cells #[.slice p cs.length cap] 37)).alloc (.cells #[.slice none 0 0] 37)).alloc (.cells #[.int .i64 t] 3)) 37 (.slice p cs.length cap)
  simp only [World.size_alloc] at hs0 hs1 hs2 hs3
  have k0 := ((hs0.alloc (.cells #[.slice none 0 0] 37)).alloc (.cells #[.int .i64 t] 3)).alloc (.cells #[.slice p cs.length cap] 37)
  have k1 := (hs1.alloc (.cells #[.int .i64 t] 3)).alloc (.cells #[.slice p cs.length cap] 37)
  have k2 := (hs2.alloc (.cells #[.slice p cs.length cap] 37)).cell
  have k3 := hs3.cell
  have hBX : Below w.heap.size w ((((w.alloc (.cells #[.slice p cs.length cap] 37)).alloc (.cells #[.slice none 0 0] 37)).alloc (.cells #[.int .i64 t] 3)).alloc (.cells #[.slice p cs.length cap] 37)) :=
    ((((Below.refl _ _).alloc (Nat.le_refl _) _).alloc (by simp) _).alloc (by simp; omega) _).alloc (by simp; omega) _
  have hsz : ((((w.alloc (.cells #[.slice p cs.length cap] 37)).alloc (.cells #[.slice none 0 0] 37)).alloc (.cells #[.int .i64 t] 3)).alloc (.cells #[.slice p cs.length cap] 37)).heap.size = w.heap.size + 4 := by simp
  clear hs0 hs1 hs2 hs3
  generalize ((((w.alloc (.cells #[.slice p cs.length cap] 37)).alloc (.cells #[.slice none 0 0] 37)).alloc (.cells #[.int .i64 t] 3)).alloc (.cells #[.slice p cs.length cap] 37)) = X at *
  have hCX : CRow X p cap cs := by
    rcases hC with h | ⟨b, off, h1, h2, h3, h4⟩
    · exact .inl h
    · exact .inr ⟨b, off, h1, h2, by omega, h4.below hBX h3⟩
  refine (wpIn_wide (n := 4)).1 ?_
  refine wpIn_rangeFunc_ownF rfl (by omega) (gf := 47) (lb := #[.pointer (some ⟨w.heap.size + 1 + 1 + 1, 0, none⟩), .pointer (some ⟨w.heap.size + 1 + 1, 0, none⟩)]) rfl trivial (enters_of Try.func47 (by kernel_rfl) rfl)
    (of_stopsN cs.length 3 (by omega) _ _ cap (fun i => i < w.heap.size + 4 ∧ i ≠ w.heap.size + 1) p cs rfl t hs X k3 k2 hCX (by intro i hi; omega) (by omega) (by omega) (by
      intro b' o' e
      rcases hC with ⟨h, _⟩ | ⟨b, off, h1, _, h3, _⟩
      · rw [h] at e; cases e
      · rw [h1] at e; cases e; omega))
    KeepB.trans (keepB_b (by intro i hi; omega)) (Below.refl _ _) (fun _ => rfl)
    (fun pre W => OInv w (w.heap.size + 1) (w.heap.size + 4) cs (pre.map (·.1)) W ∧ Boxed W w.heap.size 37 (.slice p cs.length cap) ∧ Below w.heap.size w W ∧ Below 0 X W) (fun _ _ _ => False)
    (OwnFrom.and (Own.from (OInv_own _ _ _ _ _) _) (OwnFrom.and (Own.from (boxed_own _ _ (fun _ => .slice p cs.length cap)) _) (OwnFrom.and (ownFrom_below (Nat.le_refl _) (by omega)) (ownFrom_below (Nat.zero_le _) (Nat.zero_le _))))) (fun _ _ _ _ _ hs _ _ => hs) ⟨⟨_, [], k1, World.ownsRow_nil _ _ _ _, rfl, fun c h => by cases h⟩, k0, hBX, Below.refl _ _⟩ ?a1 ?assign ?body ?done ?stop
  case assign =>
    intro l x W K hK
    gi_wp2
    exact hK
  case body =>
    rintro l pre x W ⟨⟨v, cs', hbx, hrow, hm, hD⟩, hb0, hBW, hB0⟩ hlen
    obtain ⟨c, hc⟩ : ∃ c, cs[x.1]? = some c := ⟨_, List.getElem?_eq_getElem x.2⟩
    obtain ⟨b, off, rfl, hcap, hb, hCw⟩ : ∃ b off, p = some ⟨b, off, none⟩ ∧ cs.length ≤ cap ∧ b < w.heap.size ∧ CAt w b off cs := by
      rcases hC with ⟨_, _, h⟩ | ⟨b, off, h⟩
      · exact absurd x.2 (by simp [h])
      · exact ⟨b, off, h⟩
    have hld := (hCw.below hBW hb).load hc
    have c0 := hb0.cell
    have c1 := hbx.cell
    have f1 := hbx.frozen
    have hdc := (hd c (List.mem_of_getElem? hc)).on hBW
    have hxl := x.2
    gi_wp2_with fail
    have hS : W.drew.cell? ⟨w.heap.size + 1, 0, none⟩ = some v ∧ W.drew.cell? ⟨w.heap.size, 0, none⟩ = some (.slice (some ⟨b, off, none⟩) cs.length cap) ∧ (loadCall (.pointer (some ⟨b, off + x.1 * 27, none⟩))).run Try.prog W.drew = .ok (.agg (callL c).toArray) W.drew := ⟨c1, c0, (hCw.below hBW.drew hb).load hc⟩
    refine wpIn_region_G (S := fun W => W.cell? ⟨w.heap.size + 1, 0, none⟩ = some v ∧ W.cell? ⟨w.heap.size, 0, none⟩ = some (.slice (some ⟨b, off, none⟩) cs.length cap) ∧ (loadCall (.pointer (some ⟨b, off + x.1 * 27, none⟩))).run Try.prog W = .ok (.agg (callL c).toArray) W) (T := 8) (by kernel_rfl) (by kernel_rfl) (fun _ _ h => h) (fun _ _ _ h => h) hS (fun hHeld => ?_)
    refine ng_take (i := 0) (v := ?_) rfl (by kernel_rfl) (by kernel_rfl) (by kernel_rfl) (by kernel_rfl) (by decide) (by rfl) ?_ (by assumption) ?_
    rotate_left 1
    · (intro w hSw; (try dsimp only at hSw); go_simp; all_goals with_reducible rfl)
    (try simp only [Act.put, List.setIfInBounds_toArray, List.set_cons_zero, List.set_cons_succ])
    refine ng_take (i := 1) (v := ?_) rfl (by kernel_rfl) (by kernel_rfl) (by kernel_rfl) (by kernel_rfl) (by decide) (by rfl) ?_ (by assumption) ?_
    rotate_left 1
    · (intro w hSw; (try dsimp only at hSw); go_simp; all_goals with_reducible rfl)
    (try simp only [Act.put, List.setIfInBounds_toArray, List.set_cons_zero, List.set_cons_succ])
    refine ng_take (i := 2) (v := ?_) rfl (by kernel_rfl) (by kernel_rfl) (by kernel_rfl) (by kernel_rfl) (by decide) (by rfl) ?_ (by assumption) ?_
    rotate_left 1
    · (intro w hSw; (try dsimp only at hSw); go_simp; all_goals with_reducible rfl)
    (try simp only [Act.put, List.setIfInBounds_toArray, List.set_cons_zero, List.set_cons_succ])
    refine ng_take (i := 3) (v := ?_) rfl (by kernel_rfl) (by kernel_rfl) (by kernel_rfl) (by kernel_rfl) (by decide) (by rfl) ?_ (by assumption) ?_
    rotate_left 1
    · (intro w hSw; (try dsimp only at hSw); go_simp; all_goals with_reducible rfl)
    (try simp only [Act.put, List.setIfInBounds_toArray, List.set_cons_zero, List.set_cons_succ])
    refine ng_take (i := 4) (v := ?_) rfl (by kernel_rfl) (by kernel_rfl) (by kernel_rfl) (by kernel_rfl) (by decide) (by rfl) ?_ (by assumption) ?_
    rotate_left 1
    · (intro w hSw; (try dsimp only at hSw); go_simp; all_goals with_reducible rfl)
    (try simp only [Act.put, List.setIfInBounds_toArray, List.set_cons_zero, List.set_cons_succ])
    refine ng_step (i := 5) rfl (by kernel_rfl) (by rfl) (fun K hK => ?_)
    go_simp
    go_at_call 42
    refine (copied_any c _ (hdc.on (Below.refl _ _).drew)).mono ?_
    rintro e w2 ⟨c', rfl, hpu, hDc, hB2⟩
    (try go_wp2_with fail)
    have hBd : Below W.heap.size W w2 := (Below.refl _ _).drew.trans hB2
    have hbx2 : Boxed w2 (w.heap.size + 1) 37 v := (hBd.block _ hbx.lt).trans hbx
    have hb02 : Boxed w2 w.heap.size 37 (.slice (some ⟨b, off, none⟩) cs.length cap) := (hBd.block _ hb0.lt).trans hb0
    have hrow2 := own_below hrow hBd
    have hD2 : ∀ c ∈ cs', DOwn w w2 c := fun c hc => (hD c hc).on hBd
    have hDn : DOwn w w2 c' := hDc.mono hBW.size
    have hBw2 := hBW.trans (hBd.mono hBW.size)
    have hS2 : w2.cell? ⟨w.heap.size + 1, 0, none⟩ = some v ∧ w2.cell? ⟨w.heap.size, 0, none⟩ = some (.slice (some ⟨b, off, none⟩) cs.length cap) ∧ (loadCall (.pointer (some ⟨b, off + x.1 * 27, none⟩))).run Try.prog w2 = .ok (.agg (callL c).toArray) w2 := ⟨hbx2.cell, hb02.cell, (hCw.below hBw2 hb).load hc⟩
    refine hK.out _ _ (fun _ => hS2) ?_
    clear hK K
    (try simp only [Act.put, List.setIfInBounds_toArray, List.set_cons_zero, List.set_cons_succ])
    refine ng_step (i := 6) rfl (by kernel_rfl) (by rfl) (fun K hK => ?_)
    go_simp
    have hbx3 := hbx2.alloc (.cells (callL c').toArray 34)
    have hb03 := hb02.alloc (.cells (callL c').toArray 34)
    have hBa : Below w2.heap.size w2 (w2.alloc (.cells (callL c').toArray 34)) := (Below.refl _ _).alloc (Nat.le_refl _) _
    refine hK.out _ _ (fun _ => ⟨hbx3.cell, hb03.cell, (hCw.below (hBw2.trans (hBa.mono hBw2.size)) hb).load hc⟩) ?_
    clear hK K
    (try simp only [Act.put, List.setIfInBounds_toArray, List.set_cons_zero, List.set_cons_succ])
    refine ng_step (i := 7) rfl (by kernel_rfl) (by rfl) (fun K hK => ?_)
    have hlen2 : cs'.length ≤ 1000000 := by
      have h1 : cs'.length = pre.length := by
        have := congrArg List.length hm
        simpa using this
      omega
    have hrow3 := hrow2.alloc (.cells (callL c').toArray 34)
    have hhB : w.heap.size + 4 ≤ w2.heap.size := by have := hB0.size; have := hBd.size; omega
    refine wp_append_own _ _ _ 37 rfl (w.heap.size + 4) 34 i0 _ 27 240 Try.underlying37 hi hz0 hz1 hz2 rfl (by decide) _ _ _ rfl hrow3 ⟨_, 0, none⟩ 1 1 (callL c') rfl (by rw [callL_len]) (cells_new0 _ _ _) (ones_call c') (by unfold maxLen; omega) (by omega) (by simp; omega) ?_
    intro v' w3 hown' hgrow _
    obtain ⟨g', cap', rfl⟩ := ownsRow_succ hown'
    obtain ⟨hv1, hv2, _, hk2, hb2⟩ := hbx2.appended (by decide) (own_base hrow2 (Nat.le_add_right _ _)) (Nat.le_trans hBW.size hBd.size) (Nat.le_add_right _ _) (own_base hown' (Nat.le_add_right _ _)) hgrow
    have hr2 := hown'.kept (grownBy_setCell' w3 (w.heap.size + 1) (.slice (some ⟨g', 0, none⟩) (cs'.length + 1) cap')) (.inr (hv1.not_row (by decide) hown').symm)
    have hb3 : Below (w.heap.size + 4) w2 w3 := ((Below.refl _ w2).alloc hhB (.cells (callL c').toArray 34)).grown hgrow (by simp; omega) (fun k hk => (hrow2.lt k hk).1)
    have hb0f : Boxed w3 w.heap.size 37 (.slice (some ⟨b, off, none⟩) cs.length cap) := (hb3.block _ (by omega)).trans hb02
    have hBw3 := hBw2.trans (hb3.mono (by omega))
    have hDf : ∀ c0 ∈ cs' ++ [c'], DOwn w (w3.setCell ⟨w.heap.size + 1, 0, none⟩ (.slice (some ⟨g', 0, none⟩) (cs'.length + 1) cap')) c0 := fun c0 h0 => by
      refine DOwn.set ?_ hv1 (by decide)
      rcases List.mem_append.1 h0 with h0 | h0
      · exact ((hD2 c0 h0).on hBa).grown hrow3 hgrow
      · rw [List.mem_singleton.1 h0]; exact (hDn.on hBa).grown hrow3 hgrow
    have hmap : (cs' ++ [c']).map CallV.pure = ((pre ++ [x]).map (·.1)).map (atV cs) := by
      rw [List.map_append, hm, List.map_append, List.map_append, List.map_singleton, List.map_singleton, List.map_singleton, hpu]
      congr 2
      unfold atV
      rw [hc]
      rfl
    have hko := ((KeepsOthers.drew W).trans (keeps_of_below hB2)).trans hk2
    have hkb : KeepB (fun i => i < w.heap.size + 4 ∧ i ≠ w.heap.size + 1) W (w3.setCell ⟨w.heap.size + 1, 0, none⟩ (.slice (some ⟨g', 0, none⟩) (cs'.length + 1) cap')) :=
      (KeepB.of_below hBd (fun k hk => by have := hB0.size; have := hk.1; omega)).trans ⟨Nat.le_trans hb3.size (by simp [World.setCell]), fun k hk => (Below.heap_setCell _ _ _ _ (by simpa using hk.2)).trans (hb3.block k hk.1)⟩
    have hIf : OInv w (w.heap.size + 1) (w.heap.size + 4) cs ((pre ++ [x]).map (·.1)) (w3.setCell ⟨w.heap.size + 1, 0, none⟩ (.slice (some ⟨g', 0, none⟩) (cs'.length + 1) cap')) :=
      ⟨_, cs' ++ [c'], hv2, by rw [callsL_snoc, List.length_append]; exact hr2, hmap, hDf⟩
    have hb0g := hb0f.other (B' := w.heap.size + 1) (by omega) (.slice (some ⟨g', 0, none⟩) (cs'.length + 1) cap')
    have hBwf := hBw2.trans hb2
    have hB0f := hB0.trans ((hBd.mono (Nat.zero_le _)).trans (hb2.mono (Nat.zero_le _)))
    refine hK.out _ _ (fun _ => ⟨hv1.cell, hb0f.cell, (hCw.below hBw3 hb).load hc⟩) ?_
    clear hK K
    (try simp only [Act.put, List.setIfInBounds_toArray, List.set_cons_zero, List.set_cons_succ])
    refine ng_step (i := 8) rfl (by kernel_rfl) (by rfl) (fun K hK => ?_)
    have c3 := hv1.cell
    have f3 := hv1.frozen
    go_simp
    refine hK.out _ _ (fun h => absurd rfl h) ?_
    clear hK K
    (try simp only [Act.put, List.setIfInBounds_toArray, List.set_cons_zero, List.set_cons_succ])
    refine ng_done (by kernel_rfl) ?_ _
    refine NoPanic.normal ?_
    exact ⟨hko, hkb, hIf, hb0g, hBwf, hB0f⟩
  case done =>
    rintro D ys W hD hys ⟨⟨v, cs', hbx, hrow, hm, hDs⟩, hb0, hBW, hB0⟩ hK
    have c1 := hbx.cell
    go_wp2
    have hO := (OInv_own (β := Unit) w (w.heap.size + 1) (w.heap.size + 4) cs (fun _ => ys.map (·.1))).putObj (s := ()) (.deferred none) ⟨v, cs', hbx, hrow, hm, hDs⟩ hK rfl
    obtain ⟨v2, cs2, e1, e2, e3, e4⟩ := hO
    have e5 : Boxed (W.putObj D (.deferred none)) (w.heap.size + 1) 37 v := (World.putObj_heap_other (by omega)).trans hbx
    obtain rfl : v2 = v := by
      unfold Boxed at e1 e5
      rw [e5] at e1
      cases e1
      rfl
    have hys' : ys.map (·.1) = thIdx t cs 0 := hys
    refine ⟨by simp, .inl ⟨D, _, rfl, run_takeDeferred hK, ⟨v2, by simp [results, Try.f26, go_sem], v2, rfl, ⟨cs2, by rw [e3, hys'], own_base e2 (Nat.le_add_right _ _), e4⟩, hBW.trans (below_put (by omega) _ _)⟩⟩⟩
  case stop =>
    rintro D c' pre W hD _ h _
    exact h.elim
end Go.Proofs.Ytjinnlmmlbmodaa
