/- HistoryMatches: the walk. -/
import Derived.Test.YtjinnlmmlbmodaaHrD
import Derived.Test.YtjinnlmmlbmodaaHrE
import Derived.Test.YtjinnlmmlbmodaaHrG
namespace Go.Proofs.Ytjinnlmmlbmodaa
open Go.RowKit Go.Lib Go.Shelf
open KitI (iv IRow own_below infoI eqi_any)
attribute [local go_sem, local simp] callL_0 callL_1 callL_2 callL_3 callL_4 callL_5 callL_6 callL_7 callL_8 callL_9 callL_10 callL_11 callL_12 callL_13 callL_14 callL_15 callL_16 callL_17 callL_18 callL_19 callL_20 callL_21 callL_22 callL_23 callL_24 callL_25 callL_26 resL_0 resL_1 resL_2 resL_3 resL_4 resL_5 resL_6 resL_7 resL_8 resL_9 resL_10 resL_11 resL_12 callG_0 callG_1 callG_2 callG_3 callG_4 callG_5 callG_6 callG_7 callG_8 callG_9 callG_10 callG_11 callG_12 callG_13 callG_14 callG_15 callG_16 callG_17 callG_18 callG_19 callG_20 callG_21 callG_22 callG_23 callG_24 callG_25 callG_26 resG_0 resG_1 resG_2 resG_3 resG_4 resG_5 resG_6 resG_7 resG_8 resG_9 resG_10 resG_11 resG_12 callL_len resL_len
attribute [local go_sem ↓] loadCall_eq loadRes_eq
attribute [local go_sem] ld_new ld_first ld_second ldr_new st_new

theorem pref_idemH (s : Int) (cs : List CallV) : (prefS s cs).map CallV.pure = prefS s cs := by
  unfold prefS
  rw [List.map_map]
  rfl
theorem pref_pureH (s : Int) (cs : List CallV) : prefS s (cs.map CallV.pure) = prefS s cs := by
  unfold prefS
  rw [List.filter_map, List.map_map]
  refine List.map_congr_left fun c _ => ?_
  exact cut_pure (c := c) (c' := c.pure) rfl

/-! ### program and reference, for all calls that say the same -/
theorem ck_two (L : List CallV) (hid : L.map CallV.pure = L) : ∃ k ec : Int, ∀ (hs : List CallV) (p : Option Addr) (cap : Nat) (W : World), hs.map CallV.pure = L → HRow W p cap hs →
    Calls Try.prog 20 #[.slice p hs.length cap] W (fun e w' => e = .returned (.tuple #[.int .i64 k, .int .i64 ec]) ∧ Below W.heap.size W w') ∧
    Calls Try.prog 30 #[.slice p hs.length cap] W (fun e w' => e = .returned (.tuple #[.int .i64 k, .int .i64 ec]) ∧ Below W.heap.size W w') := by
  refine ⟨(checkP L).1, (checkP L).2, fun hs p cap W hm hH => ?_⟩
  have e : checkP hs = checkP L := check_of_pure (hm.trans hid.symm)
  rw [← e]
  have hl := hH.len
  exact ⟨check_any p cap hs W hH.row (by omega) hH.ok, refCheck_any p cap hs W hH.row (by omega) hH.ok hH.dat⟩
theorem of_two (L : List CallV) (hid : L.map CallV.pure = L) (t : Int) : ∀ (hs : List CallV) (p : Option Addr) (cap : Nat) (W : World), hs.map CallV.pure = L → HRow W p cap hs →
    Calls Try.prog 26 #[.int .i64 t, .slice p hs.length cap] W (fun e w' => ∃ v, e = .returned v ∧ ORow W W.heap.size w' v ((thF t L).map CallV.pure) ∧ Below W.heap.size W w') ∧
    Calls Try.prog 33 #[.int .i64 t, .slice p hs.length cap] W (fun e w' => ∃ v, e = .returned v ∧ ORow W W.heap.size w' v ((thF t L).map CallV.pure) ∧ Below W.heap.size W w') := by
  intro hs p cap W hm hH
  have e : (thF t hs).map CallV.pure = (thF t L).map CallV.pure := by rw [← thF_pure, ← thF_pure, hm, hid]
  have hl := hH.len
  have h1 := of_call p cap t hs W hH.row (by omega) hH.dat
  rw [th_own, e] at h1
  have h2 := refOf_any p cap t hs W hH.row (by omega) hH.dat
  rw [e] at h2
  exact ⟨h1, h2⟩
theorem pend_two (L : List CallV) (hid : L.map CallV.pure = L) : ∃ X : List Int, X.length ≤ L.length ∧ ∀ (hs : List CallV) (p : Option Addr) (cap : Nat) (W : World), hs.map CallV.pure = L → HRow W p cap hs →
    Calls Try.prog 27 #[.slice p hs.length cap] W (fun e w' => ∃ v, e = .returned v ∧ IRow w' v X ∧ Below W.heap.size W w') ∧
    Calls Try.prog 34 #[.slice p hs.length cap] W (fun e w' => ∃ v, e = .returned v ∧ IRow w' v X ∧ Below W.heap.size W w') := by
  refine ⟨castL (places pendQ L 0), by unfold castL; rw [List.length_map]; exact places_len, fun hs p cap W hm hH => ?_⟩
  have e : places pendQ hs 0 = places pendQ L 0 := by rw [← places_pure (fun _ => rfl) hs 0, hm]
  have hl := hH.len
  refine ⟨(pending_any p cap hs W hH.row (by omega)).mono ?_, (refPending_any p cap hs W hH.row (by omega)).mono ?_⟩
  all_goals
    rintro ed w' ⟨v, rfl, ho, hb⟩
    rw [e] at ho
    exact ⟨v, rfl, IRow.own (zs := castL (places pendQ L 0)) (by unfold castL; rw [← nv_iv]; exact ho) (by simp [castL]), hb⟩
theorem eff_two (L : List CallV) (hid : L.map CallV.pure = L) (hlen : L.length ≤ 24) : ∃ (X : List Int) (ge : Int), X.length ≤ 24 ∧ ∀ (hs : List CallV) (p : Option Addr) (cap : Nat) (W : World), hs.map CallV.pure = L → HRow W p cap hs →
    Calls Try.prog 21 #[.slice p hs.length cap] W (fun e w' => ∃ v, e = .returned (.tuple #[v, .int .i64 ge]) ∧ IRow w' v X ∧ Below W.heap.size W w') ∧
    Calls Try.prog 31 #[.slice p hs.length cap] W (fun e w' => ∃ v, e = .returned (.tuple #[v, .int .i64 ge]) ∧ IRow w' v X ∧ Below W.heap.size W w') := by
  rcases check_two L with h0 | h22
  · obtain ⟨Y, hY, hYl⟩ : ∃ Y : List Nat, (∀ Z, EffIs L Z → Z = Y) ∧ Y.length ≤ 24 := by
      by_cases h : ∃ Y, EffIs L Y
      · obtain ⟨Y, hY⟩ := h
        exact ⟨Y, fun Z hZ => eff_unique hZ hY, Nat.le_trans (eff_len hY) hlen⟩
      · exact ⟨[], fun Z hZ => absurd ⟨Z, hZ⟩ h, by simp⟩
    refine ⟨castL Y, 0, by unfold castL; rw [List.length_map]; exact hYl, fun hs p cap W hm hH => ?_⟩
    have e : checkP hs = checkP L := check_of_pure (hm.trans hid.symm)
    have hl := hH.len
    have hz : (checkP hs).2 = 0 := by rw [e]; exact h0
    have tr : ∀ Z, EffIs hs Z → Z = Y := fun Z hZ => hY Z (eff_of_pure (hm.trans hid.symm) hZ)
    refine ⟨(effects_any p cap hs W hH.row (by omega) hH.ok).mono ?_, ?_⟩
    · rintro ed w' (⟨h, _⟩ | ⟨_, v, Z, hZ, rfl, ho, hb⟩)
      · rw [hz] at h; exact absurd h (by decide)
      · rw [tr Z hZ] at ho
        exact ⟨v, rfl, IRow.own (zs := castL Y) (by unfold castL; rw [← nv_iv]; exact ho) (by simp [castL]), hb⟩
    · rcases hH.row with ⟨rfl, rfl, rfl⟩ | ⟨b, off, rfl, hc1, hc2, hc3⟩
      · have hYn : Y = [] := (tr [] ⟨List.Perm.refl _, List.Pairwise.nil⟩).symm
        rw [hYn]
        have ck := refCheck_nil W
        rw [check_nilP] at ck
        go_enter Try.func31, Try.ntmps31
        go_wp2_with fail
        refine ck.mono ?_
        rintro e w1 ⟨rfl, hB1⟩
        go_wp2
        refine wp_loop_rounds 1 ?_
        rw [rounds_succ]
        go_wp2
        go_returns
        exact ⟨_, rfl, IRow.nil _, hB1⟩
      · refine (refEffects_some b off cap hs W hc1 hc2 hc3 (by omega) hH.ok hH.dat hz).mono ?_
        rintro ed w' ⟨v, Z, hZ, rfl, ho, hb⟩
        rw [tr Z hZ] at ho
        exact ⟨v, rfl, ho, hb⟩
  · refine ⟨[], 22, by simp, fun hs p cap W hm hH => ?_⟩
    have e : checkP hs = checkP L := check_of_pure (hm.trans hid.symm)
    have hl := hH.len
    have hz : (checkP hs).2 = 22 := by rw [e]; exact h22
    refine ⟨(effects_any p cap hs W hH.row (by omega) hH.ok).mono ?_, ?_⟩
    · rintro ed w' (⟨_, rfl, hb⟩ | ⟨h, _⟩)
      · exact ⟨_, rfl, IRow.nil _, hb⟩
      · rw [hz] at h; exact absurd h (by decide)
    · have ck := refCheck_any p cap hs W hH.row (by omega) hH.ok hH.dat
      obtain ⟨k1, hk1⟩ : ∃ k1, (checkP hs).1 = k1 := ⟨_, rfl⟩
      rw [hk1, hz] at ck
      clear hk1 hz e
      go_enter Try.func31, Try.ntmps31
      go_wp2_with fail
      refine ck.mono ?_
      clear ck
      rintro e w1 ⟨rfl, hB1⟩
      go_wp2
      go_returns
      exact ⟨_, rfl, IRow.nil _, hB1⟩
theorem pref_two (L : List CallV) (hid : L.map CallV.pure = L) (hlen : L.length ≤ 24) (s : Int) : ∃ (X : List CallV) (ge : Int), X.length ≤ 24 ∧ X.map CallV.pure = X ∧ ∀ (hs : List CallV) (p : Option Addr) (cap : Nat) (W : World), hs.map CallV.pure = L → HRow W p cap hs →
    Calls Try.prog 23 #[.int .i64 s, .slice p hs.length cap] W (fun e w' => ∃ v, e = .returned (.tuple #[v, .int .i64 ge]) ∧ ORow W W.heap.size w' v X ∧ Below W.heap.size W w') ∧
    Calls Try.prog 32 #[.int .i64 s, .slice p hs.length cap] W (fun e w' => ∃ v, e = .returned (.tuple #[v, .int .i64 ge]) ∧ ORow W W.heap.size w' v X ∧ Below W.heap.size W w') := by
  have main : ∀ (X : List CallV) (ge : Int), (∀ (hs : List CallV) (W : World) (ed : Ending) (w' : World), hs.map CallV.pure = L → PrefPost W s hs ed w' → ∃ v, ed = .returned (.tuple #[v, .int .i64 ge]) ∧ ORow W W.heap.size w' v X ∧ Below W.heap.size W w') → ∀ (hs : List CallV) (p : Option Addr) (cap : Nat) (W : World), hs.map CallV.pure = L → HRow W p cap hs →
      Calls Try.prog 23 #[.int .i64 s, .slice p hs.length cap] W (fun e w' => ∃ v, e = .returned (.tuple #[v, .int .i64 ge]) ∧ ORow W W.heap.size w' v X ∧ Below W.heap.size W w') ∧
      Calls Try.prog 32 #[.int .i64 s, .slice p hs.length cap] W (fun e w' => ∃ v, e = .returned (.tuple #[v, .int .i64 ge]) ∧ ORow W W.heap.size w' v X ∧ Below W.heap.size W w') := fun X ge h hs p cap W hm hH =>
    ⟨(prefix_any p cap s hs W hH.row (by have := hH.len; omega) hH.ok hH.dat).mono fun ed w' hp => h hs W ed w' hm hp, (refPrefix_any p cap s hs W hH.row (by have := hH.len; omega) hH.ok hH.dat).mono fun ed w' hp => h hs W ed w' hm hp⟩
  rcases check_two L with h0 | h22
  · by_cases hs1 : s < -1
    · refine ⟨[], 3, by simp, rfl, main [] 3 ?_⟩
      rintro hs W ed w' hm (⟨h, _⟩ | ⟨_, _, rfl, hb⟩ | ⟨_, h, _⟩)
      · rw [check_of_pure (hm.trans hid.symm), h0] at h; exact absurd h (by decide)
      · exact ⟨_, rfl, ORow.nil _ _ _, hb⟩
      · omega
    · refine ⟨prefS s L, 0, Nat.le_trans (pref_len s L) hlen, pref_idemH s L, main (prefS s L) 0 ?_⟩
      rintro hs W ed w' hm (⟨h, _⟩ | ⟨_, h, _⟩ | ⟨_, _, v, rfl, hO, hb⟩)
      · rw [check_of_pure (hm.trans hid.symm), h0] at h; exact absurd h (by decide)
      · omega
      · rw [← pref_pureH s hs, hm] at hO
        exact ⟨v, rfl, hO, hb⟩
  · refine ⟨[], 22, by simp, rfl, main [] 22 ?_⟩
    rintro hs W ed w' hm (⟨_, rfl, hb⟩ | ⟨h, _⟩ | ⟨h, _⟩)
    · exact ⟨_, rfl, ORow.nil _ _ _, hb⟩
    · rw [check_of_pure (hm.trans hid.symm), h22] at h; exact absurd h (by decide)
    · rw [check_of_pure (hm.trans hid.symm), h22] at h; exact absurd h (by decide)
theorem few_idem (cs : List CallV) : (fewL cs).map CallV.pure = fewL cs := by
  unfold fewL
  rw [List.map_map]
  rfl
/-- What holds at each point of HistoryMatches. -/
structure MI (w : World) (p : Option Addr) (cs : List CallV) (p1 : Option Addr) (cap1 : Nat) (hs : List CallV) (W : World) : Prop where
  h : HRow W p1 cap1 hs
  a : ArgRow W p cs
  bl : Below w.heap.size w W
theorem MI.on {w : World} {p : Option Addr} {cs : List CallV} {p1 : Option Addr} {cap1 : Nat} {hs : List CallV} {W W' : World} (h : MI w p cs p1 cap1 hs W) (hb : Below W.heap.size W W') : MI w p cs p1 cap1 hs W' := ⟨h.h.on hb, h.a.on hb, h.bl.trans (hb.mono h.bl.size)⟩
def MtI (w : World) (p : Option Addr) (cap : Nat) (cs : List CallV) (t s : Int) (p1 : Option Addr) (cap1 : Nat) (hs : List CallV) (a : Act) (wr : World) : Prop :=
  ∃ (r : Nat) (u : Nat → Value), a = { tmps := #[.slice p cs.length cap, .int .i64 t, .int .i64 s, u 3, u 4, u 5, .bool false, .slice p1 hs.length cap1, .int .i64 r, u 9, u 10, u 11, u 12, u 13, u 14, u 15, u 16, u 17, u 18, u 19, u 20, u 21, u 22, u 23, u 24, u 25, u 26, u 27, u 28, u 29, u 30, u 31, u 32, u 33, u 34, u 35, u 36, u 37, u 38, u 39, u 40, u 41, u 42, u 43, u 44, u 45, u 46, u 47, u 48, u 49, u 50, u 51, u 52, u 53, u 54, u 55, u 56, u 57, u 58, u 59, u 60, u 61, u 62, u 63, u 64, u 65, u 66, u 67, u 68, u 69, u 70, u 71, u 72, u 73, u 74, u 75, u 76, u 77, u 78, u 79, u 80, u 81, u 82, u 83, u 84, u 85, u 86, u 87, u 88, u 89, u 90, u 91, u 92, u 93, u 94, u 95, u 96, u 97, u 98, u 99, u 100, u 101, u 102, u 103, u 104, u 105, u 106, u 107, u 108, u 109, u 110, u 111, u 112, u 113, u 114, u 115, u 116, u 117, u 118, u 119, u 120, u 121, u 122, u 123, u 124, u 125], defers := [] } ∧ r ≤ 2 ∧ MI w p cs p1 cap1 hs wr
theorem MtI.intro {w : World} {p : Option Addr} {cap : Nat} {cs : List CallV} {t s : Int} {p1 : Option Addr} {cap1 : Nat} {hs : List CallV} {a : Act} {wr : World} (r : Nat) (h : a = { tmps := #[.slice p cs.length cap, .int .i64 t, .int .i64 s, a.tmps.getD 3 undef, a.tmps.getD 4 undef, a.tmps.getD 5 undef, .bool false, .slice p1 hs.length cap1, .int .i64 r, a.tmps.getD 9 undef, a.tmps.getD 10 undef, a.tmps.getD 11 undef, a.tmps.getD 12 undef, a.tmps.getD 13 undef, a.tmps.getD 14 undef, a.tmps.getD 15 undef, a.tmps.getD 16 undef, a.tmps.getD 17 undef, a.tmps.getD 18 undef, a.tmps.getD 19 undef, a.tmps.getD 20 undef, a.tmps.getD 21 undef, a.tmps.getD 22 undef, a.tmps.getD 23 undef, a.tmps.getD 24 undef, a.tmps.getD 25 undef, a.tmps.getD 26 undef, a.tmps.getD 27 undef, a.tmps.getD 28 undef, a.tmps.getD 29 undef, a.tmps.getD 30 undef, a.tmps.getD 31 undef, a.tmps.getD 32 undef, a.tmps.getD 33 undef, a.tmps.getD 34 undef, a.tmps.getD 35 undef, a.tmps.getD 36 undef, a.tmps.getD 37 undef, a.tmps.getD 38 undef, a.tmps.getD 39 undef, a.tmps.getD 40 undef, a.tmps.getD 41 undef, a.tmps.getD 42 undef, a.tmps.getD 43 undef, a.tmps.getD 44 undef, a.tmps.getD 45 undef, a.tmps.getD 46 undef, a.tmps.getD 47 undef, a.tmps.getD 48 undef, a.tmps.getD 49 undef, a.tmps.getD 50 undef, a.tmps.getD 51 undef, a.tmps.getD 52 undef, a.tmps.getD 53 undef, a.tmps.getD 54 undef, a.tmps.getD 55 undef, a.tmps.getD 56 undef, a.tmps.getD 57 undef, a.tmps.getD 58 undef, a.tmps.getD 59 undef, a.tmps.getD 60 undef, a.tmps.getD 61 undef, a.tmps.getD 62 undef, a.tmps.getD 63 undef, a.tmps.getD 64 undef, a.tmps.getD 65 undef, a.tmps.getD 66 undef, a.tmps.getD 67 undef, a.tmps.getD 68 undef, a.tmps.getD 69 undef, a.tmps.getD 70 undef, a.tmps.getD 71 undef, a.tmps.getD 72 undef, a.tmps.getD 73 undef, a.tmps.getD 74 undef, a.tmps.getD 75 undef, a.tmps.getD 76 undef, a.tmps.getD 77 undef, a.tmps.getD 78 undef, a.tmps.getD 79 undef, a.tmps.getD 80 undef, a.tmps.getD 81 undef, a.tmps.getD 82 undef, a.tmps.getD 83 undef, a.tmps.getD 84 undef, a.tmps.getD 85 undef, a.tmps.getD 86 undef, a.tmps.getD 87 undef, a.tmps.getD 88 undef, a.tmps.getD 89 undef, a.tmps.getD 90 undef, a.tmps.getD 91 undef, a.tmps.getD 92 undef, a.tmps.getD 93 undef, a.tmps.getD 94 undef, a.tmps.getD 95 undef, a.tmps.getD 96 undef, a.tmps.getD 97 undef, a.tmps.getD 98 undef, a.tmps.getD 99 undef, a.tmps.getD 100 undef, a.tmps.getD 101 undef, a.tmps.getD 102 undef, a.tmps.getD 103 undef, a.tmps.getD 104 undef, a.tmps.getD 105 undef, a.tmps.getD 106 undef, a.tmps.getD 107 undef, a.tmps.getD 108 undef, a.tmps.getD 109 undef, a.tmps.getD 110 undef, a.tmps.getD 111 undef, a.tmps.getD 112 undef, a.tmps.getD 113 undef, a.tmps.getD 114 undef, a.tmps.getD 115 undef, a.tmps.getD 116 undef, a.tmps.getD 117 undef, a.tmps.getD 118 undef, a.tmps.getD 119 undef, a.tmps.getD 120 undef, a.tmps.getD 121 undef, a.tmps.getD 122 undef, a.tmps.getD 123 undef, a.tmps.getD 124 undef, a.tmps.getD 125 undef], defers := [] })
    (hr : r ≤ 2) (hI : MI w p cs p1 cap1 hs wr) : MtI w p cap cs t s p1 cap1 hs a wr := ⟨r, fun i => a.tmps.getD i undef, h, hr, hI⟩
/-- A row that the function made: its form, and what it keeps behind further work. -/
structure OR (N0 M : Nat) (w0 : World) (base : Nat) (po : Option Addr) (co : Nat) (os : List CallV) (L : List CallV) (W : World) : Prop where
  own : W.ownsRow base 34 27 (.slice po os.length co) os.length (callsL os)
  row : CRow W po co os
  del : ∀ c ∈ os, DOwn w0 W c
  says : os.map CallV.pure = L
  n1 : N0 ≤ base
  n2 : N0 ≤ w0.heap.size
  m1 : ∀ g, po = some ⟨g, 0, none⟩ → g < M
  m2 : ∀ c ∈ os, ∀ g, c.da = some ⟨g, 0, none⟩ → g < M
theorem OR.on {N0 M : Nat} {w0 : World} {base : Nat} {po : Option Addr} {co : Nat} {os L : List CallV} {W W' : World} (h : OR N0 M w0 base po co os L W) (hb : Below W.heap.size W W') : OR N0 M w0 base po co os L W' :=
  ⟨own_below h.own hb, h.row.on hb, fun c hc => (h.del c hc).on hb, h.says, h.n1, h.n2, h.m1, h.m2⟩
theorem OR.of {N0 : Nat} {w0 : World} {base : Nat} {v : Value} {L : List CallV} {W : World} (h : ORow w0 base W v L) (h1 : N0 ≤ base) (h2 : N0 ≤ w0.heap.size) : ∃ po co os, v = .slice po os.length co ∧ OR N0 W.heap.size w0 base po co os L W := by
  obtain ⟨os, hm, ho, hd⟩ := h
  obtain ⟨po, co, rfl, hC⟩ := crow_of_own ho
  refine ⟨po, co, os, rfl, ho, hC, hd, hm, h1, h2, fun g hg => ?_, fun c hc g hg => ?_⟩
  · rcases hC with ⟨h, _⟩ | ⟨b, off, h, _, h3, _⟩
    · rw [h] at hg; cases hg
    · rw [h] at hg; cases hg; exact h3
  · rcases (hd c hc).2 with ⟨h, _⟩ | ⟨g', cur, h, _, h3, _⟩
    · rw [h] at hg; cases hg
    · rw [h] at hg; cases hg; exact (Array.getElem?_eq_some_iff.1 h3).1
theorem OR.keep {N0 M B : Nat} {w0 : World} {base : Nat} {po : Option Addr} {co : Nat} {os L : List CallV} {W W' : World} (h : OR N0 M w0 base po co os L W) (hk : ∀ k, B ≤ k → W'.heap[k]? = W.heap[k]?) (h1 : B ≤ base) (h2 : B ≤ w0.heap.size) : OR N0 M w0 base po co os L W' := by
  have hown : W'.ownsRow base 34 27 (.slice po os.length co) os.length (callsL os) := by
    refine ⟨h.own.1, ?_⟩
    rcases h.own.2 with h3 | ⟨g, cap, cur, e1, e2, e3, e4⟩
    · exact .inl h3
    · exact .inr ⟨g, cap, cur, e1, e2, by rw [hk g (by omega)]; exact e3, e4⟩
  refine ⟨hown, ?_, fun c hc => ?_, h.says, h.n1, h.n2, h.m1, h.m2⟩
  · obtain ⟨p', c', e, hC⟩ := crow_of_own hown
    simp only [Value.slice.injEq, true_and] at e
    obtain ⟨rfl, rfl⟩ := e
    exact hC
  · obtain ⟨h0, h3 | ⟨g, cur, e1, e2, e3, e4⟩⟩ := h.del c hc
    · exact ⟨h0, .inl h3⟩
    · exact ⟨h0, .inr ⟨g, cur, e1, e2, by rw [hk g (by omega)]; exact e3, e4⟩⟩
/-- **spoil writes the row's own blocks only.** -/
theorem spoil_any {N0 M base : Nat} {w0 W : World} {po : Option Addr} {co : Nat} {cs L : List CallV} (h : OR N0 M w0 base po co cs L W) (hl : cs.length ≤ 1000000) :
    Calls Try.prog 35 #[.slice po cs.length co] W fun e w' => (∃ r, e = .returned r) ∧ Below N0 W w' ∧ ∀ k, M ≤ k → w'.heap[k]? = W.heap[k]? := by
  have ho := h.own
  rcases ho.2 with ⟨e1, h2⟩ | ⟨g, cap, cur, e1, h2, h3, h4, h5, h6, h7⟩
  · rw [e1]
    go_enter Try.func35, Try.ntmps35
    go_wp2
    refine wp_loop_rounds 1 ?_
    rw [rounds_succ]
    go_wp2
    go_end0
    exact ⟨⟨_, rfl⟩, Below.refl _ _, fun _ _ => rfl⟩
  · have e2 := e1
    simp only [Value.slice.injEq, true_and] at e2
    obtain ⟨rfl, rfl⟩ := e2
    have hn1 := h.n1
    refine spoil_some N0 M g co cs W ⟨by omega, h.m1 g rfl⟩ ⟨⟨cur, h3, by rw [h6]; exact Nat.mul_le_mul_right _ h4, fun k c _ hc => ?_⟩, fun c hc => (h.del c hc).dw h.n2 (h.m2 c hc), Below.refl _ _, fun _ _ => rfl⟩ hl (fun c hc => (h.del c hc).1)
    have hk := (List.getElem?_eq_some_iff.1 hc).1
    have h1 := ho.cellAt (k * 27 + 26) (by omega)
    rw [cell_of_row _ _ _ _ _ _ h3, callsL_get cs k 26 c hc (by omega), callL_26] at h1
    exact h1
end Go.Proofs.Ytjinnlmmlbmodaa
