/- HistoryThreads: the walk. -/
import Derived.Test.YtjinnlmmlbmodaaHisTh
namespace Go.Proofs.Ytjinnlmmlbmodaa
open Go.RowKit Go.Lib Go.Shelf
open KitI (own_below)
attribute [local go_sem, local simp] callL_0 callL_1 callL_2 callL_3 callL_4 callL_5 callL_6 callL_7 callL_8 callL_9 callL_10 callL_11 callL_12 callL_13 callL_14 callL_15 callL_16 callL_17 callL_18 callL_19 callL_20 callL_21 callL_22 callL_23 callL_24 callL_25 callL_26 resL_0 resL_1 resL_2 resL_3 resL_4 resL_5 resL_6 resL_7 resL_8 resL_9 resL_10 resL_11 resL_12 callG_0 callG_1 callG_2 callG_3 callG_4 callG_5 callG_6 callG_7 callG_8 callG_9 callG_10 callG_11 callG_12 callG_13 callG_14 callG_15 callG_16 callG_17 callG_18 callG_19 callG_20 callG_21 callG_22 callG_23 callG_24 callG_25 callG_26 resG_0 resG_1 resG_2 resG_3 resG_4 resG_5 resG_6 resG_7 resG_8 resG_9 resG_10 resG_11 resG_12 callL_len resL_len
attribute [local go_sem ↓] loadCall_eq loadRes_eq
attribute [local go_sem] ld_new ld_first ld_second ldr_new st_new

/-- What holds throughout: the calls as few gave them. -/
structure TInv (w : World) (p1 : Option Addr) (cap1 : Nat) (hs : List CallV) (W : World) : Prop where
  h : HRow W p1 cap1 hs
  bl : Below w.heap.size w W
theorem TInv.on {w : World} {p1 : Option Addr} {cap1 : Nat} {hs : List CallV} {W W' : World} (h : TInv w p1 cap1 hs W) (hb : Below W.heap.size W W') : TInv w p1 cap1 hs W' := ⟨h.h.on hb, h.bl.trans (hb.mono h.bl.size)⟩
/-- The loop over the threads. -/
def ThI (w : World) (p1 : Option Addr) (cap1 : Nat) (hs : List CallV) (a : Act) (wr : World) : Prop :=
  ∃ (t : Nat) (u : Nat → Value), a = { tmps := #[u 0, u 1, .bool false, .slice p1 hs.length cap1, u 4, u 5, .int .i64 (cntB t hs), .int .i64 (pcnt t hs), .int .i64 t, u 9, u 10, u 11, u 12, u 13, u 14, u 15, u 16, u 17, u 18, u 19, u 20, u 21, u 22, u 23, u 24, u 25, u 26, u 27, u 28, u 29, u 30, u 31, u 32, u 33, u 34, u 35, u 36, u 37, u 38, u 39, u 40, u 41, u 42, u 43, u 44, u 45, u 46, u 47, u 48, u 49, u 50, u 51, u 52, u 53, u 54, u 55, u 56, u 57, u 58, u 59, u 60, u 61, u 62, u 63, u 64, u 65, u 66, u 67, u 68, u 69, u 70, u 71, u 72, u 73, u 74, u 75, u 76, u 77, u 78, u 79, u 80, u 81, u 82, u 83, u 84, u 85, u 86, u 87, u 88, u 89, u 90, u 91, u 92, u 93, u 94, u 95, u 96, u 97, u 98, u 99, u 100, u 101, u 102, u 103, u 104, u 105, u 106, u 107, u 108], defers := [] } ∧ t ≤ 16 ∧ TInv w p1 cap1 hs wr
theorem ThI.intro {w : World} {p1 : Option Addr} {cap1 : Nat} {hs : List CallV} {a : Act} {wr : World} (t : Nat) {z y : Int} (h : a = { tmps := #[a.tmps.getD 0 undef, a.tmps.getD 1 undef, .bool false, .slice p1 hs.length cap1, a.tmps.getD 4 undef, a.tmps.getD 5 undef, .int .i64 z, .int .i64 y, .int .i64 t, a.tmps.getD 9 undef, a.tmps.getD 10 undef, a.tmps.getD 11 undef, a.tmps.getD 12 undef, a.tmps.getD 13 undef, a.tmps.getD 14 undef, a.tmps.getD 15 undef, a.tmps.getD 16 undef, a.tmps.getD 17 undef, a.tmps.getD 18 undef, a.tmps.getD 19 undef, a.tmps.getD 20 undef, a.tmps.getD 21 undef, a.tmps.getD 22 undef, a.tmps.getD 23 undef, a.tmps.getD 24 undef, a.tmps.getD 25 undef, a.tmps.getD 26 undef, a.tmps.getD 27 undef, a.tmps.getD 28 undef, a.tmps.getD 29 undef, a.tmps.getD 30 undef, a.tmps.getD 31 undef, a.tmps.getD 32 undef, a.tmps.getD 33 undef, a.tmps.getD 34 undef, a.tmps.getD 35 undef, a.tmps.getD 36 undef, a.tmps.getD 37 undef, a.tmps.getD 38 undef, a.tmps.getD 39 undef, a.tmps.getD 40 undef, a.tmps.getD 41 undef, a.tmps.getD 42 undef, a.tmps.getD 43 undef, a.tmps.getD 44 undef, a.tmps.getD 45 undef, a.tmps.getD 46 undef, a.tmps.getD 47 undef, a.tmps.getD 48 undef, a.tmps.getD 49 undef, a.tmps.getD 50 undef, a.tmps.getD 51 undef, a.tmps.getD 52 undef, a.tmps.getD 53 undef, a.tmps.getD 54 undef, a.tmps.getD 55 undef, a.tmps.getD 56 undef, a.tmps.getD 57 undef, a.tmps.getD 58 undef, a.tmps.getD 59 undef, a.tmps.getD 60 undef, a.tmps.getD 61 undef, a.tmps.getD 62 undef, a.tmps.getD 63 undef, a.tmps.getD 64 undef, a.tmps.getD 65 undef, a.tmps.getD 66 undef, a.tmps.getD 67 undef, a.tmps.getD 68 undef, a.tmps.getD 69 undef, a.tmps.getD 70 undef, a.tmps.getD 71 undef, a.tmps.getD 72 undef, a.tmps.getD 73 undef, a.tmps.getD 74 undef, a.tmps.getD 75 undef, a.tmps.getD 76 undef, a.tmps.getD 77 undef, a.tmps.getD 78 undef, a.tmps.getD 79 undef, a.tmps.getD 80 undef, a.tmps.getD 81 undef, a.tmps.getD 82 undef, a.tmps.getD 83 undef, a.tmps.getD 84 undef, a.tmps.getD 85 undef, a.tmps.getD 86 undef, a.tmps.getD 87 undef, a.tmps.getD 88 undef, a.tmps.getD 89 undef, a.tmps.getD 90 undef, a.tmps.getD 91 undef, a.tmps.getD 92 undef, a.tmps.getD 93 undef, a.tmps.getD 94 undef, a.tmps.getD 95 undef, a.tmps.getD 96 undef, a.tmps.getD 97 undef, a.tmps.getD 98 undef, a.tmps.getD 99 undef, a.tmps.getD 100 undef, a.tmps.getD 101 undef, a.tmps.getD 102 undef, a.tmps.getD 103 undef, a.tmps.getD 104 undef, a.tmps.getD 105 undef, a.tmps.getD 106 undef, a.tmps.getD 107 undef, a.tmps.getD 108 undef], defers := [] })
    (ht : t ≤ 16) (hz : z = (cntB t hs : Nat)) (hy : y = (pcnt t hs : Nat)) (hT : TInv w p1 cap1 hs wr) : ThI w p1 cap1 hs a wr := ⟨t, fun i => a.tmps.getD i undef, by rw [← hz, ← hy]; exact h, ht, hT⟩
/-- The loop over a thread's calls. -/
def ThJ (w : World) (p1 : Option Addr) (cap1 : Nat) (hs : List CallV) (t : Nat) (po : Option Addr) (co : Nat) (own : List CallV) (m : Int) (q : Nat) (a : Act) (wr : World) : Prop :=
  ∃ (i : Nat) (u : Nat → Value), a = { tmps := #[u 0, u 1, .bool false, .slice p1 hs.length cap1, u 4, u 5, .int .i64 m, .int .i64 ((q + ((own.take i).filter pendQ).length : Nat)), .int .i64 t, .slice po own.length co, .int .i64 i, u 11, u 12, u 13, u 14, u 15, u 16, u 17, u 18, u 19, u 20, u 21, u 22, u 23, u 24, u 25, u 26, u 27, u 28, u 29, u 30, u 31, u 32, u 33, u 34, u 35, u 36, u 37, u 38, u 39, u 40, u 41, u 42, u 43, u 44, u 45, u 46, u 47, u 48, u 49, u 50, u 51, u 52, u 53, u 54, u 55, u 56, u 57, u 58, u 59, u 60, u 61, u 62, u 63, u 64, u 65, u 66, u 67, u 68, u 69, u 70, u 71, u 72, u 73, u 74, u 75, u 76, u 77, u 78, u 79, u 80, u 81, u 82, u 83, u 84, u 85, u 86, u 87, u 88, u 89, u 90, u 91, u 92, u 93, u 94, u 95, u 96, u 97, u 98, u 99, u 100, u 101, u 102, u 103, u 104, u 105, u 106, u 107, u 108], defers := [] } ∧ i ≤ own.length ∧ TInv w p1 cap1 hs wr ∧ CRow wr po co own
theorem ThJ.intro {w : World} {p1 : Option Addr} {cap1 : Nat} {hs : List CallV} {t : Nat} {po : Option Addr} {co : Nat} {own : List CallV} {m : Int} {q : Nat} {a : Act} {wr : World} (i : Nat) {z : Int} (h : a = { tmps := #[a.tmps.getD 0 undef, a.tmps.getD 1 undef, .bool false, .slice p1 hs.length cap1, a.tmps.getD 4 undef, a.tmps.getD 5 undef, .int .i64 m, .int .i64 z, .int .i64 t, .slice po own.length co, .int .i64 i, a.tmps.getD 11 undef, a.tmps.getD 12 undef, a.tmps.getD 13 undef, a.tmps.getD 14 undef, a.tmps.getD 15 undef, a.tmps.getD 16 undef, a.tmps.getD 17 undef, a.tmps.getD 18 undef, a.tmps.getD 19 undef, a.tmps.getD 20 undef, a.tmps.getD 21 undef, a.tmps.getD 22 undef, a.tmps.getD 23 undef, a.tmps.getD 24 undef, a.tmps.getD 25 undef, a.tmps.getD 26 undef, a.tmps.getD 27 undef, a.tmps.getD 28 undef, a.tmps.getD 29 undef, a.tmps.getD 30 undef, a.tmps.getD 31 undef, a.tmps.getD 32 undef, a.tmps.getD 33 undef, a.tmps.getD 34 undef, a.tmps.getD 35 undef, a.tmps.getD 36 undef, a.tmps.getD 37 undef, a.tmps.getD 38 undef, a.tmps.getD 39 undef, a.tmps.getD 40 undef, a.tmps.getD 41 undef, a.tmps.getD 42 undef, a.tmps.getD 43 undef, a.tmps.getD 44 undef, a.tmps.getD 45 undef, a.tmps.getD 46 undef, a.tmps.getD 47 undef, a.tmps.getD 48 undef, a.tmps.getD 49 undef, a.tmps.getD 50 undef, a.tmps.getD 51 undef, a.tmps.getD 52 undef, a.tmps.getD 53 undef, a.tmps.getD 54 undef, a.tmps.getD 55 undef, a.tmps.getD 56 undef, a.tmps.getD 57 undef, a.tmps.getD 58 undef, a.tmps.getD 59 undef, a.tmps.getD 60 undef, a.tmps.getD 61 undef, a.tmps.getD 62 undef, a.tmps.getD 63 undef, a.tmps.getD 64 undef, a.tmps.getD 65 undef, a.tmps.getD 66 undef, a.tmps.getD 67 undef, a.tmps.getD 68 undef, a.tmps.getD 69 undef, a.tmps.getD 70 undef, a.tmps.getD 71 undef, a.tmps.getD 72 undef, a.tmps.getD 73 undef, a.tmps.getD 74 undef, a.tmps.getD 75 undef, a.tmps.getD 76 undef, a.tmps.getD 77 undef, a.tmps.getD 78 undef, a.tmps.getD 79 undef, a.tmps.getD 80 undef, a.tmps.getD 81 undef, a.tmps.getD 82 undef, a.tmps.getD 83 undef, a.tmps.getD 84 undef, a.tmps.getD 85 undef, a.tmps.getD 86 undef, a.tmps.getD 87 undef, a.tmps.getD 88 undef, a.tmps.getD 89 undef, a.tmps.getD 90 undef, a.tmps.getD 91 undef, a.tmps.getD 92 undef, a.tmps.getD 93 undef, a.tmps.getD 94 undef, a.tmps.getD 95 undef, a.tmps.getD 96 undef, a.tmps.getD 97 undef, a.tmps.getD 98 undef, a.tmps.getD 99 undef, a.tmps.getD 100 undef, a.tmps.getD 101 undef, a.tmps.getD 102 undef, a.tmps.getD 103 undef, a.tmps.getD 104 undef, a.tmps.getD 105 undef, a.tmps.getD 106 undef, a.tmps.getD 107 undef, a.tmps.getD 108 undef], defers := [] })
    (hi : i ≤ own.length) (hz : z = ((q + ((own.take i).filter pendQ).length : Nat) : Int)) (hT : TInv w p1 cap1 hs wr ∧ CRow wr po co own) : ThJ w p1 cap1 hs t po co own m q a wr := ⟨i, fun i => a.tmps.getD i undef, by rw [← hz]; exact h, hi, hT⟩
theorem own_facts {hs : List CallV} (h0 : (checkP hs).2 = 0) {t : Int} {own : List CallV} (hm : own.map CallV.pure = (thF t hs).map CallV.pure) {i : Nat} {c : CallV} (hc : own[i]? = some c) : c.thread = t ∧ c.index = i ∧ ∀ d, 0 < i → own[i - 1]? = some d → befB d c = true := by
  have get : ∀ (j : Nat) (x : CallV), own[j]? = some x → ∃ y, (thF t hs)[j]? = some y ∧ x.pure = y.pure := fun j x hx => by
    have h1 : (own.map CallV.pure)[j]? = some x.pure := by rw [List.getElem?_map, hx]; rfl
    rw [hm, List.getElem?_map] at h1
    obtain ⟨y, hy, he⟩ := Option.map_eq_some_iff.1 h1
    exact ⟨y, hy, he.symm⟩
  have hg := th_good h0 t hs.length (Nat.le_refl _)
  rw [List.take_length] at hg
  obtain ⟨y, hy, he⟩ := get i c hc
  obtain ⟨g1, g2, g3⟩ := hg i y hy
  refine ⟨(congrArg CallV.thread he : c.pure.thread = y.pure.thread).trans g1, (congrArg CallV.index he : c.pure.index = y.pure.index).trans g2, fun d h0 hd => ?_⟩
  obtain ⟨z, hz, hez⟩ := get (i - 1) d hd
  have h1 : d.answered = z.answered := (congrArg CallV.answered hez : d.pure.answered = z.pure.answered)
  have h2 : c.invoked = y.invoked := (congrArg CallV.invoked he : c.pure.invoked = y.pure.invoked)
  have := g3 z h0 hz
  unfold befB at this ⊢
  rw [h1, h2]
  exact this
theorem pend_map {a b : List CallV} (h : a.map CallV.pure = b.map CallV.pure) : (a.filter pendQ).length = (b.filter pendQ).length := by
  have e : ∀ l : List CallV, ((l.map CallV.pure).filter pendQ).length = (l.filter pendQ).length := fun l => by
    rw [List.filter_map, List.length_map]; rfl
  rw [← e a, h, e b]
theorem own_form {W : World} {base : Nat} {e : TypeId} {size n : Nat} {v : Value} {xs : List Value} (h : W.ownsRow base e size v n xs) : ∃ p cap, v = .slice p n cap := by
  rcases h.2 with ⟨h1, h2⟩ | ⟨g, cap, cur, h1, _⟩
  · exact ⟨none, 0, by rw [h1, h2]⟩
  · exact ⟨_, _, h1⟩
theorem none_call {hs : List CallV} (h0 : (checkP hs).2 = 0) (p1 : Option Addr) (cap1 : Nat) (t : Int) (ht : t < 0 ∨ 16 ≤ t) (W : World) (hH : HRow W p1 cap1 hs) :
    Calls Try.prog 26 #[.int .i64 t, .slice p1 hs.length cap1] W fun e w' => ∃ p cap, e = .returned (.slice p 0 cap) ∧ Below W.heap.size W w' := by
  refine (of_call p1 cap1 t hs W hH.row (by have := hH.len; omega) hH.dat).mono ?_
  rintro e w' ⟨v, rfl, hO, hb⟩
  rw [th_own, th_none h0 ht] at hO
  obtain ⟨p, cap, rfl⟩ := hO.len
  exact ⟨p, cap, rfl, hb⟩
set_option linter.unusedSimpArgs false in
set_option maxRecDepth 100000 in
set_option maxHeartbeats 2000000 in
theorem walkHistoryThreads (p : Option Addr) (cap : Nat) (cs : List CallV) (w : World) (hA : ArgRow w p cs) : Calls Try.prog 8 #[.slice p cs.length cap] w fun e w' => e = .returned (.bool true) ∧ Below w.heap.size w w' := by
  go_enter Try.func8, Try.ntmps8
  go_wp2_with fail
  refine (few_h p cap cs w hA).mono ?_
  rintro e w1 ⟨p1, cap1, hs, rfl, hm, hH1, hB1⟩
  have hlen := hH1.len
  have ck := check_any p1 cap1 hs w1 hH1.row (by omega) hH1.ok
  obtain ⟨k1, hk1⟩ : ∃ k1, (checkP hs).1 = k1 := ⟨_, rfl⟩
  rw [hk1] at ck
  rcases check_two hs with h0 | h22
  · rw [h0] at ck
    go_wp2_with fail
    refine ck.mono ?_
    clear ck hk1
    rintro e w2 ⟨rfl, hb⟩
    have hT : TInv w p1 cap1 hs w2 := ⟨hH1.on hb, hB1.trans (hb.mono hB1.size)⟩
    have Hm := Lib.hid hm
    clear hb hH1 hB1 hm
    go_wp2
    refine wp_loop (ThI w p1 cap1 hs) (fun a _ => 16 - (intOf (a.tmps.getD 8 undef)).toNat) ?_ ?_
    · exact ThI.intro 0 rfl (by omega) (by rw [cntB_zero]; rfl) (by rw [pcnt_zero]; rfl) hT
    · clear hT
      rintro a wr ⟨t, u, rfl, ht, hT⟩
      have hcle : cntB t hs ≤ hs.length := List.length_filter_le _ _
      have hple : pcnt t hs ≤ hs.length := List.length_filter_le _ _
      by_cases htl : t < 16
      · have oc := of_call p1 cap1 (t : Int) hs wr hT.h.row (by omega) hT.h.dat
        rw [th_own] at oc
        have hc1 := cntB_succ t hs
        have hp1 := pcnt_succ t hs
        have hthl : (thF (t : Int) hs).length ≤ hs.length := List.length_filter_le _ _
        generalize hcB : cntB t hs = cB at *
        generalize hpB : pcnt t hs = pB at *
        have HcB := Lib.hid (And.intro hcB hpB)
        clear hcB hpB
        have hc1' := Lib.hid hc1
        have hp1' := Lib.hid hp1
        clear hc1 hp1
        go_wp2_with fail
        refine oc.mono ?_
        clear oc
        rintro e w3 ⟨v, rfl, ⟨own, hmo, howno, _⟩, hb⟩
        obtain ⟨po, co, rfl, hCo⟩ := crow_of_own howno
        have hT3 := hT.on hb
        have hol : own.length = (thF (t : Int) hs).length := by have := congrArg List.length hmo; simpa using this
        have Hmo := Lib.hid hmo
        clear hb hT howno hmo
        have hadd : (cB : Int) + (own.length : Int) = (cntB (t + 1) hs : Nat) := by rw [hc1'.out, hol]; omega
        have Hadd := Lib.hid hadd
        have Hol := Lib.hid hol
        have hol2 : own.length ≤ hs.length := by omega
        clear hadd hol hthl
        go_wp2
        refine wp_loop (ThJ w p1 cap1 hs t po co own ((cB : Int) + (own.length : Int)) pB) (fun a _ => own.length - (intOf (a.tmps.getD 10 undef)).toNat) ?_ ?_
        · exact ThJ.intro 0 rfl (by omega) (by simp) ⟨hT3, hCo⟩
        · clear hT3 hCo
          rintro a wr ⟨i, u, rfl, hi, hT, hCo⟩
          have hqle : ((own.take i).filter pendQ).length ≤ 24 := Nat.le_trans (List.length_filter_le _ _) (by rw [List.length_take]; omega)
          by_cases hil : i < own.length
          · obtain ⟨c, hc⟩ : ∃ c, own[i]? = some c := ⟨_, List.getElem?_eq_getElem hil⟩
            obtain ⟨f1, f2, f3⟩ := own_facts h0 Hmo.out hc
            obtain ⟨bo, oo, rfl, hcapo, hbo, hCo2⟩ : ∃ b off, po = some ⟨b, off, none⟩ ∧ own.length ≤ co ∧ b < wr.heap.size ∧ CAt wr b off own := by
              rcases hCo with ⟨_, _, h⟩ | h
              · rw [h] at hil; simp at hil
              · exact h
            have kx : ∀ W, Below wr.heap.size wr W → W.cell? ⟨bo, oo + i * 27, none⟩ = some (.int .i64 c.thread) ∧ W.cell? ⟨bo, oo + i * 27 + 1, none⟩ = some (.int .i64 c.index) ∧ W.cell? ⟨bo, oo + i * 27 + 12, none⟩ = some (.int .i64 c.answered) := fun W h => by
              have hh := hCo2.on h
              have a0 := hh.cell hc 0 (by omega)
              have a1 := hh.cell hc 1 (by omega)
              have a2 := hh.cell hc 12 (by omega)
              rw [callL_0, Nat.add_zero] at a0
              rw [callL_1] at a1
              rw [callL_12] at a2
              exact ⟨a0, a1, a2⟩
            have hpend : (pendQ c = false → ((own.take (i + 1)).filter pendQ).length = ((own.take i).filter pendQ).length) ∧ (pendQ c = true → ((own.take (i + 1)).filter pendQ).length = ((own.take i).filter pendQ).length + 1) := by
              rw [List.take_add_one, hc, Option.toList_some, List.filter_append, List.length_append]
              constructor <;> intro h <;> simp [h]
            have Hpend := Lib.hid hpend
            have Kx := Lib.hid kx
            have Hc := Lib.hid hc
            have Hf3 := Lib.hid f3
            have d1 : (c.thread != (t : Int)) = false := by simp [f1]
            have d2 : (c.index != (i : Int)) = false := by simp [f2]
            have e1 : (c.thread == (t : Int)) = true := by simp [f1]
            have e2 : (c.index == (i : Int)) = true := by simp [f2]
            generalize ((own.take i).filter pendQ).length = pi at *
            clear hpend kx f3 hCo f1 f2
            by_cases hi0 : i = 0
            · have hd0 : decide (0 < i) = false := by simp [hi0]
              have Hi0 := Lib.hid hi0
              clear hi0
              have q := Kx.out wr.drew (Below.refl _ _).drew
              have HT2 := Lib.hid (And.intro (hT.on (Below.refl _ _).drew) (CRow.on (w := wr) (.inr ⟨bo, oo, rfl, hcapo, hbo, hCo2⟩) (Below.refl _ _).drew))
              go_wp2
              refine wp_region_noPanic ?_
              refine wp_region_held_drew (S := fun W => W.cell? ⟨bo, oo + i * 27, none⟩ = some (.int .i64 c.thread) ∧ W.cell? ⟨bo, oo + i * 27 + 1, none⟩ = some (.int .i64 c.index)) (by kernel_rfl) ?_ (fun hHeld => ?_)
              · exact ⟨q.1, q.2.1⟩
              first | (refine np_skip (i := 0) rfl (by kernel_rfl) (by kernel_rfl) (by kernel_rfl) (by rfl) (by assumption) ?_; (try simp only [Act.put, List.setIfInBounds_toArray, List.set_cons_zero, List.set_cons_succ])) | (refine np_take (i := 0) (v := ?_) rfl (by kernel_rfl) (by kernel_rfl) (by kernel_rfl) (by rfl) ?_ (by assumption) ?_; rotate_left 1; (· (intro w hSw; (try dsimp only at hSw); go_simp; all_goals with_reducible rfl)); (try simp only [Act.put, List.setIfInBounds_toArray, List.set_cons_zero, List.set_cons_succ]))
              first | (refine np_skip (i := 1) rfl (by kernel_rfl) (by kernel_rfl) (by kernel_rfl) (by rfl) (by assumption) ?_; (try simp only [Act.put, List.setIfInBounds_toArray, List.set_cons_zero, List.set_cons_succ])) | (refine np_take (i := 1) (v := ?_) rfl (by kernel_rfl) (by kernel_rfl) (by kernel_rfl) (by rfl) ?_ (by assumption) ?_; rotate_left 1; (· (intro w hSw; (try dsimp only at hSw); go_simp; all_goals with_reducible rfl)); (try simp only [Act.put, List.setIfInBounds_toArray, List.set_cons_zero, List.set_cons_succ]))
              first | (refine np_skip (i := 2) rfl (by kernel_rfl) (by kernel_rfl) (by kernel_rfl) (by rfl) (by assumption) ?_; (try simp only [Act.put, List.setIfInBounds_toArray, List.set_cons_zero, List.set_cons_succ])) | (refine np_take (i := 2) (v := ?_) rfl (by kernel_rfl) (by kernel_rfl) (by kernel_rfl) (by rfl) ?_ (by assumption) ?_; rotate_left 1; (· (intro w hSw; (try dsimp only at hSw); go_simp; all_goals with_reducible rfl)); (try simp only [Act.put, List.setIfInBounds_toArray, List.set_cons_zero, List.set_cons_succ]))
              first | (refine np_skip (i := 3) rfl (by kernel_rfl) (by kernel_rfl) (by kernel_rfl) (by rfl) (by assumption) ?_; (try simp only [Act.put, List.setIfInBounds_toArray, List.set_cons_zero, List.set_cons_succ])) | (refine np_take (i := 3) (v := ?_) rfl (by kernel_rfl) (by kernel_rfl) (by kernel_rfl) (by rfl) ?_ (by assumption) ?_; rotate_left 1; (· (intro w hSw; (try dsimp only at hSw); go_simp; all_goals with_reducible rfl)); (try simp only [Act.put, List.setIfInBounds_toArray, List.set_cons_zero, List.set_cons_succ]))
              first | (refine np_skip (i := 4) rfl (by kernel_rfl) (by kernel_rfl) (by kernel_rfl) (by rfl) (by assumption) ?_; (try simp only [Act.put, List.setIfInBounds_toArray, List.set_cons_zero, List.set_cons_succ])) | (refine np_take (i := 4) (v := ?_) rfl (by kernel_rfl) (by kernel_rfl) (by kernel_rfl) (by rfl) ?_ (by assumption) ?_; rotate_left 1; (· (intro w hSw; (try dsimp only at hSw); go_simp; all_goals with_reducible rfl)); (try simp only [Act.put, List.setIfInBounds_toArray, List.set_cons_zero, List.set_cons_succ]))
              first | (refine np_skip (i := 5) rfl (by kernel_rfl) (by kernel_rfl) (by kernel_rfl) (by rfl) (by assumption) ?_; (try simp only [Act.put, List.setIfInBounds_toArray, List.set_cons_zero, List.set_cons_succ])) | (refine np_take (i := 5) (v := ?_) rfl (by kernel_rfl) (by kernel_rfl) (by kernel_rfl) (by rfl) ?_ (by assumption) ?_; rotate_left 1; (· (intro w hSw; (try dsimp only at hSw); go_simp; all_goals with_reducible rfl)); (try simp only [Act.put, List.setIfInBounds_toArray, List.set_cons_zero, List.set_cons_succ]))
              first | (refine np_skip (i := 6) rfl (by kernel_rfl) (by kernel_rfl) (by kernel_rfl) (by rfl) (by assumption) ?_; (try simp only [Act.put, List.setIfInBounds_toArray, List.set_cons_zero, List.set_cons_succ])) | (refine np_take (i := 6) (v := ?_) rfl (by kernel_rfl) (by kernel_rfl) (by kernel_rfl) (by rfl) ?_ (by assumption) ?_; rotate_left 1; (· (intro w hSw; (try dsimp only at hSw); go_simp; all_goals with_reducible rfl)); (try simp only [Act.put, List.setIfInBounds_toArray, List.set_cons_zero, List.set_cons_succ]))
              first | (refine np_skip (i := 7) rfl (by kernel_rfl) (by kernel_rfl) (by kernel_rfl) (by rfl) (by assumption) ?_; (try simp only [Act.put, List.setIfInBounds_toArray, List.set_cons_zero, List.set_cons_succ])) | (refine np_take (i := 7) (v := ?_) rfl (by kernel_rfl) (by kernel_rfl) (by kernel_rfl) (by rfl) ?_ (by assumption) ?_; rotate_left 1; (· (intro w hSw; (try dsimp only at hSw); go_simp; all_goals with_reducible rfl)); (try simp only [Act.put, List.setIfInBounds_toArray, List.set_cons_zero, List.set_cons_succ]))
              first | (refine np_skip (i := 8) rfl (by kernel_rfl) (by kernel_rfl) (by kernel_rfl) (by rfl) (by assumption) ?_; (try simp only [Act.put, List.setIfInBounds_toArray, List.set_cons_zero, List.set_cons_succ])) | (refine np_take (i := 8) (v := ?_) rfl (by kernel_rfl) (by kernel_rfl) (by kernel_rfl) (by rfl) ?_ (by assumption) ?_; rotate_left 1; (· (intro w hSw; (try dsimp only at hSw); go_simp; all_goals with_reducible rfl)); (try simp only [Act.put, List.setIfInBounds_toArray, List.set_cons_zero, List.set_cons_succ]))
              first | (refine np_skip (i := 9) rfl (by kernel_rfl) (by kernel_rfl) (by kernel_rfl) (by rfl) (by assumption) ?_; (try simp only [Act.put, List.setIfInBounds_toArray, List.set_cons_zero, List.set_cons_succ])) | (refine np_take (i := 9) (v := ?_) rfl (by kernel_rfl) (by kernel_rfl) (by kernel_rfl) (by rfl) ?_ (by assumption) ?_; rotate_left 1; (· (intro w hSw; (try dsimp only at hSw); go_simp; all_goals with_reducible rfl)); (try simp only [Act.put, List.setIfInBounds_toArray, List.set_cons_zero, List.set_cons_succ]))
              first | (refine np_skip (i := 10) rfl (by kernel_rfl) (by kernel_rfl) (by kernel_rfl) (by rfl) (by assumption) ?_; (try simp only [Act.put, List.setIfInBounds_toArray, List.set_cons_zero, List.set_cons_succ])) | (refine np_take (i := 10) (v := ?_) rfl (by kernel_rfl) (by kernel_rfl) (by kernel_rfl) (by rfl) ?_ (by assumption) ?_; rotate_left 1; (· (intro w hSw; (try dsimp only at hSw); go_simp; all_goals with_reducible rfl)); (try simp only [Act.put, List.setIfInBounds_toArray, List.set_cons_zero, List.set_cons_succ]))
              first | (refine np_skip (i := 11) rfl (by kernel_rfl) (by kernel_rfl) (by kernel_rfl) (by rfl) (by assumption) ?_; (try simp only [Act.put, List.setIfInBounds_toArray, List.set_cons_zero, List.set_cons_succ])) | (refine np_take (i := 11) (v := ?_) rfl (by kernel_rfl) (by kernel_rfl) (by kernel_rfl) (by rfl) ?_ (by assumption) ?_; rotate_left 1; (· (intro w hSw; (try dsimp only at hSw); go_simp; all_goals with_reducible rfl)); (try simp only [Act.put, List.setIfInBounds_toArray, List.set_cons_zero, List.set_cons_succ]))
              first | (refine np_skip (i := 12) rfl (by kernel_rfl) (by kernel_rfl) (by kernel_rfl) (by rfl) (by assumption) ?_; (try simp only [Act.put, List.setIfInBounds_toArray, List.set_cons_zero, List.set_cons_succ])) | (refine np_take (i := 12) (v := ?_) rfl (by kernel_rfl) (by kernel_rfl) (by kernel_rfl) (by rfl) ?_ (by assumption) ?_; rotate_left 1; (· (intro w hSw; (try dsimp only at hSw); go_simp; all_goals with_reducible rfl)); (try simp only [Act.put, List.setIfInBounds_toArray, List.set_cons_zero, List.set_cons_succ]))
              first | (refine np_skip (i := 13) rfl (by kernel_rfl) (by kernel_rfl) (by kernel_rfl) (by rfl) (by assumption) ?_; (try simp only [Act.put, List.setIfInBounds_toArray, List.set_cons_zero, List.set_cons_succ])) | (refine np_take (i := 13) (v := ?_) rfl (by kernel_rfl) (by kernel_rfl) (by kernel_rfl) (by rfl) ?_ (by assumption) ?_; rotate_left 1; (· (intro w hSw; (try dsimp only at hSw); go_simp; all_goals with_reducible rfl)); (try simp only [Act.put, List.setIfInBounds_toArray, List.set_cons_zero, List.set_cons_succ]))
              first | (refine np_skip (i := 14) rfl (by kernel_rfl) (by kernel_rfl) (by kernel_rfl) (by rfl) (by assumption) ?_; (try simp only [Act.put, List.setIfInBounds_toArray, List.set_cons_zero, List.set_cons_succ])) | (refine np_take (i := 14) (v := ?_) rfl (by kernel_rfl) (by kernel_rfl) (by kernel_rfl) (by rfl) ?_ (by assumption) ?_; rotate_left 1; (· (intro w hSw; (try dsimp only at hSw); go_simp; all_goals with_reducible rfl)); (try simp only [Act.put, List.setIfInBounds_toArray, List.set_cons_zero, List.set_cons_succ]))
              first | (refine np_skip (i := 15) rfl (by kernel_rfl) (by kernel_rfl) (by kernel_rfl) (by rfl) (by assumption) ?_; (try simp only [Act.put, List.setIfInBounds_toArray, List.set_cons_zero, List.set_cons_succ])) | (refine np_take (i := 15) (v := ?_) rfl (by kernel_rfl) (by kernel_rfl) (by kernel_rfl) (by rfl) ?_ (by assumption) ?_; rotate_left 1; (· (intro w hSw; (try dsimp only at hSw); go_simp; all_goals with_reducible rfl)); (try simp only [Act.put, List.setIfInBounds_toArray, List.set_cons_zero, List.set_cons_succ]))
              first | (refine np_skip (i := 16) rfl (by kernel_rfl) (by kernel_rfl) (by kernel_rfl) (by rfl) (by assumption) ?_; (try simp only [Act.put, List.setIfInBounds_toArray, List.set_cons_zero, List.set_cons_succ])) | (refine np_take (i := 16) (v := ?_) rfl (by kernel_rfl) (by kernel_rfl) (by kernel_rfl) (by rfl) ?_ (by assumption) ?_; rotate_left 1; (· (intro w hSw; (try dsimp only at hSw); go_simp; all_goals with_reducible rfl)); (try simp only [Act.put, List.setIfInBounds_toArray, List.set_cons_zero, List.set_cons_succ]))
              first | (refine np_skip (i := 17) rfl (by kernel_rfl) (by kernel_rfl) (by kernel_rfl) (by rfl) (by assumption) ?_; (try simp only [Act.put, List.setIfInBounds_toArray, List.set_cons_zero, List.set_cons_succ])) | (refine np_take (i := 17) (v := ?_) rfl (by kernel_rfl) (by kernel_rfl) (by kernel_rfl) (by rfl) ?_ (by assumption) ?_; rotate_left 1; (· (intro w hSw; (try dsimp only at hSw); go_simp; all_goals with_reducible rfl)); (try simp only [Act.put, List.setIfInBounds_toArray, List.set_cons_zero, List.set_cons_succ]))
              first | (refine np_skip (i := 18) rfl (by kernel_rfl) (by kernel_rfl) (by kernel_rfl) (by rfl) (by assumption) ?_; (try simp only [Act.put, List.setIfInBounds_toArray, List.set_cons_zero, List.set_cons_succ])) | (refine np_take (i := 18) (v := ?_) rfl (by kernel_rfl) (by kernel_rfl) (by kernel_rfl) (by rfl) ?_ (by assumption) ?_; rotate_left 1; (· (intro w hSw; (try dsimp only at hSw); go_simp; all_goals with_reducible rfl)); (try simp only [Act.put, List.setIfInBounds_toArray, List.set_cons_zero, List.set_cons_succ]))
              first | (refine np_skip (i := 19) rfl (by kernel_rfl) (by kernel_rfl) (by kernel_rfl) (by rfl) (by assumption) ?_; (try simp only [Act.put, List.setIfInBounds_toArray, List.set_cons_zero, List.set_cons_succ])) | (refine np_take (i := 19) (v := ?_) rfl (by kernel_rfl) (by kernel_rfl) (by kernel_rfl) (by rfl) ?_ (by assumption) ?_; rotate_left 1; (· (intro w hSw; (try dsimp only at hSw); go_simp; all_goals with_reducible rfl)); (try simp only [Act.put, List.setIfInBounds_toArray, List.set_cons_zero, List.set_cons_succ]))
              first | (refine np_skip (i := 20) rfl (by kernel_rfl) (by kernel_rfl) (by kernel_rfl) (by rfl) (by assumption) ?_; (try simp only [Act.put, List.setIfInBounds_toArray, List.set_cons_zero, List.set_cons_succ])) | (refine np_take (i := 20) (v := ?_) rfl (by kernel_rfl) (by kernel_rfl) (by kernel_rfl) (by rfl) ?_ (by assumption) ?_; rotate_left 1; (· (intro w hSw; (try dsimp only at hSw); go_simp; all_goals with_reducible rfl)); (try simp only [Act.put, List.setIfInBounds_toArray, List.set_cons_zero, List.set_cons_succ]))
              first | (refine np_skip (i := 21) rfl (by kernel_rfl) (by kernel_rfl) (by kernel_rfl) (by rfl) (by assumption) ?_; (try simp only [Act.put, List.setIfInBounds_toArray, List.set_cons_zero, List.set_cons_succ])) | (refine np_take (i := 21) (v := ?_) rfl (by kernel_rfl) (by kernel_rfl) (by kernel_rfl) (by rfl) ?_ (by assumption) ?_; rotate_left 1; (· (intro w hSw; (try dsimp only at hSw); go_simp; all_goals with_reducible rfl)); (try simp only [Act.put, List.setIfInBounds_toArray, List.set_cons_zero, List.set_cons_succ]))
              first | (refine np_skip (i := 22) rfl (by kernel_rfl) (by kernel_rfl) (by kernel_rfl) (by rfl) (by assumption) ?_; (try simp only [Act.put, List.setIfInBounds_toArray, List.set_cons_zero, List.set_cons_succ])) | (refine np_take (i := 22) (v := ?_) rfl (by kernel_rfl) (by kernel_rfl) (by kernel_rfl) (by rfl) ?_ (by assumption) ?_; rotate_left 1; (· (intro w hSw; (try dsimp only at hSw); go_simp; all_goals with_reducible rfl)); (try simp only [Act.put, List.setIfInBounds_toArray, List.set_cons_zero, List.set_cons_succ]))
              first | (refine np_skip (i := 23) rfl (by kernel_rfl) (by kernel_rfl) (by kernel_rfl) (by rfl) (by assumption) ?_; (try simp only [Act.put, List.setIfInBounds_toArray, List.set_cons_zero, List.set_cons_succ])) | (refine np_take (i := 23) (v := ?_) rfl (by kernel_rfl) (by kernel_rfl) (by kernel_rfl) (by rfl) ?_ (by assumption) ?_; rotate_left 1; (· (intro w hSw; (try dsimp only at hSw); go_simp; all_goals with_reducible rfl)); (try simp only [Act.put, List.setIfInBounds_toArray, List.set_cons_zero, List.set_cons_succ]))
              first | (refine np_skip (i := 24) rfl (by kernel_rfl) (by kernel_rfl) (by kernel_rfl) (by rfl) (by assumption) ?_; (try simp only [Act.put, List.setIfInBounds_toArray, List.set_cons_zero, List.set_cons_succ])) | (refine np_take (i := 24) (v := ?_) rfl (by kernel_rfl) (by kernel_rfl) (by kernel_rfl) (by rfl) ?_ (by assumption) ?_; rotate_left 1; (· (intro w hSw; (try dsimp only at hSw); go_simp; all_goals with_reducible rfl)); (try simp only [Act.put, List.setIfInBounds_toArray, List.set_cons_zero, List.set_cons_succ]))
              first | (refine np_skip (i := 25) rfl (by kernel_rfl) (by kernel_rfl) (by kernel_rfl) (by rfl) (by assumption) ?_; (try simp only [Act.put, List.setIfInBounds_toArray, List.set_cons_zero, List.set_cons_succ])) | (refine np_take (i := 25) (v := ?_) rfl (by kernel_rfl) (by kernel_rfl) (by kernel_rfl) (by rfl) ?_ (by assumption) ?_; rotate_left 1; (· (intro w hSw; (try dsimp only at hSw); go_simp; all_goals with_reducible rfl)); (try simp only [Act.put, List.setIfInBounds_toArray, List.set_cons_zero, List.set_cons_succ]))
              first | (refine np_skip (i := 26) rfl (by kernel_rfl) (by kernel_rfl) (by kernel_rfl) (by rfl) (by assumption) ?_; (try simp only [Act.put, List.setIfInBounds_toArray, List.set_cons_zero, List.set_cons_succ])) | (refine np_take (i := 26) (v := ?_) rfl (by kernel_rfl) (by kernel_rfl) (by kernel_rfl) (by rfl) ?_ (by assumption) ?_; rotate_left 1; (· (intro w hSw; (try dsimp only at hSw); go_simp; all_goals with_reducible rfl)); (try simp only [Act.put, List.setIfInBounds_toArray, List.set_cons_zero, List.set_cons_succ]))
              first | (refine np_skip (i := 27) rfl (by kernel_rfl) (by kernel_rfl) (by kernel_rfl) (by rfl) (by assumption) ?_; (try simp only [Act.put, List.setIfInBounds_toArray, List.set_cons_zero, List.set_cons_succ])) | (refine np_take (i := 27) (v := ?_) rfl (by kernel_rfl) (by kernel_rfl) (by kernel_rfl) (by rfl) ?_ (by assumption) ?_; rotate_left 1; (· (intro w hSw; (try dsimp only at hSw); go_simp; all_goals with_reducible rfl)); (try simp only [Act.put, List.setIfInBounds_toArray, List.set_cons_zero, List.set_cons_succ]))
              first | (refine np_skip (i := 28) rfl (by kernel_rfl) (by kernel_rfl) (by kernel_rfl) (by rfl) (by assumption) ?_; (try simp only [Act.put, List.setIfInBounds_toArray, List.set_cons_zero, List.set_cons_succ])) | (refine np_take (i := 28) (v := ?_) rfl (by kernel_rfl) (by kernel_rfl) (by kernel_rfl) (by rfl) ?_ (by assumption) ?_; rotate_left 1; (· (intro w hSw; (try dsimp only at hSw); go_simp; all_goals with_reducible rfl)); (try simp only [Act.put, List.setIfInBounds_toArray, List.set_cons_zero, List.set_cons_succ]))
              first | (refine np_skip (i := 29) rfl (by kernel_rfl) (by kernel_rfl) (by kernel_rfl) (by rfl) (by assumption) ?_; (try simp only [Act.put, List.setIfInBounds_toArray, List.set_cons_zero, List.set_cons_succ])) | (refine np_take (i := 29) (v := ?_) rfl (by kernel_rfl) (by kernel_rfl) (by kernel_rfl) (by rfl) ?_ (by assumption) ?_; rotate_left 1; (· (intro w hSw; (try dsimp only at hSw); go_simp; all_goals with_reducible rfl)); (try simp only [Act.put, List.setIfInBounds_toArray, List.set_cons_zero, List.set_cons_succ]))
              first | (refine np_skip (i := 30) rfl (by kernel_rfl) (by kernel_rfl) (by kernel_rfl) (by rfl) (by assumption) ?_; (try simp only [Act.put, List.setIfInBounds_toArray, List.set_cons_zero, List.set_cons_succ])) | (refine np_take (i := 30) (v := ?_) rfl (by kernel_rfl) (by kernel_rfl) (by kernel_rfl) (by rfl) ?_ (by assumption) ?_; rotate_left 1; (· (intro w hSw; (try dsimp only at hSw); go_simp; all_goals with_reducible rfl)); (try simp only [Act.put, List.setIfInBounds_toArray, List.set_cons_zero, List.set_cons_succ]))
              first | (refine np_skip (i := 31) rfl (by kernel_rfl) (by kernel_rfl) (by kernel_rfl) (by rfl) (by assumption) ?_; (try simp only [Act.put, List.setIfInBounds_toArray, List.set_cons_zero, List.set_cons_succ])) | (refine np_take (i := 31) (v := ?_) rfl (by kernel_rfl) (by kernel_rfl) (by kernel_rfl) (by rfl) ?_ (by assumption) ?_; rotate_left 1; (· (intro w hSw; (try dsimp only at hSw); go_simp; all_goals with_reducible rfl)); (try simp only [Act.put, List.setIfInBounds_toArray, List.set_cons_zero, List.set_cons_succ]))
              first | (refine np_skip (i := 32) rfl (by kernel_rfl) (by kernel_rfl) (by kernel_rfl) (by rfl) (by assumption) ?_; (try simp only [Act.put, List.setIfInBounds_toArray, List.set_cons_zero, List.set_cons_succ])) | (refine np_take (i := 32) (v := ?_) rfl (by kernel_rfl) (by kernel_rfl) (by kernel_rfl) (by rfl) ?_ (by assumption) ?_; rotate_left 1; (· (intro w hSw; (try dsimp only at hSw); go_simp; all_goals with_reducible rfl)); (try simp only [Act.put, List.setIfInBounds_toArray, List.set_cons_zero, List.set_cons_succ]))
              refine wpAnyH_done (by kernel_rfl) ?_ _
              refine NoPanic.normal ?_
              obtain ⟨_, _, q3⟩ := q
              by_cases hpq : c.answered < 0
              · have hpd : pendQ c = true := by simpa [pendQ] using hpq
                have hop := Hpend.out.2 hpd
                have Hop := Lib.hid hop
                clear hpd hop
                go_wp2
                exact ⟨ThJ.intro (i + 1) rfl (by omega) (by rw [Hop.out]; go_num) HT2.out, by simp [intOf]; omega⟩
              · have hpd : pendQ c = false := by simpa [pendQ] using hpq
                have hop := Hpend.out.1 hpd
                have Hop := Lib.hid hop
                clear hpd hop
                go_wp2
                exact ⟨ThJ.intro (i + 1) rfl (by omega) (by have := Hop.out; omega) HT2.out, by simp [intOf]; omega⟩
            · have hd0 : decide (0 < i) = true := by simp; omega
              obtain ⟨d, hd⟩ : ∃ d, own[i - 1]? = some d := ⟨_, List.getElem?_eq_getElem (by omega)⟩
              have hbf := Hf3.out d (by omega) hd
              have bc : ∀ W, Calls Try.prog 10 #[.agg (callL d).toArray, .agg (callL c).toArray] W fun e w' => e = .returned (.bool true) ∧ Below W.heap.size W w' := fun W => by
                have h := before_any d c W
                rwa [hbf] at h
              have ks : ∀ W, Below wr.heap.size wr W → (W.cell? ⟨bo, oo + i * 27, none⟩ = some (.int .i64 c.thread) ∧ W.cell? ⟨bo, oo + i * 27 + 1, none⟩ = some (.int .i64 c.index) ∧ (loadCall (.pointer (some ⟨bo, oo + (i - 1) * 27, none⟩))).run Try.prog W = .ok (.agg (callL d).toArray) W ∧ (loadCall (.pointer (some ⟨bo, oo + i * 27, none⟩))).run Try.prog W = .ok (.agg (callL c).toArray) W) ∧ Below wr.heap.size wr W := fun W h =>
                ⟨⟨(Kx.out W h).1, (Kx.out W h).2.1, (hCo2.on h).load hd, (hCo2.on h).load Hc.out⟩, h⟩
              have Ks := Lib.hid ks
              have hw1 : IntKind.i64.wrap ((i : Int) - 1) = (i : Int) - 1 := IntWalk.i64_in _ (by omega)
              have hk1 : (1 : Int) ≤ (i : Int) := by omega
              have hk2 : (0 : Int) ≤ (i : Int) - 1 := by omega
              have hk3 : (i : Int) - 1 < (own.length : Int) := by omega
              have hx0 : Below wr.heap.size wr wr.drew := (Below.refl _ _).drew
              clear hi0 hd hbf ks
              go_wp2
              refine wp_region_noPanic ?_
              refine wp_region_held_drew (S := fun W => (W.cell? ⟨bo, oo + i * 27, none⟩ = some (.int .i64 c.thread) ∧ W.cell? ⟨bo, oo + i * 27 + 1, none⟩ = some (.int .i64 c.index) ∧ (loadCall (.pointer (some ⟨bo, oo + (i - 1) * 27, none⟩))).run Try.prog W = .ok (.agg (callL d).toArray) W ∧ (loadCall (.pointer (some ⟨bo, oo + i * 27, none⟩))).run Try.prog W = .ok (.agg (callL c).toArray) W) ∧ Below wr.heap.size wr W) (by kernel_rfl) ?_ (fun hHeld => ?_)
              · first | exact Ks.out _ hx1 | exact Ks.out _ hx0
              first | (refine np_skip (i := 0) rfl (by kernel_rfl) (by kernel_rfl) (by kernel_rfl) (by rfl) (by assumption) ?_; (try simp only [Act.put, List.setIfInBounds_toArray, List.set_cons_zero, List.set_cons_succ])) | (refine np_take (i := 0) (v := ?_) rfl (by kernel_rfl) (by kernel_rfl) (by kernel_rfl) (by rfl) ?_ (by assumption) ?_; rotate_left 1; (· (intro w hSw; (try dsimp only at hSw); go_simp; all_goals with_reducible rfl)); (try simp only [Act.put, List.setIfInBounds_toArray, List.set_cons_zero, List.set_cons_succ]))
              first | (refine np_skip (i := 1) rfl (by kernel_rfl) (by kernel_rfl) (by kernel_rfl) (by rfl) (by assumption) ?_; (try simp only [Act.put, List.setIfInBounds_toArray, List.set_cons_zero, List.set_cons_succ])) | (refine np_take (i := 1) (v := ?_) rfl (by kernel_rfl) (by kernel_rfl) (by kernel_rfl) (by rfl) ?_ (by assumption) ?_; rotate_left 1; (· (intro w hSw; (try dsimp only at hSw); go_simp; all_goals with_reducible rfl)); (try simp only [Act.put, List.setIfInBounds_toArray, List.set_cons_zero, List.set_cons_succ]))
              first | (refine np_skip (i := 2) rfl (by kernel_rfl) (by kernel_rfl) (by kernel_rfl) (by rfl) (by assumption) ?_; (try simp only [Act.put, List.setIfInBounds_toArray, List.set_cons_zero, List.set_cons_succ])) | (refine np_take (i := 2) (v := ?_) rfl (by kernel_rfl) (by kernel_rfl) (by kernel_rfl) (by rfl) ?_ (by assumption) ?_; rotate_left 1; (· (intro w hSw; (try dsimp only at hSw); go_simp; all_goals with_reducible rfl)); (try simp only [Act.put, List.setIfInBounds_toArray, List.set_cons_zero, List.set_cons_succ]))
              first | (refine np_skip (i := 3) rfl (by kernel_rfl) (by kernel_rfl) (by kernel_rfl) (by rfl) (by assumption) ?_; (try simp only [Act.put, List.setIfInBounds_toArray, List.set_cons_zero, List.set_cons_succ])) | (refine np_take (i := 3) (v := ?_) rfl (by kernel_rfl) (by kernel_rfl) (by kernel_rfl) (by rfl) ?_ (by assumption) ?_; rotate_left 1; (· (intro w hSw; (try dsimp only at hSw); go_simp; all_goals with_reducible rfl)); (try simp only [Act.put, List.setIfInBounds_toArray, List.set_cons_zero, List.set_cons_succ]))
              first | (refine np_skip (i := 4) rfl (by kernel_rfl) (by kernel_rfl) (by kernel_rfl) (by rfl) (by assumption) ?_; (try simp only [Act.put, List.setIfInBounds_toArray, List.set_cons_zero, List.set_cons_succ])) | (refine np_take (i := 4) (v := ?_) rfl (by kernel_rfl) (by kernel_rfl) (by kernel_rfl) (by rfl) ?_ (by assumption) ?_; rotate_left 1; (· (intro w hSw; (try dsimp only at hSw); go_simp; all_goals with_reducible rfl)); (try simp only [Act.put, List.setIfInBounds_toArray, List.set_cons_zero, List.set_cons_succ]))
              first | (refine np_skip (i := 5) rfl (by kernel_rfl) (by kernel_rfl) (by kernel_rfl) (by rfl) (by assumption) ?_; (try simp only [Act.put, List.setIfInBounds_toArray, List.set_cons_zero, List.set_cons_succ])) | (refine np_take (i := 5) (v := ?_) rfl (by kernel_rfl) (by kernel_rfl) (by kernel_rfl) (by rfl) ?_ (by assumption) ?_; rotate_left 1; (· (intro w hSw; (try dsimp only at hSw); go_simp; all_goals with_reducible rfl)); (try simp only [Act.put, List.setIfInBounds_toArray, List.set_cons_zero, List.set_cons_succ]))
              first | (refine np_skip (i := 6) rfl (by kernel_rfl) (by kernel_rfl) (by kernel_rfl) (by rfl) (by assumption) ?_; (try simp only [Act.put, List.setIfInBounds_toArray, List.set_cons_zero, List.set_cons_succ])) | (refine np_take (i := 6) (v := ?_) rfl (by kernel_rfl) (by kernel_rfl) (by kernel_rfl) (by rfl) ?_ (by assumption) ?_; rotate_left 1; (· (intro w hSw; (try dsimp only at hSw); go_simp; all_goals with_reducible rfl)); (try simp only [Act.put, List.setIfInBounds_toArray, List.set_cons_zero, List.set_cons_succ]))
              first | (refine np_skip (i := 7) rfl (by kernel_rfl) (by kernel_rfl) (by kernel_rfl) (by rfl) (by assumption) ?_; (try simp only [Act.put, List.setIfInBounds_toArray, List.set_cons_zero, List.set_cons_succ])) | (refine np_take (i := 7) (v := ?_) rfl (by kernel_rfl) (by kernel_rfl) (by kernel_rfl) (by rfl) ?_ (by assumption) ?_; rotate_left 1; (· (intro w hSw; (try dsimp only at hSw); go_simp; all_goals with_reducible rfl)); (try simp only [Act.put, List.setIfInBounds_toArray, List.set_cons_zero, List.set_cons_succ]))
              first | (refine np_skip (i := 8) rfl (by kernel_rfl) (by kernel_rfl) (by kernel_rfl) (by rfl) (by assumption) ?_; (try simp only [Act.put, List.setIfInBounds_toArray, List.set_cons_zero, List.set_cons_succ])) | (refine np_take (i := 8) (v := ?_) rfl (by kernel_rfl) (by kernel_rfl) (by kernel_rfl) (by rfl) ?_ (by assumption) ?_; rotate_left 1; (· (intro w hSw; (try dsimp only at hSw); go_simp; all_goals with_reducible rfl)); (try simp only [Act.put, List.setIfInBounds_toArray, List.set_cons_zero, List.set_cons_succ]))
              first | (refine np_skip (i := 9) rfl (by kernel_rfl) (by kernel_rfl) (by kernel_rfl) (by rfl) (by assumption) ?_; (try simp only [Act.put, List.setIfInBounds_toArray, List.set_cons_zero, List.set_cons_succ])) | (refine np_take (i := 9) (v := ?_) rfl (by kernel_rfl) (by kernel_rfl) (by kernel_rfl) (by rfl) ?_ (by assumption) ?_; rotate_left 1; (· (intro w hSw; (try dsimp only at hSw); go_simp; all_goals with_reducible rfl)); (try simp only [Act.put, List.setIfInBounds_toArray, List.set_cons_zero, List.set_cons_succ]))
              first | (refine np_skip (i := 10) rfl (by kernel_rfl) (by kernel_rfl) (by kernel_rfl) (by rfl) (by assumption) ?_; (try simp only [Act.put, List.setIfInBounds_toArray, List.set_cons_zero, List.set_cons_succ])) | (refine np_take (i := 10) (v := ?_) rfl (by kernel_rfl) (by kernel_rfl) (by kernel_rfl) (by rfl) ?_ (by assumption) ?_; rotate_left 1; (· (intro w hSw; (try dsimp only at hSw); go_simp; all_goals with_reducible rfl)); (try simp only [Act.put, List.setIfInBounds_toArray, List.set_cons_zero, List.set_cons_succ]))
              first | (refine np_skip (i := 11) rfl (by kernel_rfl) (by kernel_rfl) (by kernel_rfl) (by rfl) (by assumption) ?_; (try simp only [Act.put, List.setIfInBounds_toArray, List.set_cons_zero, List.set_cons_succ])) | (refine np_take (i := 11) (v := ?_) rfl (by kernel_rfl) (by kernel_rfl) (by kernel_rfl) (by rfl) ?_ (by assumption) ?_; rotate_left 1; (· (intro w hSw; (try dsimp only at hSw); go_simp; all_goals with_reducible rfl)); (try simp only [Act.put, List.setIfInBounds_toArray, List.set_cons_zero, List.set_cons_succ]))
              first | (refine np_skip (i := 12) rfl (by kernel_rfl) (by kernel_rfl) (by kernel_rfl) (by rfl) (by assumption) ?_; (try simp only [Act.put, List.setIfInBounds_toArray, List.set_cons_zero, List.set_cons_succ])) | (refine np_take (i := 12) (v := ?_) rfl (by kernel_rfl) (by kernel_rfl) (by kernel_rfl) (by rfl) ?_ (by assumption) ?_; rotate_left 1; (· (intro w hSw; (try dsimp only at hSw); go_simp; all_goals with_reducible rfl)); (try simp only [Act.put, List.setIfInBounds_toArray, List.set_cons_zero, List.set_cons_succ]))
              first | (refine np_skip (i := 13) rfl (by kernel_rfl) (by kernel_rfl) (by kernel_rfl) (by rfl) (by assumption) ?_; (try simp only [Act.put, List.setIfInBounds_toArray, List.set_cons_zero, List.set_cons_succ])) | (refine np_take (i := 13) (v := ?_) rfl (by kernel_rfl) (by kernel_rfl) (by kernel_rfl) (by rfl) ?_ (by assumption) ?_; rotate_left 1; (· (intro w hSw; (try dsimp only at hSw); go_simp; all_goals with_reducible rfl)); (try simp only [Act.put, List.setIfInBounds_toArray, List.set_cons_zero, List.set_cons_succ]))
              first | (refine np_skip (i := 14) rfl (by kernel_rfl) (by kernel_rfl) (by kernel_rfl) (by rfl) (by assumption) ?_; (try simp only [Act.put, List.setIfInBounds_toArray, List.set_cons_zero, List.set_cons_succ])) | (refine np_take (i := 14) (v := ?_) rfl (by kernel_rfl) (by kernel_rfl) (by kernel_rfl) (by rfl) ?_ (by assumption) ?_; rotate_left 1; (· (intro w hSw; (try dsimp only at hSw); go_simp; all_goals with_reducible rfl)); (try simp only [Act.put, List.setIfInBounds_toArray, List.set_cons_zero, List.set_cons_succ]))
              first | (refine np_skip (i := 15) rfl (by kernel_rfl) (by kernel_rfl) (by kernel_rfl) (by rfl) (by assumption) ?_; (try simp only [Act.put, List.setIfInBounds_toArray, List.set_cons_zero, List.set_cons_succ])) | (refine np_take (i := 15) (v := ?_) rfl (by kernel_rfl) (by kernel_rfl) (by kernel_rfl) (by rfl) ?_ (by assumption) ?_; rotate_left 1; (· (intro w hSw; (try dsimp only at hSw); go_simp; all_goals with_reducible rfl)); (try simp only [Act.put, List.setIfInBounds_toArray, List.set_cons_zero, List.set_cons_succ]))
              first | (refine np_skip (i := 16) rfl (by kernel_rfl) (by kernel_rfl) (by kernel_rfl) (by rfl) (by assumption) ?_; (try simp only [Act.put, List.setIfInBounds_toArray, List.set_cons_zero, List.set_cons_succ])) | (refine np_take (i := 16) (v := ?_) rfl (by kernel_rfl) (by kernel_rfl) (by kernel_rfl) (by rfl) ?_ (by assumption) ?_; rotate_left 1; (· (intro w hSw; (try dsimp only at hSw); go_simp; all_goals with_reducible rfl)); (try simp only [Act.put, List.setIfInBounds_toArray, List.set_cons_zero, List.set_cons_succ]))
              first | (refine np_skip (i := 17) rfl (by kernel_rfl) (by kernel_rfl) (by kernel_rfl) (by rfl) (by assumption) ?_; (try simp only [Act.put, List.setIfInBounds_toArray, List.set_cons_zero, List.set_cons_succ])) | (refine np_take (i := 17) (v := ?_) rfl (by kernel_rfl) (by kernel_rfl) (by kernel_rfl) (by rfl) ?_ (by assumption) ?_; rotate_left 1; (· (intro w hSw; (try dsimp only at hSw); go_simp; all_goals with_reducible rfl)); (try simp only [Act.put, List.setIfInBounds_toArray, List.set_cons_zero, List.set_cons_succ]))
              first | (refine np_skip (i := 18) rfl (by kernel_rfl) (by kernel_rfl) (by kernel_rfl) (by rfl) (by assumption) ?_; (try simp only [Act.put, List.setIfInBounds_toArray, List.set_cons_zero, List.set_cons_succ])) | (refine np_take (i := 18) (v := ?_) rfl (by kernel_rfl) (by kernel_rfl) (by kernel_rfl) (by rfl) ?_ (by assumption) ?_; rotate_left 1; (· (intro w hSw; (try dsimp only at hSw); go_simp; all_goals with_reducible rfl)); (try simp only [Act.put, List.setIfInBounds_toArray, List.set_cons_zero, List.set_cons_succ]))
              first | (refine np_skip (i := 19) rfl (by kernel_rfl) (by kernel_rfl) (by kernel_rfl) (by rfl) (by assumption) ?_; (try simp only [Act.put, List.setIfInBounds_toArray, List.set_cons_zero, List.set_cons_succ])) | (refine np_take (i := 19) (v := ?_) rfl (by kernel_rfl) (by kernel_rfl) (by kernel_rfl) (by rfl) ?_ (by assumption) ?_; rotate_left 1; (· (intro w hSw; (try dsimp only at hSw); go_simp; all_goals with_reducible rfl)); (try simp only [Act.put, List.setIfInBounds_toArray, List.set_cons_zero, List.set_cons_succ]))
              first | (refine np_skip (i := 20) rfl (by kernel_rfl) (by kernel_rfl) (by kernel_rfl) (by rfl) (by assumption) ?_; (try simp only [Act.put, List.setIfInBounds_toArray, List.set_cons_zero, List.set_cons_succ])) | (refine np_take (i := 20) (v := ?_) rfl (by kernel_rfl) (by kernel_rfl) (by kernel_rfl) (by rfl) ?_ (by assumption) ?_; rotate_left 1; (· (intro w hSw; (try dsimp only at hSw); go_simp; all_goals with_reducible rfl)); (try simp only [Act.put, List.setIfInBounds_toArray, List.set_cons_zero, List.set_cons_succ]))
              first | (refine np_skip (i := 21) rfl (by kernel_rfl) (by kernel_rfl) (by kernel_rfl) (by rfl) (by assumption) ?_; (try simp only [Act.put, List.setIfInBounds_toArray, List.set_cons_zero, List.set_cons_succ])) | (refine np_take (i := 21) (v := ?_) rfl (by kernel_rfl) (by kernel_rfl) (by kernel_rfl) (by rfl) ?_ (by assumption) ?_; rotate_left 1; (· (intro w hSw; (try dsimp only at hSw); go_simp; all_goals with_reducible rfl)); (try simp only [Act.put, List.setIfInBounds_toArray, List.set_cons_zero, List.set_cons_succ]))
              first | (refine np_skip (i := 22) rfl (by kernel_rfl) (by kernel_rfl) (by kernel_rfl) (by rfl) (by assumption) ?_; (try simp only [Act.put, List.setIfInBounds_toArray, List.set_cons_zero, List.set_cons_succ])) | (refine np_take (i := 22) (v := ?_) rfl (by kernel_rfl) (by kernel_rfl) (by kernel_rfl) (by rfl) ?_ (by assumption) ?_; rotate_left 1; (· (intro w hSw; (try dsimp only at hSw); go_simp; all_goals with_reducible rfl)); (try simp only [Act.put, List.setIfInBounds_toArray, List.set_cons_zero, List.set_cons_succ]))
              first | (refine np_skip (i := 23) rfl (by kernel_rfl) (by kernel_rfl) (by kernel_rfl) (by rfl) (by assumption) ?_; (try simp only [Act.put, List.setIfInBounds_toArray, List.set_cons_zero, List.set_cons_succ])) | (refine np_take (i := 23) (v := ?_) rfl (by kernel_rfl) (by kernel_rfl) (by kernel_rfl) (by rfl) ?_ (by assumption) ?_; rotate_left 1; (· (intro w hSw; (try dsimp only at hSw); go_simp; all_goals with_reducible rfl)); (try simp only [Act.put, List.setIfInBounds_toArray, List.set_cons_zero, List.set_cons_succ]))
              first | (refine np_skip (i := 24) rfl (by kernel_rfl) (by kernel_rfl) (by kernel_rfl) (by rfl) (by assumption) ?_; (try simp only [Act.put, List.setIfInBounds_toArray, List.set_cons_zero, List.set_cons_succ])) | (refine np_take (i := 24) (v := ?_) rfl (by kernel_rfl) (by kernel_rfl) (by kernel_rfl) (by rfl) ?_ (by assumption) ?_; rotate_left 1; (· (intro w hSw; (try dsimp only at hSw); go_simp; all_goals with_reducible rfl)); (try simp only [Act.put, List.setIfInBounds_toArray, List.set_cons_zero, List.set_cons_succ]))
              first | (refine np_skip (i := 25) rfl (by kernel_rfl) (by kernel_rfl) (by kernel_rfl) (by rfl) (by assumption) ?_; (try simp only [Act.put, List.setIfInBounds_toArray, List.set_cons_zero, List.set_cons_succ])) | (refine np_take (i := 25) (v := ?_) rfl (by kernel_rfl) (by kernel_rfl) (by kernel_rfl) (by rfl) ?_ (by assumption) ?_; rotate_left 1; (· (intro w hSw; (try dsimp only at hSw); go_simp; all_goals with_reducible rfl)); (try simp only [Act.put, List.setIfInBounds_toArray, List.set_cons_zero, List.set_cons_succ]))
              first | (refine np_skip (i := 26) rfl (by kernel_rfl) (by kernel_rfl) (by kernel_rfl) (by rfl) (by assumption) ?_; (try simp only [Act.put, List.setIfInBounds_toArray, List.set_cons_zero, List.set_cons_succ])) | (refine np_take (i := 26) (v := ?_) rfl (by kernel_rfl) (by kernel_rfl) (by kernel_rfl) (by rfl) ?_ (by assumption) ?_; rotate_left 1; (· (intro w hSw; (try dsimp only at hSw); go_simp; all_goals with_reducible rfl)); (try simp only [Act.put, List.setIfInBounds_toArray, List.set_cons_zero, List.set_cons_succ]))
              first | (refine np_skip (i := 27) rfl (by kernel_rfl) (by kernel_rfl) (by kernel_rfl) (by rfl) (by assumption) ?_; (try simp only [Act.put, List.setIfInBounds_toArray, List.set_cons_zero, List.set_cons_succ])) | (refine np_take (i := 27) (v := ?_) rfl (by kernel_rfl) (by kernel_rfl) (by kernel_rfl) (by rfl) ?_ (by assumption) ?_; rotate_left 1; (· (intro w hSw; (try dsimp only at hSw); go_simp; all_goals with_reducible rfl)); (try simp only [Act.put, List.setIfInBounds_toArray, List.set_cons_zero, List.set_cons_succ]))
              first | (refine np_skip (i := 28) rfl (by kernel_rfl) (by kernel_rfl) (by kernel_rfl) (by rfl) (by assumption) ?_; (try simp only [Act.put, List.setIfInBounds_toArray, List.set_cons_zero, List.set_cons_succ])) | (refine np_take (i := 28) (v := ?_) rfl (by kernel_rfl) (by kernel_rfl) (by kernel_rfl) (by rfl) ?_ (by assumption) ?_; rotate_left 1; (· (intro w hSw; (try dsimp only at hSw); go_simp; all_goals with_reducible rfl)); (try simp only [Act.put, List.setIfInBounds_toArray, List.set_cons_zero, List.set_cons_succ]))
              first | (refine np_skip (i := 29) rfl (by kernel_rfl) (by kernel_rfl) (by kernel_rfl) (by rfl) (by assumption) ?_; (try simp only [Act.put, List.setIfInBounds_toArray, List.set_cons_zero, List.set_cons_succ])) | (refine np_step (i := 29) rfl (by kernel_rfl) (fun K hK => ?_); rw [if_pos (by rfl)]; go_simp; ((go_at_call 10; refine (bc _).mono ?_; rintro e w9 ⟨rfl, hbc⟩; have hx1 := hHeld.2.trans (hbc.mono hHeld.2.size))); (try go_wp2_with fail); refine hK.out _ _ ?_ (fun hHeld => ?_); (· (first | exact Ks.out _ hx1 | exact Ks.out _ hx0)); clear hK K; (try simp only [Act.put, List.setIfInBounds_toArray, List.set_cons_zero, List.set_cons_succ]))
              first | (refine np_skip (i := 30) rfl (by kernel_rfl) (by kernel_rfl) (by kernel_rfl) (by rfl) (by assumption) ?_; (try simp only [Act.put, List.setIfInBounds_toArray, List.set_cons_zero, List.set_cons_succ])) | (refine np_take (i := 30) (v := ?_) rfl (by kernel_rfl) (by kernel_rfl) (by kernel_rfl) (by rfl) ?_ (by assumption) ?_; rotate_left 1; (· (intro w hSw; (try dsimp only at hSw); go_simp; all_goals with_reducible rfl)); (try simp only [Act.put, List.setIfInBounds_toArray, List.set_cons_zero, List.set_cons_succ]))
              first | (refine np_skip (i := 31) rfl (by kernel_rfl) (by kernel_rfl) (by kernel_rfl) (by rfl) (by assumption) ?_; (try simp only [Act.put, List.setIfInBounds_toArray, List.set_cons_zero, List.set_cons_succ])) | (refine np_take (i := 31) (v := ?_) rfl (by kernel_rfl) (by kernel_rfl) (by kernel_rfl) (by rfl) ?_ (by assumption) ?_; rotate_left 1; (· (intro w hSw; (try dsimp only at hSw); go_simp; all_goals with_reducible rfl)); (try simp only [Act.put, List.setIfInBounds_toArray, List.set_cons_zero, List.set_cons_succ]))
              first | (refine np_skip (i := 32) rfl (by kernel_rfl) (by kernel_rfl) (by kernel_rfl) (by rfl) (by assumption) ?_; (try simp only [Act.put, List.setIfInBounds_toArray, List.set_cons_zero, List.set_cons_succ])) | (refine np_take (i := 32) (v := ?_) rfl (by kernel_rfl) (by kernel_rfl) (by kernel_rfl) (by rfl) ?_ (by assumption) ?_; rotate_left 1; (· (intro w hSw; (try dsimp only at hSw); go_simp; all_goals with_reducible rfl)); (try simp only [Act.put, List.setIfInBounds_toArray, List.set_cons_zero, List.set_cons_succ]))
              refine wpAnyH_done (by kernel_rfl) ?_ _
              refine NoPanic.normal ?_
              have hx2 := hHeld.2
              have HT2 := Lib.hid (And.intro (hT.on hx2) (CRow.on (w := wr) (.inr ⟨bo, oo, rfl, hcapo, hbo, hCo2⟩) hx2))
              obtain ⟨_, _, q3⟩ := Kx.out _ hx2
              clear bc hHeld
              by_cases hpq : c.answered < 0
              · have hpd : pendQ c = true := by simpa [pendQ] using hpq
                have hop := Hpend.out.2 hpd
                have Hop := Lib.hid hop
                clear hpd hop
                go_wp2
                exact ⟨ThJ.intro (i + 1) rfl (by omega) (by rw [Hop.out]; go_num) HT2.out, by simp [intOf]; omega⟩
              · have hpd : pendQ c = false := by simpa [pendQ] using hpq
                have hop := Hpend.out.1 hpd
                have Hop := Lib.hid hop
                clear hpd hop
                go_wp2
                exact ⟨ThJ.intro (i + 1) rfl (by omega) (by have := Hop.out; omega) HT2.out, by simp [intOf]; omega⟩
          · have hkk : i = own.length := by omega
            rw [hkk, List.take_length, pend_map Hmo.out] at hqle ⊢
            have e1 := Hadd.out
            have e2 := hp1'.out
            have HT2 := Lib.hid hT
            have E1 := Lib.hid e1
            have E2 := Lib.hid e2
            clear e1 e2 hCo hil hi hT hkk
            go_wp2
            exact ⟨ThI.intro (t + 1) rfl (by omega) E1.out (by have := E2.out; omega) HT2.out, by simp [intOf]; omega⟩
      · have hkk : t = 16 := by omega
        subst hkk
        clear htl ht hcle hple
        rw [cntB_all h0, pcnt_all h0]
        have pd := pending_any p1 cap1 hs wr hT.h.row (by omega)
        go_wp2_with fail
        refine pd.mono ?_
        clear pd
        rintro e w3 ⟨v, rfl, hown, hb⟩
        obtain ⟨pp, cp, rfl⟩ := own_form hown
        have hT3 := hT.on hb
        have oc := none_call h0 p1 cap1 (-1) (by omega) w3 hT3.h
        clear hb hown hT
        go_wp2_with fail
        refine oc.mono ?_
        clear oc
        rintro e w4 ⟨po, co, rfl, hb⟩
        have hT4 := hT3.on hb
        have oc := none_call h0 p1 cap1 16 (by omega) w4 hT4.h
        clear hb hT3
        go_wp2_with fail
        refine oc.mono ?_
        clear oc
        rintro e w5 ⟨pq, cq, rfl, hb⟩
        have hT5 := hT4.on hb
        clear hb hT4
        go_wp2_with fail
        refine (awake_any _).mono ?_
        rintro e w6 ⟨rfl, hb⟩
        have hT6 := hT5.on hb
        go_wp2
        go_returns
        exact ⟨rfl, hT6.bl⟩
  · rw [h22] at ck
    go_wp2_with fail
    refine ck.mono ?_
    clear ck hk1
    rintro e w2 ⟨rfl, hb⟩
    have hB2 := hB1.trans (hb.mono hB1.size)
    go_wp2_with fail
    refine (awake_any _).mono ?_
    rintro e w4 ⟨rfl, hb⟩
    have hB4 := hB2.trans (hb.mono hB2.size)
    go_wp2
    go_returns
    exact ⟨rfl, hB4⟩
end Go.Proofs.Ytjinnlmmlbmodaa
