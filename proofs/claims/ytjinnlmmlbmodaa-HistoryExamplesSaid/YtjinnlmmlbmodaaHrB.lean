/- The reference of history: two calls, the calls of a thread, Pending. -/
import Derived.Test.YtjinnlmmlbmodaaHrA
import Derived.Test.YtjinnlmmlbmodaaHisTh
namespace Go.Proofs.Ytjinnlmmlbmodaa
open Go.RowKit Go.Lib Go.Shelf
open KitI (iv IRow own_below infoI)
attribute [local go_sem, local simp] callL_0 callL_1 callL_2 callL_3 callL_4 callL_5 callL_6 callL_7 callL_8 callL_9 callL_10 callL_11 callL_12 callL_13 callL_14 callL_15 callL_16 callL_17 callL_18 callL_19 callL_20 callL_21 callL_22 callL_23 callL_24 callL_25 callL_26 resL_0 resL_1 resL_2 resL_3 resL_4 resL_5 resL_6 resL_7 resL_8 resL_9 resL_10 resL_11 resL_12 callG_0 callG_1 callG_2 callG_3 callG_4 callG_5 callG_6 callG_7 callG_8 callG_9 callG_10 callG_11 callG_12 callG_13 callG_14 callG_15 callG_16 callG_17 callG_18 callG_19 callG_20 callG_21 callG_22 callG_23 callG_24 callG_25 callG_26 resG_0 resG_1 resG_2 resG_3 resG_4 resG_5 resG_6 resG_7 resG_8 resG_9 resG_10 resG_11 resG_12 callL_len resL_len
attribute [local go_sem ↓] loadCall_eq loadRes_eq
attribute [local go_sem] ld_new ld_first ld_second ldr_new st_new

theorem clash_meets (c d : CallV) : clashB c d = (meetsB c.invoked d || meetsB c.answered d || decide (0 ≤ c.took ∧ c.took = d.took ∧ c.rank = d.rank) || (decide (c.thread ≠ d.thread) && (meetsB c.took d || meetsB d.took c))) := by
  unfold clashB meetsB
  rw [Bool.eq_iff_iff]
  simp only [Bool.or_eq_true, Bool.and_eq_true, decide_eq_true_eq]
  constructor
  · rintro (h | h | h | ⟨h1, h | h⟩)
    · exact .inl (.inl (.inl h))
    · exact .inl (.inl (.inr h))
    · exact .inl (.inr h)
    · exact .inr ⟨h1, .inl h⟩
    · exact .inr ⟨h1, .inr h⟩
  · rintro (((h | h) | h) | ⟨h1, h | h⟩)
    · exact .inl h
    · exact .inr (.inl h)
    · exact .inr (.inr (.inl h))
    · exact .inr (.inr (.inr ⟨h1, .inl h⟩))
    · exact .inr (.inr (.inr ⟨h1, .inr h⟩))
set_option maxRecDepth 100000 in
set_option maxHeartbeats 2000000 in
theorem refclash_any (c d : CallV) (w : World) : Calls Try.prog 53 #[.agg (callL c).toArray, .agg (callL d).toArray] w fun e w' => e = .returned (.bool (clashB c d)) ∧ Below w.heap.size w w' := by
  have M1 := fun W => meets_any c.invoked d W
  have M2 := fun W => meets_any c.answered d W
  have M3 := fun W => meets_any c.took d W
  have M4 := fun W => meets_any d.took c W
  have hcl := clash_meets c d
  generalize meetsB c.invoked d = m1 at *
  generalize meetsB c.answered d = m2 at *
  generalize meetsB c.took d = m3 at *
  generalize meetsB d.took c = m4 at *
  obtain ⟨d3, hd3⟩ : ∃ b : Bool, decide (0 ≤ c.took ∧ c.took = d.took ∧ c.rank = d.rank) = b := ⟨_, rfl⟩
  rw [hd3] at hcl
  have Hcl := Lib.hid hcl
  clear hcl
  have hx := PrI.start w c d
  have q10 := blk_cell hx.b1 10
  have q11 := blk_cell hx.b1 11
  have q12 := blk_cell hx.b1 12
  have q0 := blk_cell hx.b1 0
  have p10 := blk_cell hx.b2 10
  have p11 := blk_cell hx.b2 11
  have p0 := blk_cell hx.b2 0
  rw [callL_10] at q10 p10
  rw [callL_11] at q11 p11
  rw [callL_12] at q12
  rw [callL_0] at q0 p0
  have l1 := ld_call c hx.b1
  have l2 := ld_call d hx.b2
  go_enter Try.func53, Try.ntmps53
  go_wp2_with fail
  refine (M1 _).mono ?_
  rintro e w1 ⟨rfl, hb⟩
  clear q10 q11 q12 q0 p10 p11 p0 l1 l2
  replace hx := hx.on hb
  clear hb
  have q10 := blk_cell hx.b1 10
  have q11 := blk_cell hx.b1 11
  have q12 := blk_cell hx.b1 12
  have q0 := blk_cell hx.b1 0
  have p10 := blk_cell hx.b2 10
  have p11 := blk_cell hx.b2 11
  have p0 := blk_cell hx.b2 0
  rw [callL_10] at q10 p10
  rw [callL_11] at q11 p11
  rw [callL_12] at q12
  rw [callL_0] at q0 p0
  have l1 := ld_call c hx.b1
  have l2 := ld_call d hx.b2
  cases m1 with
  | true =>
    go_wp2
    go_returns
    exact ⟨ret_bool (by rw [Hcl.out]; simp), hx.bl⟩
  | false =>
    go_wp2_with fail
    refine (M2 _).mono ?_
    rintro e w2 ⟨rfl, hb⟩
    clear q10 q11 q12 q0 p10 p11 p0 l1 l2
    replace hx := hx.on hb
    clear hb
    have q10 := blk_cell hx.b1 10
    have q11 := blk_cell hx.b1 11
    have q12 := blk_cell hx.b1 12
    have q0 := blk_cell hx.b1 0
    have p10 := blk_cell hx.b2 10
    have p11 := blk_cell hx.b2 11
    have p0 := blk_cell hx.b2 0
    rw [callL_10] at q10 p10
    rw [callL_11] at q11 p11
    rw [callL_12] at q12
    rw [callL_0] at q0 p0
    have l1 := ld_call c hx.b1
    have l2 := ld_call d hx.b2
    cases m2 with
    | true =>
      go_wp2
      go_returns
      exact ⟨ret_bool (by rw [Hcl.out]; simp), hx.bl⟩
    | false =>
      by_cases h1 : 0 ≤ c.took
      · have t1 : decide (0 ≤ c.took) = true := decide_eq_true h1
        by_cases h2 : c.took = d.took
        · have t2 : (c.took == d.took) = true := by simpa using h2
          by_cases h3 : c.rank = d.rank
          · have t3 : (c.rank == d.rank) = true := by simpa using h3
            obtain rfl : d3 = true := by rw [← hd3]; exact decide_eq_true ⟨h1, h2, h3⟩
            clear h1 h2 h3 hd3
            go_wp2
            go_returns
            exact ⟨ret_bool (by rw [Hcl.out]; simp), hx.bl⟩
          · have t3 : (c.rank == d.rank) = false := by simpa using h3
            have D3 := Lib.hid (show d3 = false by rw [← hd3]; exact decide_eq_false fun h => h3 h.2.2)
            clear h1 h2 h3 hd3
            by_cases ht : c.thread = d.thread
            · have e1 : (c.thread != d.thread) = false := by simpa using ht
              have Ht := Lib.hid ht
              clear ht
              go_wp2
              go_returns
              exact ⟨ret_bool (by rw [Hcl.out, D3.out]; simp [Ht.out]), hx.bl⟩
            · have e1 : (c.thread != d.thread) = true := by simpa using ht
              have Ht := Lib.hid ht
              clear ht
              go_wp2_with fail
              refine (M3 _).mono ?_
              rintro e w3 ⟨rfl, hb⟩
              clear q10 q11 q12 q0 p10 p11 p0 l1 l2
              replace hx := hx.on hb
              clear hb
              have q10 := blk_cell hx.b1 10
              have q11 := blk_cell hx.b1 11
              have q12 := blk_cell hx.b1 12
              have q0 := blk_cell hx.b1 0
              have p10 := blk_cell hx.b2 10
              have p11 := blk_cell hx.b2 11
              have p0 := blk_cell hx.b2 0
              rw [callL_10] at q10 p10
              rw [callL_11] at q11 p11
              rw [callL_12] at q12
              rw [callL_0] at q0 p0
              have l1 := ld_call c hx.b1
              have l2 := ld_call d hx.b2
              cases m3 with
              | true =>
                go_wp2
                go_returns
                exact ⟨ret_bool (by rw [Hcl.out, D3.out]; simp [Ht.out]), hx.bl⟩
              | false =>
                go_wp2_with fail
                refine (M4 _).mono ?_
                rintro e w4 ⟨rfl, hb⟩
                clear q10 q11 q12 q0 p10 p11 p0 l1 l2
                replace hx := hx.on hb
                clear hb
                go_wp2
                go_returns
                exact ⟨ret_bool (by rw [Hcl.out, D3.out]; simp [Ht.out]), hx.bl⟩
        · have t2 : (c.took == d.took) = false := by simpa using h2
          have D3 := Lib.hid (show d3 = false by rw [← hd3]; exact decide_eq_false fun h => h2 h.2.1)
          clear h1 h2 hd3
          by_cases ht : c.thread = d.thread
          · have e1 : (c.thread != d.thread) = false := by simpa using ht
            have Ht := Lib.hid ht
            clear ht
            go_wp2
            go_returns
            exact ⟨ret_bool (by rw [Hcl.out, D3.out]; simp [Ht.out]), hx.bl⟩
          · have e1 : (c.thread != d.thread) = true := by simpa using ht
            have Ht := Lib.hid ht
            clear ht
            go_wp2_with fail
            refine (M3 _).mono ?_
            rintro e w3 ⟨rfl, hb⟩
            clear q10 q11 q12 q0 p10 p11 p0 l1 l2
            replace hx := hx.on hb
            clear hb
            have q10 := blk_cell hx.b1 10
            have q11 := blk_cell hx.b1 11
            have q12 := blk_cell hx.b1 12
            have q0 := blk_cell hx.b1 0
            have p10 := blk_cell hx.b2 10
            have p11 := blk_cell hx.b2 11
            have p0 := blk_cell hx.b2 0
            rw [callL_10] at q10 p10
            rw [callL_11] at q11 p11
            rw [callL_12] at q12
            rw [callL_0] at q0 p0
            have l1 := ld_call c hx.b1
            have l2 := ld_call d hx.b2
            cases m3 with
            | true =>
              go_wp2
              go_returns
              exact ⟨ret_bool (by rw [Hcl.out, D3.out]; simp [Ht.out]), hx.bl⟩
            | false =>
              go_wp2_with fail
              refine (M4 _).mono ?_
              rintro e w4 ⟨rfl, hb⟩
              clear q10 q11 q12 q0 p10 p11 p0 l1 l2
              replace hx := hx.on hb
              clear hb
              go_wp2
              go_returns
              exact ⟨ret_bool (by rw [Hcl.out, D3.out]; simp [Ht.out]), hx.bl⟩
      · have t1 : decide (0 ≤ c.took) = false := decide_eq_false h1
        have D3 := Lib.hid (show d3 = false by rw [← hd3]; exact decide_eq_false fun h => h1 h.1)
        clear h1 hd3
        by_cases ht : c.thread = d.thread
        · have e1 : (c.thread != d.thread) = false := by simpa using ht
          have Ht := Lib.hid ht
          clear ht
          go_wp2
          go_returns
          exact ⟨ret_bool (by rw [Hcl.out, D3.out]; simp [Ht.out]), hx.bl⟩
        · have e1 : (c.thread != d.thread) = true := by simpa using ht
          have Ht := Lib.hid ht
          clear ht
          go_wp2_with fail
          refine (M3 _).mono ?_
          rintro e w3 ⟨rfl, hb⟩
          clear q10 q11 q12 q0 p10 p11 p0 l1 l2
          replace hx := hx.on hb
          clear hb
          have q10 := blk_cell hx.b1 10
          have q11 := blk_cell hx.b1 11
          have q12 := blk_cell hx.b1 12
          have q0 := blk_cell hx.b1 0
          have p10 := blk_cell hx.b2 10
          have p11 := blk_cell hx.b2 11
          have p0 := blk_cell hx.b2 0
          rw [callL_10] at q10 p10
          rw [callL_11] at q11 p11
          rw [callL_12] at q12
          rw [callL_0] at q0 p0
          have l1 := ld_call c hx.b1
          have l2 := ld_call d hx.b2
          cases m3 with
          | true =>
            go_wp2
            go_returns
            exact ⟨ret_bool (by rw [Hcl.out, D3.out]; simp [Ht.out]), hx.bl⟩
          | false =>
            go_wp2_with fail
            refine (M4 _).mono ?_
            rintro e w4 ⟨rfl, hb⟩
            clear q10 q11 q12 q0 p10 p11 p0 l1 l2
            replace hx := hx.on hb
            clear hb
            go_wp2
            go_returns
            exact ⟨ret_bool (by rw [Hcl.out, D3.out]; simp [Ht.out]), hx.bl⟩

/-- What Of gives. -/
def OfRel (w : World) (t : Int) (cs : List CallV) (o i : Value) (wr : World) : Prop :=
  ∃ k : Nat, i = .int .i64 k ∧ k ≤ cs.length ∧ ORow w w.heap.size wr o ((thF t (cs.take k)).map CallV.pure) ∧ Below w.heap.size w wr
theorem thF_len (t : Int) (cs : List CallV) : (thF t cs).length ≤ cs.length := List.length_filter_le _ _
attribute [local go_sem, local simp] fold_call
set_option maxRecDepth 100000 in
set_option maxHeartbeats 1000000 in
theorem refOf_some (b off cap : Nat) (t : Int) (cs : List CallV) (w : World) (hb : b < w.heap.size) (hC : CAt w b off cs) (hs : cs.length ≤ 1000000) (hd : ∀ c ∈ cs, DAt w c) :
    Calls Try.prog 33 #[.int .i64 t, .slice (some ⟨b, off, none⟩) cs.length cap] w fun e w' => ∃ v, e = .returned v ∧ ORow w w.heap.size w' v ((thF t cs).map CallV.pure) ∧ Below w.heap.size w w' := by
  obtain ⟨i0, hi, hz0, hz1, hz2⟩ := info_parts infoC
  go_enter Try.func33, Try.ntmps33
  go_wp2
  go_loopw [5, 6] (fun o i wr => OfRel w t cs o i wr) (fun o i wr => cs.length - (intOf i).toNat)
  case atStart => exact ⟨0, rfl, by omega, ORow.nil _ _ _, Below.refl _ _⟩
  case round =>
    obtain ⟨k, rfl, hk, hR, hB⟩ := hrel
    by_cases hlt : k < cs.length
    · obtain ⟨c, hc⟩ : ∃ c, cs[k]? = some c := ⟨_, List.getElem?_eq_getElem hlt⟩
      have hCr := hC.below hB hb
      have hld := hCr.load hc
      have q0 := hCr.cell hc 0 (by omega)
      rw [callL_0, Nat.add_zero] at q0
      have hst := thF_step (t := t) hc
      have hle := thF_len t (cs.take k)
      rw [List.length_take, Nat.min_eq_left hk] at hle
      have hdc := (hd c (List.mem_of_getElem? hc)).on hB
      generalize thF t (cs.take k) = L at *
      have Hst := Lib.hid hst
      clear hst hc hCr
      by_cases hq : c.thread = t
      · have hq1 : (c.thread == t) = true := by simpa using hq
        have cp := copycall_any c wr (.inr hdc)
        have Hq := Lib.hid hq
        clear hq hdc
        go_wp2_with fail
        refine cp.mono ?_
        clear cp
        rintro e w2 ⟨c', rfl, hpu, hDc, hB2⟩
        have hsz : w.heap.size ≤ w2.heap.size := Nat.le_trans hB.size hB2.size
        have hBw := hB.trans (hB2.mono hB.size)
        have hDw := hDc.mono hB.size
        have hR3 := hR.on hB2
        clear hR hB2 hB hDc hld q0
        obtain ⟨cs', hm, hown2, hD2⟩ := hR3
        have hlen : cs'.length ≤ cs.length := by rw [← List.length_map (f := CallV.pure), hm, List.length_map]; omega
        have Hlen := Lib.hid hlen
        have hl1 := callL_len c'
        have ho1 := ones_call c'
        have hn1 := pieces_new w2 (callL c') 34
        clear hlen
        go_wp2_with (at_builtin; (try simp only [fold_call]); refine wpList_append_own _ rfl _ _ 37 rfl w.heap.size 34 i0 _ 27 240 Try.underlying37 hi hz0 hz1 hz2 rfl (by decide) _ _ _ rfl (hown2.alloc _) ⟨_, 0, none⟩ 1 1 (callL c') rfl (by rw [hl1]) hn1 ho1 (by have := Hlen.out; unfold maxLen; omega) (by have := Hlen.out; omega) (by simp; omega) ?_; intro v' w3 hown' hgrow _)
        have hB3 := (hBw.alloc hsz _).grown hgrow (by simp; omega) fun k hk => (hown2.lt k hk).1
        go_roundw
        case rel => exact ⟨k + 1, by go_num, by omega, ⟨cs' ++ [c'], by rw [List.map_append, hm, Hst.out, if_pos Hq.out, List.map_append, List.map_singleton, List.map_singleton, hpu], by rw [callsL_snoc, List.length_append]; exact hown', fun c hc => by
            rcases List.mem_append.1 hc with hc | hc
            · exact ((hD2 c hc).on ((Below.refl _ _).alloc (Nat.le_refl _) _)).grown (hown2.alloc _) hgrow
            · rw [List.mem_singleton.1 hc]; exact (hDw.on ((Below.refl _ _).alloc (Nat.le_refl _) _)).grown (hown2.alloc _) hgrow⟩, hB3⟩
        case measure => simp [intOf]; omega
      · have hq1 : (c.thread == t) = false := by simpa using hq
        have Hq := Lib.hid hq
        clear hq
        go_wp2
        go_roundw
        case rel => exact ⟨k + 1, by go_num, by omega, by rw [Hst.out, if_neg Hq.out, List.append_nil]; exact hR, hB⟩
        case measure => simp [intOf]; omega
    · have hkk : k = cs.length := by omega
      subst hkk
      rw [List.take_length] at hR
      go_wp2
      go_returns
      exact ⟨_, rfl, hR, hB⟩
theorem refOf_any (p : Option Addr) (cap : Nat) (t : Int) (cs : List CallV) (w : World) (hC : CRow w p cap cs) (hs : cs.length ≤ 1000000) (hd : ∀ c ∈ cs, DAt w c) :
    Calls Try.prog 33 #[.int .i64 t, .slice p cs.length cap] w fun e w' => ∃ v, e = .returned v ∧ ORow w w.heap.size w' v ((thF t cs).map CallV.pure) ∧ Below w.heap.size w w' := by
  rcases hC with ⟨rfl, rfl, rfl⟩ | ⟨b, off, rfl, h1, h2, h3⟩
  · go_enter Try.func33, Try.ntmps33
    go_wp2
    refine wp_loop_rounds 1 ?_
    rw [rounds_succ]
    go_wp2
    go_returns
    exact ⟨_, rfl, ORow.nil _ _ _, Below.refl _ _⟩
  · exact refOf_some b off cap t cs w h2 h3 hs hd
set_option maxRecDepth 100000 in
set_option maxHeartbeats 1000000 in
theorem refPending_some (b off cap : Nat) (cs : List CallV) (w : World) (hb : b < w.heap.size) (hC : CAt w b off cs) (hs : cs.length ≤ 1000000) :
    Calls Try.prog 34 #[.slice (some ⟨b, off, none⟩) cs.length cap] w fun e w' => ∃ v, e = .returned v ∧ w'.ownsRow w.heap.size 3 1 v (places pendQ cs 0).length ((places pendQ cs 0).map nv) ∧ Below w.heap.size w w' := by
  obtain ⟨i0, hi, hz0, hz1, hz2⟩ := info_parts infoI
  go_enter Try.func34, Try.ntmps34
  go_wp2
  go_loopw [3, 4] (fun o i wr => PRel w cs pendQ o i wr) (fun o i wr => cs.length - (intOf i).toNat)
  case atStart => exact ⟨0, rfl, by omega, World.ownsRow_nil _ _ _ _, Below.refl _ _⟩
  case round =>
    obtain ⟨k, rfl, hk, hown, hB⟩ := hrel
    by_cases hlt : k < cs.length
    · obtain ⟨c, hc⟩ : ∃ c, cs[k]? = some c := ⟨_, List.getElem?_eq_getElem hlt⟩
      have q12 := (hC.below hB hb).cell hc 12 (by omega)
      rw [callL_12] at q12
      have hst := places_step (q := pendQ) hc
      have hle := places_len (q := pendQ) (cs := cs.take k) (k := 0)
      rw [List.length_take, Nat.min_eq_left hk] at hle
      generalize places pendQ (cs.take k) 0 = pl at *
      have Hst := Lib.hid hst
      clear hst hc
      by_cases hq : c.answered < 0
      · have hq' : pendQ c = true := by simpa [pendQ] using hq
        have Hq := Lib.hid hq'
        clear hq'
        go_wp2_with (at_builtin; refine wpList_append_own _ rfl _ _ 40 rfl w.heap.size 3 i0 (.int .i64 0) 1 8 Try.underlying40 hi hz0 hz1 hz2 rfl (by decide) _ _ _ rfl (hown.alloc _) ⟨_, 0, none⟩ 1 1 [.int .i64 (k : Int)] rfl rfl (pieces_new _ _ _) (by simp [Value.oneCell']) (by unfold maxLen; omega) (by omega) (by have := hB.size; simp at *; omega) ?_; intro v' w3 hown' hgrow _)
        have hB3 := (hB.alloc hB.size (.cells #[.int .i64 (k : Int)] 3)).grown hgrow (by have := hB.size; simp at *; omega) fun k hk => (hown.lt k hk).1
        go_roundw
        case rel => exact ⟨k + 1, by go_num, by omega, by rw [Hst.out, Hq.out]; simpa [nv] using hown', hB3⟩
        case measure => simp [intOf]; omega
      · have hq' : pendQ c = false := by simpa [pendQ] using hq
        have Hq := Lib.hid hq'
        clear hq'
        go_wp2
        go_roundw
        case rel => exact ⟨k + 1, by go_num, by omega, by rw [Hst.out, Hq.out]; simpa [nv] using hown, hB⟩
        case measure => simp [intOf]; omega
    · go_wp2
      go_returns
      have hkk : k = cs.length := by omega
      subst hkk
      rw [List.take_length] at hown
      exact ⟨_, rfl, hown, hB⟩
theorem refPending_any (p : Option Addr) (cap : Nat) (cs : List CallV) (w : World) (hC : CRow w p cap cs) (hs : cs.length ≤ 1000000) :
    Calls Try.prog 34 #[.slice p cs.length cap] w fun e w' => ∃ v, e = .returned v ∧ w'.ownsRow w.heap.size 3 1 v (places pendQ cs 0).length ((places pendQ cs 0).map nv) ∧ Below w.heap.size w w' := by
  rcases hC with ⟨rfl, rfl, rfl⟩ | ⟨b, off, rfl, h1, h2, h3⟩
  · go_enter Try.func34, Try.ntmps34
    go_wp2
    refine wp_loop_rounds 1 ?_
    rw [rounds_succ]
    go_wp2
    go_returns
    exact ⟨_, rfl, World.ownsRow_nil _ _ _ _, Below.refl _ _⟩
  · exact refPending_some b off cap cs w h2 h3 hs
end Go.Proofs.Ytjinnlmmlbmodaa
