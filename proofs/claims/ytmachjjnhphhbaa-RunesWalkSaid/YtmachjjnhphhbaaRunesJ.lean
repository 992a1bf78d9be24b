/- The walk of RunesWalk. -/
import Derived.Test.YtmachjjnhphhbaaRunesI
import Derived.Test.YtmachjjnhphhbaaRunesR
import Derived.Deep.AppendLies
import Derived.Deep.QuietTactic
import Derived.BigQuiet
import Derived.RangeFuncBox
import Derived.Maps.AppendAt
namespace Go.Proofs.Ytmachjjnhphhbaa
open Go.RowKit

theorem Try.infoInt : (Try.prog.info? 3).map (fun i => (i.zero, i.size, i.bytes)) = some (some (.int .i64 0), 1, 8) := by kernel_rfl
def ints (xs : List Nat) : List Value := xs.map fun i : Nat => Value.int .i64 (i : Int)
theorem own_below {w w' : World} {base : Nat} {e : TypeId} {size : Nat} {v : Value} {n : Nat} {xs : List Value} (h : w.ownsRow base e size v n xs) (hb : Below w.heap.size w w') : w'.ownsRow base e size v n xs := by
  rcases h.2 with ⟨rfl, rfl⟩ | ⟨g, cap, cur, rfl, h1, h2, h3⟩
  · exact ⟨h.1, .inl ⟨rfl, rfl⟩⟩
  · exact ⟨h.1, .inr ⟨g, cap, cur, rfl, h1, (hb.block g (Array.getElem?_eq_some_iff.1 h2).1).trans h2, h3⟩⟩

def InRel (w : World) (v : Value) (j : Nat) (xs : List Value) (m n : Nat) (k : Value) (wr : World) : Prop := ∃ q : Nat, k = .int .i64 q ∧ m ≤ q ∧ q ≤ n ∧ wr.ownsRow w.heap.size 3 1 v j xs ∧ Below w.heap.size w wr
/-- The first loop: j boundaries have come, all those below m. -/
def WRel (w : World) (s : ByteArray) (v a i : Value) (wr : World) : Prop := ∃ (j m : Nat), i = .int .i64 j ∧ a = .int .i64 ((m : Int) - 1) ∧ m ≤ s.size + 1 ∧ j ≤ s.size + 1 ∧ (bls s.data.toList m).length = j ∧ wr.ownsRow w.heap.size 3 1 v j (ints (bls s.data.toList m)) ∧ Below w.heap.size w wr
theorem ints_snoc (xs : List Nat) (n : Nat) : ints (xs ++ [n]) = ints xs ++ [.int .i64 (n : Int)] := by unfold ints; simp

/-- The loop downwards: q boundaries lie below p. -/
def DRel (w : World) (s : ByteArray) (v : Value) (c : Nat) (a i : Value) (wr : World) : Prop := ∃ (q p : Nat), i = .int .i64 ((q : Int) - 1) ∧ a = .int .i64 p ∧ q ≤ c ∧ p ≤ s.size + 1 ∧ bls s.data.toList p = (bls s.data.toList (s.size + 1)).take q ∧ wr.ownsRow w.heap.size 3 1 v c (ints (bls s.data.toList (s.size + 1))) ∧ Below w.heap.size w wr
def ERel (w : World) (s : ByteArray) (v : Value) (c : Nat) (i : Value) (wr : World) : Prop := ∃ (q : Nat), i = .int .i64 q ∧ q ≤ c ∧ wr.ownsRow w.heap.size 3 1 v c (ints (bls s.data.toList (s.size + 1))) ∧ Below w.heap.size w wr
theorem ints_get {xs : List Nat} {i y : Nat} (h : xs[i]? = some y) : (ints xs)[i]? = some (.int .i64 (y : Int)) := by unfold ints; simp [h]

set_option maxRecDepth 100000 in
set_option maxHeartbeats 4000000 in
theorem walkRunesWalk (s : ByteArray) (hsm : s.size ≤ maxLen) (_ : s.size ≤ 140737488351232) (w : World) : Calls Try.prog 8 #[.string s] w fun e w' => e = .returned (.bool true) ∧ Below w.heap.size w w' := by
  obtain ⟨i0, hi, hz0, hz1, hz2⟩ := info_parts Try.infoInt
  by_cases hlong : (1000 : Int) < s.size
  · go_enter Try.func8, Try.ntmps8
    go_wp2_with (go_at_call 12; refine (known_any _).mono ?_; rintro e w2 ⟨rfl, hb2⟩)
    go_ret
    exact ⟨rfl, hb2⟩
  · have hshort : s.size ≤ 1000 := by omega
    clear hlong
    have hl : s.data.toList.length = s.size := by simp
    have Hl := Lib.hid hl; clear hl
    have Hm := Lib.hid hsm; clear hsm
    go_enter Try.func8, Try.ntmps8
    go_wp2_with (go_at_call 12; refine (known_any _).mono ?_; rintro e w1 ⟨rfl, hb1⟩)
    go_loopw [3, 4, 5, 6, 7, 8] (fun v a i n is k wr => WRel w s v a i wr) (fun v a i n is k wr => s.size + 1 - (intOf i).toNat)
    case atStart => exact ⟨0, 0, rfl, rfl, by omega, by omega, rfl, World.ownsRow_nil w1 w.heap.size 3 1, hb1⟩
    case round =>
      obtain ⟨j, m, rfl, rfl, hm, hj, hlen, hown, hB⟩ := hrel
      have Hlen := Lib.hid hlen; clear hlen
      have hn := next_spec s.data.toList m (by rw [Hl.out]; exact hm)
      rw [Hl.out] at hn
      by_cases hlt : j ≤ s.size
      · rcases hn with ⟨hm2, hn⟩ | ⟨hm2, n, hn, hmn, hns, hbn, hno, hbl⟩
        · subst hm2
          clear hn
          have hall := bls_all s.data.toList
          rw [Hl.out, Hlen.out] at hall
          subst hall
          obtain ⟨g, cap, rfl⟩ := ownsRow_succ hown
          have hn := next_end s.data.toList
          rw [Hl.out] at hn
          have Hn := Lib.hid hn; clear hn
          go_wp2_with fail
          refine (next_k _ _ _ (by omega) Hn.out).mono ?_
          rintro e w2 ⟨rfl, hb2⟩
          go_wp2_with (go_at_call 15; refine (count_any _ _ Hm.out).mono ?_; rintro e wx ⟨rfl, rfl⟩)
          have hown3 := own_below hown hb2
          have hB3 := hB.trans (hb2.mono hB.size)
          clear hown hB hb2
          go_loopw [4, 9, 10, 11] (fun a i n is wx => DRel w s (.slice (some ⟨g, 0, none⟩) (cntL s.data.toList + 1) cap) (cntL s.data.toList + 1) a i wx) (fun a i n is wx => (intOf i + 1).toNat)
          case atStart => exact ⟨cntL s.data.toList + 1, s.size + 1, int_eq (by omega), int_eq (by omega), by omega, by omega, by rw [← Hlen.out, List.take_length], hown3, hB3⟩
          case round =>
            clear hown3 hB3
            obtain ⟨q, p, rfl, rfl, hq, hp, hbp, hown, hB⟩ := hrel
            have Hbp := Lib.hid hbp; clear hbp
            cases q with
            | zero =>
              have hpv : prevL s.data.toList p = (0, false) := by rw [prev_of _ _ (by rw [Hl.out]; exact hp), dn_nil Hbp.out]
              have Hpv := Lib.hid hpv; clear hpv
              go_wp2_with fail
              refine (prev_k _ _ _ (by omega) (by omega) Hpv.out).mono ?_
              rintro e w5 ⟨rfl, hb5⟩
              go_wp2_with fail
              refine (next_k _ _ _ (by omega) Hn.out).mono ?_
              rintro e w6 ⟨rfl, hb6⟩
              go_wp2
              have hown6 := own_below (own_below hown hb5) hb6
              have hB6 := (hB.trans (hb5.mono hB.size)).trans (hb6.mono (Nat.le_trans hB.size hb5.size))
              clear hown hB hb5 hb6
              go_loopw [16, 17, 18, 19] (fun i r n e wx => ERel w s (.slice (some ⟨g, 0, none⟩) (cntL s.data.toList + 1) cap) (cntL s.data.toList + 1) i wx) (fun i r n e wx => cntL s.data.toList + 1 - (intOf i).toNat)
              case atStart => exact ⟨0, rfl, by omega, hown6, hB6⟩
              case round =>
                clear hown6 hB6
                obtain ⟨q, rfl, hq, hown, hB⟩ := hrel
                by_cases hlt2 : q + 1 < cntL s.data.toList + 1
                · cases hv : validL s.data.toList with
                  | false =>
                    have Hv := Lib.hid hv; clear hv
                    go_wp2_with fail
                    refine (valid_k _ _ Hv.out).mono ?_
                    rintro e wx ⟨rfl, rfl⟩
                    go_wp2
                    go_ret
                    exact ⟨rfl, hB⟩
                  | true =>
                    obtain ⟨y, hy⟩ : ∃ y, (bls s.data.toList (s.size + 1))[q]? = some y := ⟨_, List.getElem?_eq_getElem (by rw [Hlen.out]; omega)⟩
                    obtain ⟨z, hz⟩ : ∃ z, (bls s.data.toList (s.size + 1))[q + 1]? = some z := ⟨_, List.getElem?_eq_getElem (by rw [Hlen.out]; omega)⟩
                    have hc0 := hown.cellAt 0 (by omega)
                    have hc1 := hown.cellAt q (by omega)
                    have hc2 := hown.cellAt (q + 1) (by omega)
                    rw [ints_get (by rw [← Hl.out]; exact first_valid hv)] at hc0
                    rw [ints_get hy] at hc1
                    rw [ints_get hz] at hc2
                    have hyb := (bls_get _ _ _ _ hy).2.1
                    have hzb := (bls_get _ _ _ _ hz).2.1
                    obtain ⟨r, hdec⟩ := walk_valid hv (by rw [Hl.out]; exact hy) (by rw [Hl.out]; exact hz)
                    have hdec' : decL (s.extract y s.size).data.toList = (r, (z : Int) - y, 0) := by rw [Lib.extract_to_end]; exact hdec
                    have Hdec := Lib.hid hdec'
                    have Hv := Lib.hid hv
                    clear hv hy hz hdec hdec'
                    have ez : IntKind.i64.wrap ((y : Int) + ((z : Int) - y)) = z := by rw [IntWalk.i64_in _ (by omega)]; omega
                    go_wp2_with fail
                    refine (valid_k _ _ Hv.out).mono ?_
                    rintro e wx ⟨rfl, rfl⟩
                    go_wp2_with fail
                    refine (dec_k _ _ Hdec.out).mono ?_
                    rintro e wx ⟨rfl, rfl⟩
                    go_wp2
                    go_quiet (fail)
                    go_wp2
                    go_roundw
                    case rel => exact ⟨q + 1, by go_num, by omega, own_below hown (below_drewN (Below.refl _ _) _), below_drewN hB _⟩
                    case measure => simp [intOf]; omega
                · go_wp2
                  go_ret
                  exact ⟨rfl, hB⟩
            | succ q =>
              obtain ⟨y, hy⟩ : ∃ y, (bls s.data.toList (s.size + 1))[q]? = some y := ⟨_, List.getElem?_eq_getElem (by rw [Hlen.out]; omega)⟩
              have hbg := bls_get _ _ _ _ hy
              obtain ⟨hy1, hy2, hy3⟩ := hbg
              have hpv : prevL s.data.toList p = ((y : Int), true) := by
                rw [prev_of _ _ (by rw [Hl.out]; exact hp)]
                exact dn_snoc (ys := (bls s.data.toList (s.size + 1)).take q) (by rw [Hbp.out, List.take_add_one, hy]; rfl)
              have Hpv := Lib.hid hpv; clear hpv
              have Hy := Lib.hid hy; clear hy
              have Hy1 := Lib.hid hy1; clear hy1 hy3
              rw [show ((q + 1 : Nat) : Int) - 1 = (q : Int) from by omega]
              go_wp2_with fail
              refine (prev_k _ _ _ (by omega) (by omega) Hpv.out).mono ?_
              rintro e w5 ⟨rfl, hb5⟩
              have hown5 := own_below hown hb5
              have hB5 := hB.trans (hb5.mono hB.size)
              have hc5 := hown5.cellAt q (by omega)
              rw [ints_get Hy.out] at hc5
              clear hown hB hb5
              go_wp2
              go_roundw
              case rel => exact ⟨q, y, rfl, rfl, by omega, by omega, Hy1.out, hown5, hB5⟩
              case measure => simp [intOf]
        · have Hn := Lib.hid hn
          have Hno := Lib.hid hno
          have Hbl := Lib.hid hbl
          clear hn hno hbl
          have hd1 : decide ((n : Int) ≤ (m : Int) - 1) = false := by simp; omega
          have hd2 : decide (s.size < n) = false := by simp; omega
          go_wp2_with fail
          refine (next_k _ _ _ (by omega) Hn.out).mono ?_
          rintro e w2 ⟨rfl, hb2⟩
          go_wp2_with (go_at_call 17; refine (boundary_k _ _ _ hbn).mono ?_; rintro e wx ⟨rfl, rfl⟩)
          have hown2 := own_below hown hb2
          have hB2 := hB.trans (hb2.mono hB.size)
          clear hown hB hb2 hd1 hd2
          go_loopw [8] (fun k wx => InRel w u3 j (ints (bls s.data.toList m)) m n k wx) (fun k wx => n - (intOf k).toNat)
          case atStart => exact ⟨m, rfl, by omega, hmn, hown2, hB2⟩
          case round =>
            clear hown2 hB2
            obtain ⟨q, rfl, hq1, hq2, hown2, hB2⟩ := hrel
            by_cases hqn : q < n
            · have hbq := Hno.out (q : Int) (by omega) (by omega)
              go_wp2_with (go_at_call 17; refine (boundary_k _ _ _ hbq).mono ?_; rintro e wy ⟨rfl, rfl⟩)
              go_roundw
              case rel => exact ⟨q + 1, by go_num, by omega, by omega, hown2, hB2⟩
              case measure => simp [intOf]; omega
            · go_wp2_with (at_builtin; refine wpList_append_own _ rfl _ _ 36 rfl w.heap.size 3 i0 (.int .i64 0) 1 8 Try.underlying36 hi hz0 hz1 hz2 rfl (by decide) _ _ _ rfl (hown2.alloc _) ⟨_, 0, none⟩ 1 1 [.int .i64 (n : Int)] rfl rfl (cell_one_new _ _ _) (by simp [Value.oneCell']) (by unfold maxLen; omega) (by omega) (by have := hB2.size; simp; omega) ?_; intro v' w3 hown' hgrow _)
              have hB3 : Below w.heap.size w w3 := (hB2.alloc hB2.size _).grown hgrow (by have := hB2.size; simp; omega) fun k hk => (hown2.lt k hk).1
              go_roundw
              case rel => exact ⟨j + 1, n + 1, by go_num, int_eq (by omega), by omega, by omega, by rw [Hbl.out, List.length_append, Hlen.out]; rfl, by rw [Hbl.out, ints_snoc]; exact hown', hB3⟩
              case measure => simp [intOf]; omega
      · obtain rfl : m = s.size + 1 := by
          have := bls_le s.data.toList m
          rw [Hlen.out] at this
          omega
        clear hn
        have hall := bls_all s.data.toList
        rw [Hl.out, Hlen.out] at hall
        subst hall
        obtain ⟨g, cap, rfl⟩ := ownsRow_succ hown
        have hn := next_end s.data.toList
        rw [Hl.out] at hn
        have Hn := Lib.hid hn; clear hn
        have hb2 := Below.refl wr.heap.size wr
        go_wp2_with (go_at_call 15; refine (count_any _ _ Hm.out).mono ?_; rintro e wx ⟨rfl, rfl⟩)
        have hown3 := own_below hown hb2
        have hB3 := hB.trans (hb2.mono hB.size)
        clear hown hB hb2
        go_loopw [4, 9, 10, 11] (fun a i n is wx => DRel w s (.slice (some ⟨g, 0, none⟩) (cntL s.data.toList + 1) cap) (cntL s.data.toList + 1) a i wx) (fun a i n is wx => (intOf i + 1).toNat)
        case atStart => exact ⟨cntL s.data.toList + 1, s.size + 1, int_eq (by omega), int_eq (by omega), by omega, by omega, by rw [← Hlen.out, List.take_length], hown3, hB3⟩
        case round =>
          clear hown3 hB3
          obtain ⟨q, p, rfl, rfl, hq, hp, hbp, hown, hB⟩ := hrel
          have Hbp := Lib.hid hbp; clear hbp
          cases q with
          | zero =>
            have hpv : prevL s.data.toList p = (0, false) := by rw [prev_of _ _ (by rw [Hl.out]; exact hp), dn_nil Hbp.out]
            have Hpv := Lib.hid hpv; clear hpv
            go_wp2_with fail
            refine (prev_k _ _ _ (by omega) (by omega) Hpv.out).mono ?_
            rintro e w5 ⟨rfl, hb5⟩
            go_wp2_with fail
            refine (next_k _ _ _ (by omega) Hn.out).mono ?_
            rintro e w6 ⟨rfl, hb6⟩
            go_wp2
            have hown6 := own_below (own_below hown hb5) hb6
            have hB6 := (hB.trans (hb5.mono hB.size)).trans (hb6.mono (Nat.le_trans hB.size hb5.size))
            clear hown hB hb5 hb6
            go_loopw [16, 17, 18, 19] (fun i r n e wx => ERel w s (.slice (some ⟨g, 0, none⟩) (cntL s.data.toList + 1) cap) (cntL s.data.toList + 1) i wx) (fun i r n e wx => cntL s.data.toList + 1 - (intOf i).toNat)
            case atStart => exact ⟨0, rfl, by omega, hown6, hB6⟩
            case round =>
              clear hown6 hB6
              obtain ⟨q, rfl, hq, hown, hB⟩ := hrel
              by_cases hlt2 : q + 1 < cntL s.data.toList + 1
              · cases hv : validL s.data.toList with
                | false =>
                  have Hv := Lib.hid hv; clear hv
                  go_wp2_with fail
                  refine (valid_k _ _ Hv.out).mono ?_
                  rintro e wx ⟨rfl, rfl⟩
                  go_wp2
                  go_ret
                  exact ⟨rfl, hB⟩
                | true =>
                  obtain ⟨y, hy⟩ : ∃ y, (bls s.data.toList (s.size + 1))[q]? = some y := ⟨_, List.getElem?_eq_getElem (by rw [Hlen.out]; omega)⟩
                  obtain ⟨z, hz⟩ : ∃ z, (bls s.data.toList (s.size + 1))[q + 1]? = some z := ⟨_, List.getElem?_eq_getElem (by rw [Hlen.out]; omega)⟩
                  have hc0 := hown.cellAt 0 (by omega)
                  have hc1 := hown.cellAt q (by omega)
                  have hc2 := hown.cellAt (q + 1) (by omega)
                  rw [ints_get (by rw [← Hl.out]; exact first_valid hv)] at hc0
                  rw [ints_get hy] at hc1
                  rw [ints_get hz] at hc2
                  have hyb := (bls_get _ _ _ _ hy).2.1
                  have hzb := (bls_get _ _ _ _ hz).2.1
                  obtain ⟨r, hdec⟩ := walk_valid hv (by rw [Hl.out]; exact hy) (by rw [Hl.out]; exact hz)
                  have hdec' : decL (s.extract y s.size).data.toList = (r, (z : Int) - y, 0) := by rw [Lib.extract_to_end]; exact hdec
                  have Hdec := Lib.hid hdec'
                  have Hv := Lib.hid hv
                  clear hv hy hz hdec hdec'
                  have ez : IntKind.i64.wrap ((y : Int) + ((z : Int) - y)) = z := by rw [IntWalk.i64_in _ (by omega)]; omega
                  go_wp2_with fail
                  refine (valid_k _ _ Hv.out).mono ?_
                  rintro e wx ⟨rfl, rfl⟩
                  go_wp2_with fail
                  refine (dec_k _ _ Hdec.out).mono ?_
                  rintro e wx ⟨rfl, rfl⟩
                  go_wp2
                  go_quiet (fail)
                  go_wp2
                  go_roundw
                  case rel => exact ⟨q + 1, by go_num, by omega, own_below hown (below_drewN (Below.refl _ _) _), below_drewN hB _⟩
                  case measure => simp [intOf]; omega
              · go_wp2
                go_ret
                exact ⟨rfl, hB⟩
          | succ q =>
            obtain ⟨y, hy⟩ : ∃ y, (bls s.data.toList (s.size + 1))[q]? = some y := ⟨_, List.getElem?_eq_getElem (by rw [Hlen.out]; omega)⟩
            have hbg := bls_get _ _ _ _ hy
            obtain ⟨hy1, hy2, hy3⟩ := hbg
            have hpv : prevL s.data.toList p = ((y : Int), true) := by
              rw [prev_of _ _ (by rw [Hl.out]; exact hp)]
              exact dn_snoc (ys := (bls s.data.toList (s.size + 1)).take q) (by rw [Hbp.out, List.take_add_one, hy]; rfl)
            have Hpv := Lib.hid hpv; clear hpv
            have Hy := Lib.hid hy; clear hy
            have Hy1 := Lib.hid hy1; clear hy1 hy3
            rw [show ((q + 1 : Nat) : Int) - 1 = (q : Int) from by omega]
            go_wp2_with fail
            refine (prev_k _ _ _ (by omega) (by omega) Hpv.out).mono ?_
            rintro e w5 ⟨rfl, hb5⟩
            have hown5 := own_below hown hb5
            have hB5 := hB.trans (hb5.mono hB.size)
            have hc5 := hown5.cellAt q (by omega)
            rw [ints_get Hy.out] at hc5
            clear hown hB hb5
            go_wp2
            go_roundw
            case rel => exact ⟨q, y, rfl, rfl, by omega, by omega, Hy1.out, hown5, hB5⟩
            case measure => simp [intOf]
end Go.Proofs.Ytmachjjnhphhbaa
