/- Decode of the reference, and the loops: Valid, Count, and Next, Prev, Clip of the reference. -/
import Derived.Test.YtmachjjnhphhbaaRunesB
import Derived.Lib.Strings
import Derived.Lib.IndexBytes
namespace Go.Proofs.Ytmachjjnhphhbaa
open Go.RowKit

theorem size_pos_of_ne {s : ByteArray} (h : s.toList.isEmpty = false) : 0 < s.size := by
  rw [← decide_eq_emptyBytes] at h
  simp at h
  rcases Nat.eq_zero_or_pos s.size with h0 | h0
  · exfalso; apply h; apply ByteArray.ext; apply Array.toList_inj.1; apply List.eq_nil_of_length_eq_zero; simpa using h0
  · exact h0
theorem size_zero_of {s : ByteArray} (h : s.toList.isEmpty = true) : s.data.toList = [] := by
  rw [Lib.toList_data] at h; simpa using h

set_option maxRecDepth 100000 in
set_option maxHeartbeats 4000000 in
theorem refDecode_any (s : ByteArray) (w : World) : Calls Try.prog 20 #[.string s] w fun e w' => e = .returned (.tuple #[.int .i64 (decL s.data.toList).1, .int .i64 (decL s.data.toList).2.1, .int .i64 (decL s.data.toList).2.2]) ∧ Below w.heap.size w w' := by
  by_cases hs0 : s.size = 0
  · have : s = ByteArray.empty := by apply ByteArray.ext; apply Array.toList_inj.1; apply List.eq_nil_of_length_eq_zero; simpa using hs0
    subst this
    clear hs0
    go_enter Try.func20, Try.ntmps20
    go_wp2
    go_returns
    exact ⟨ret_dec rfl, Below.refl _ _⟩
  have hs : 0 < s.size := by omega
  clear hs0
  have hne := isEmpty_of_pos hs
  have hb0 := byt_mk s 0 hs
  have hb1 := byt_mk s 1
  have hb2 := byt_mk s 2
  have hb3 := byt_mk s 3
  have l0 := byt_lo s.data.toList 0
  have u0 := byt_hi s.data.toList 0
  have l1 := byt_lo s.data.toList 1
  have u1 := byt_hi s.data.toList 1
  have l2 := byt_lo s.data.toList 2
  have u2 := byt_hi s.data.toList 2
  have l3 := byt_lo s.data.toList 3
  have u3 := byt_hi s.data.toList 3
  have hl : s.data.toList.length = s.size := by simp
  have HL := Lib.hid hl; clear hl
  have hA := refN_of (b := byt s.data.toList 0) rfl
  generalize hn : refN (byt s.data.toList 0) = n at hA
  have Hn := Lib.hid hn; clear hn
  rcases hA with ⟨h, hb⟩ | ⟨h, hb, hb'⟩ | ⟨h, hb, hb'⟩ | ⟨h, hb⟩
  · subst h
    go_enter Try.func20, Try.ntmps20
    go_wp2_with fail
    refine wp_loop_rounds 4 ?_
    repeat any_goals (rw [rounds_succ]; go_wp2_with (first | (go_at_call 30; refine (refCont_any _ _).mono ?_; rintro e w' ⟨rfl, rfl⟩) | (go_at_call 22; refine (refEncode_any _ _).mono ?_; rintro e w' ⟨rfl, hbe⟩)))
    all_goals
      have hc : decC s.data.toList 1 = true := by unfold decC; simp_all
      have he := ref_end Hn.out (by rw [HL.out]; omega) hc
      have hr : decR s.data.toList 1 = byt s.data.toList 0 := by unfold decR; simp; try omega
      rw [hr] at he
    · rw [if_neg (by rintro ⟨_, h2⟩; simp_all [Lib.extract_toList])] at he
      go_returns
      exact ⟨ret_dec he, hbe⟩
    · rw [if_pos ⟨by simp_all, by simp_all [Lib.extract_toList]⟩] at he
      go_returns
      exact ⟨ret_dec he, hbe⟩
    · rw [if_neg (by rintro ⟨h1, _⟩; simp_all)] at he
      go_returns
      exact ⟨ret_dec he, hbe⟩
  · subst h
    rcases Nat.lt_or_ge 1 s.size with g1 | g1
    case inr =>
      have d1 : decide ((s.size : Int) ≤ 1) = true := by simp; omega
      go_enter Try.func20, Try.ntmps20
      go_wp2_with fail
      refine wp_loop_rounds 4 ?_
      repeat any_goals (rw [rounds_succ]; go_wp2_with (first | (go_at_call 30; refine (refCont_any _ _).mono ?_; rintro e w' ⟨rfl, rfl⟩) | (go_at_call 22; refine (refEncode_any _ _).mono ?_; rintro e w' ⟨rfl, hbe⟩)))
      all_goals first
        | (go_returns; refine ⟨ret_dec (ref_cut (by rw [HL.out]; exact hs) Hn.out (.inl ?_)), Below.refl _ _⟩; rw [HL.out]; omega)
        | (go_returns; refine ⟨ret_dec (ref_cut (by rw [HL.out]; exact hs) Hn.out (.inr ?_)), Below.refl _ _⟩; unfold decC; simp_all; done)
    have d1 : decide ((s.size : Int) ≤ 1) = false := by simp; omega
    go_enter Try.func20, Try.ntmps20
    go_wp2_with fail
    refine wp_loop_rounds 4 ?_
    repeat any_goals (rw [rounds_succ]; go_wp2_with (first | (go_at_call 30; refine (refCont_any _ _).mono ?_; rintro e w' ⟨rfl, rfl⟩) | (go_at_call 22; refine (refEncode_any _ _).mono ?_; rintro e w' ⟨rfl, hbe⟩)))
    all_goals first
      | (go_returns; refine ⟨ret_dec (ref_cut (by rw [HL.out]; exact hs) Hn.out (.inl ?_)), Below.refl _ _⟩; rw [HL.out]; omega)
      | (go_returns; refine ⟨ret_dec (ref_cut (by rw [HL.out]; exact hs) Hn.out (.inr ?_)), Below.refl _ _⟩; unfold decC; simp_all; done)
      | skip
    all_goals
      have hc : decC s.data.toList 2 = true := by unfold decC; simp_all
      have he := ref_end Hn.out (by rw [HL.out]; omega) hc
      have hr : decR s.data.toList 2 = 64 * (byt s.data.toList 0 - 192) + byt s.data.toList 1 - 128 := by unfold decR; simp; try omega
      rw [hr] at he
    · rw [if_neg (by rintro ⟨_, h2⟩; simp_all [Lib.extract_toList])] at he
      go_returns
      exact ⟨ret_dec he, hbe⟩
    · rw [if_pos ⟨by simp_all, by simp_all [Lib.extract_toList]⟩] at he
      go_returns
      exact ⟨ret_dec he, hbe⟩
    · rw [if_neg (by rintro ⟨h1, _⟩; simp_all)] at he
      go_returns
      exact ⟨ret_dec he, hbe⟩
  · subst h
    rcases Nat.lt_or_ge 1 s.size with g1 | g1
    case inr =>
      have d1 : decide ((s.size : Int) ≤ 1) = true := by simp; omega
      go_enter Try.func20, Try.ntmps20
      go_wp2_with fail
      refine wp_loop_rounds 4 ?_
      repeat any_goals (rw [rounds_succ]; go_wp2_with (first | (go_at_call 30; refine (refCont_any _ _).mono ?_; rintro e w' ⟨rfl, rfl⟩) | (go_at_call 22; refine (refEncode_any _ _).mono ?_; rintro e w' ⟨rfl, hbe⟩)))
      all_goals first
        | (go_returns; refine ⟨ret_dec (ref_cut (by rw [HL.out]; exact hs) Hn.out (.inl ?_)), Below.refl _ _⟩; rw [HL.out]; omega)
        | (go_returns; refine ⟨ret_dec (ref_cut (by rw [HL.out]; exact hs) Hn.out (.inr ?_)), Below.refl _ _⟩; unfold decC; simp_all; done)
    have d1 : decide ((s.size : Int) ≤ 1) = false := by simp; omega
    rcases Nat.lt_or_ge 2 s.size with g2 | g2
    case inr =>
      have d2 : decide ((s.size : Int) ≤ 2) = true := by simp; omega
      go_enter Try.func20, Try.ntmps20
      go_wp2_with fail
      refine wp_loop_rounds 4 ?_
      repeat any_goals (rw [rounds_succ]; go_wp2_with (first | (go_at_call 30; refine (refCont_any _ _).mono ?_; rintro e w' ⟨rfl, rfl⟩) | (go_at_call 22; refine (refEncode_any _ _).mono ?_; rintro e w' ⟨rfl, hbe⟩)))
      all_goals first
        | (go_returns; refine ⟨ret_dec (ref_cut (by rw [HL.out]; exact hs) Hn.out (.inl ?_)), Below.refl _ _⟩; rw [HL.out]; omega)
        | (go_returns; refine ⟨ret_dec (ref_cut (by rw [HL.out]; exact hs) Hn.out (.inr ?_)), Below.refl _ _⟩; unfold decC; simp_all; done)
    have d2 : decide ((s.size : Int) ≤ 2) = false := by simp; omega
    go_enter Try.func20, Try.ntmps20
    go_wp2_with fail
    refine wp_loop_rounds 4 ?_
    repeat any_goals (rw [rounds_succ]; go_wp2_with (first | (go_at_call 30; refine (refCont_any _ _).mono ?_; rintro e w' ⟨rfl, rfl⟩) | (go_at_call 22; refine (refEncode_any _ _).mono ?_; rintro e w' ⟨rfl, hbe⟩)))
    all_goals first
      | (go_returns; refine ⟨ret_dec (ref_cut (by rw [HL.out]; exact hs) Hn.out (.inl ?_)), Below.refl _ _⟩; rw [HL.out]; omega)
      | (go_returns; refine ⟨ret_dec (ref_cut (by rw [HL.out]; exact hs) Hn.out (.inr ?_)), Below.refl _ _⟩; unfold decC; simp_all; done)
      | skip
    all_goals
      have hc : decC s.data.toList 3 = true := by unfold decC; simp_all
      have he := ref_end Hn.out (by rw [HL.out]; omega) hc
      have hr : decR s.data.toList 3 = 64 * (64 * (byt s.data.toList 0 - 224) + byt s.data.toList 1 - 128) + byt s.data.toList 2 - 128 := by unfold decR; simp; try omega
      rw [hr] at he
    · rw [if_neg (by rintro ⟨_, h2⟩; simp_all [Lib.extract_toList])] at he
      go_returns
      exact ⟨ret_dec he, hbe⟩
    · rw [if_pos ⟨by simp_all, by simp_all [Lib.extract_toList]⟩] at he
      go_returns
      exact ⟨ret_dec he, hbe⟩
    · rw [if_neg (by rintro ⟨h1, _⟩; simp_all)] at he
      go_returns
      exact ⟨ret_dec he, hbe⟩
  · subst h
    rcases Nat.lt_or_ge 1 s.size with g1 | g1
    case inr =>
      have d1 : decide ((s.size : Int) ≤ 1) = true := by simp; omega
      go_enter Try.func20, Try.ntmps20
      go_wp2_with fail
      refine wp_loop_rounds 4 ?_
      repeat any_goals (rw [rounds_succ]; go_wp2_with (first | (go_at_call 30; refine (refCont_any _ _).mono ?_; rintro e w' ⟨rfl, rfl⟩) | (go_at_call 22; refine (refEncode_any _ _).mono ?_; rintro e w' ⟨rfl, hbe⟩)))
      all_goals first
        | (go_returns; refine ⟨ret_dec (ref_cut (by rw [HL.out]; exact hs) Hn.out (.inl ?_)), Below.refl _ _⟩; rw [HL.out]; omega)
        | (go_returns; refine ⟨ret_dec (ref_cut (by rw [HL.out]; exact hs) Hn.out (.inr ?_)), Below.refl _ _⟩; unfold decC; simp_all; done)
    have d1 : decide ((s.size : Int) ≤ 1) = false := by simp; omega
    rcases Nat.lt_or_ge 2 s.size with g2 | g2
    case inr =>
      have d2 : decide ((s.size : Int) ≤ 2) = true := by simp; omega
      go_enter Try.func20, Try.ntmps20
      go_wp2_with fail
      refine wp_loop_rounds 4 ?_
      repeat any_goals (rw [rounds_succ]; go_wp2_with (first | (go_at_call 30; refine (refCont_any _ _).mono ?_; rintro e w' ⟨rfl, rfl⟩) | (go_at_call 22; refine (refEncode_any _ _).mono ?_; rintro e w' ⟨rfl, hbe⟩)))
      all_goals first
        | (go_returns; refine ⟨ret_dec (ref_cut (by rw [HL.out]; exact hs) Hn.out (.inl ?_)), Below.refl _ _⟩; rw [HL.out]; omega)
        | (go_returns; refine ⟨ret_dec (ref_cut (by rw [HL.out]; exact hs) Hn.out (.inr ?_)), Below.refl _ _⟩; unfold decC; simp_all; done)
    have d2 : decide ((s.size : Int) ≤ 2) = false := by simp; omega
    rcases Nat.lt_or_ge 3 s.size with g3 | g3
    case inr =>
      have d3 : decide ((s.size : Int) ≤ 3) = true := by simp; omega
      go_enter Try.func20, Try.ntmps20
      go_wp2_with fail
      refine wp_loop_rounds 4 ?_
      repeat any_goals (rw [rounds_succ]; go_wp2_with (first | (go_at_call 30; refine (refCont_any _ _).mono ?_; rintro e w' ⟨rfl, rfl⟩) | (go_at_call 22; refine (refEncode_any _ _).mono ?_; rintro e w' ⟨rfl, hbe⟩)))
      all_goals first
        | (go_returns; refine ⟨ret_dec (ref_cut (by rw [HL.out]; exact hs) Hn.out (.inl ?_)), Below.refl _ _⟩; rw [HL.out]; omega)
        | (go_returns; refine ⟨ret_dec (ref_cut (by rw [HL.out]; exact hs) Hn.out (.inr ?_)), Below.refl _ _⟩; unfold decC; simp_all; done)
    have d3 : decide ((s.size : Int) ≤ 3) = false := by simp; omega
    go_enter Try.func20, Try.ntmps20
    go_wp2_with fail
    refine wp_loop_rounds 4 ?_
    repeat any_goals (rw [rounds_succ]; go_wp2_with (first | (go_at_call 30; refine (refCont_any _ _).mono ?_; rintro e w' ⟨rfl, rfl⟩) | (go_at_call 22; refine (refEncode_any _ _).mono ?_; rintro e w' ⟨rfl, hbe⟩)))
    all_goals first
      | (go_returns; refine ⟨ret_dec (ref_cut (by rw [HL.out]; exact hs) Hn.out (.inl ?_)), Below.refl _ _⟩; rw [HL.out]; omega)
      | (go_returns; refine ⟨ret_dec (ref_cut (by rw [HL.out]; exact hs) Hn.out (.inr ?_)), Below.refl _ _⟩; unfold decC; simp_all; done)
      | skip
    all_goals
      have hc : decC s.data.toList 4 = true := by unfold decC; simp_all
      have he := ref_end Hn.out (by rw [HL.out]; omega) hc
      have hr : decR s.data.toList 4 = 64 * (64 * (64 * (byt s.data.toList 0 - 240) + byt s.data.toList 1 - 128) + byt s.data.toList 2 - 128) + byt s.data.toList 3 - 128 := by unfold decR; simp; try omega
      rw [hr] at he
    · rw [if_neg (by rintro ⟨_, h2⟩; simp_all [Lib.extract_toList])] at he
      go_returns
      exact ⟨ret_dec he, hbe⟩
    · rw [if_pos ⟨by simp_all, by simp_all [Lib.extract_toList]⟩] at he
      go_returns
      exact ⟨ret_dec he, hbe⟩
    · rw [if_neg (by rintro ⟨h1, _⟩; simp_all)] at he
      go_returns
      exact ⟨ret_dec he, hbe⟩
end Go.Proofs.Ytmachjjnhphhbaa
