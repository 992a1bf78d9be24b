/- The walks of the laws: HandleMatches, HandleBack, HandleAny, HandleNext. -/
import Derived.Test.YtipljlejhdggnaaDoorHanY
namespace Go.Proofs.YtipljlejhdggnaaDoor
open Go.RowKit Go.Lib

theorem makeH_bd (s g : Int) : 0 ≤ makeH s g ∧ makeH s g < 18446744073709551616 := by
  unfold makeH
  split
  · rename_i h; have := makeOk_of h; omega
  · omega
theorem u64_wf {g : Int} (h : (Lit.int .u64 g).wf = true) : 0 ≤ g ∧ g < 18446744073709551616 := by
  have a : IntKind.u64.min = 0 := by decide +kernel
  have b : IntKind.u64.max = 18446744073709551615 := by decide +kernel
  simp [Lit.wf, a, b] at h
  omega
theorem mk_is (a : List UInt8) : (⟨a.toArray⟩ : ByteArray).data.toList = a := by simp

def MRel (w : World) (h i : Value) (wr : World) : Prop := ∃ (x : Int) (k : Nat), h = .int .u64 x ∧ 0 ≤ x ∧ x < 18446744073709551616 ∧ i = .int .i64 k ∧ k ≤ 2 ∧ Below w.heap.size w wr

set_option maxRecDepth 100000 in
set_option maxHeartbeats 1000000 in
theorem walkHandleMatches (s g h : Int) (_ : (Lit.int .i64 s).wf = true) (hg : (Lit.int .u64 g).wf = true) (hh : (Lit.int .u64 h).wf = true) (w : World) (ht : Tab w) :
    Calls Tryd.prog 4 #[.int .i64 s, .int .u64 g, .int .u64 h] w fun e w' => e = .returned (.bool true) ∧ Below w.heap.size w w' := by
  have hg0 : 0 ≤ g := (u64_wf hg).1
  have hh0 : 0 ≤ h := (u64_wf hh).1
  have hh1 : h < 18446744073709551616 := (u64_wf hh).2
  have c1 := fun W => make_any s g hg0 W
  have c2 := fun W => refMake_any s g hg0 W
  obtain ⟨b0, b1⟩ := makeH_bd s g
  clear hg hh
  generalize makeH s g = b at *
  generalize makeE s g = f at *
  go_enter Tryd.func4, Tryd.ntmps4
  go_wp2_with fail
  refine (c1 _).mono ?_
  rintro e w' ⟨rfl, rfl⟩
  go_wp2_with fail
  refine (c2 _).mono ?_
  rintro e w' ⟨rfl, rfl⟩
  go_wp2
  go_loopw [2, 11] (fun h i wr => MRel w h i wr) (fun h i wr => 2 - (intOf i).toNat)
  case atStart => exact ⟨h, 0, rfl, hh0, hh1, rfl, by omega, Below.refl _ _⟩
  case round =>
    obtain ⟨x, k, rfl, x0, x1, rfl, hk, hB⟩ := hrel
    by_cases hlt : k < 2
    · have d1 := fun W => slot_any x x0 x1 W
      have d2 := fun W => gen_any x x0 x1 W
      have d3 := fun W => next_any x x0 x1 W
      have d4 := fun W hW => text_any x x0 x1 W hW
      have d5 := fun W => refSlot_any x x0 x1 W
      have d6 := fun W => refGen_any x x0 x1 W
      have d7 := fun W => refNext_any x x0 x1 W
      have d8 := fun W => refText_any x x0 x1 W
      have d9 := fun W => check_any x x0 x1 W
      have d10 := fun W => refCheck_any x x0 x1 W
      clear x0 x1 c1 c2
      generalize slotR x = r1 at *
      generalize genR x = r2 at *
      generalize nextH x = r3 at *
      generalize nextE x = r4 at *
      generalize txtL x = r5 at *
      generalize chkE x = r6 at *
      go_wp2_with fail
      refine (d1 _).mono ?_
      rintro e w' ⟨rfl, rfl⟩
      go_wp2_with fail
      refine (d2 _).mono ?_
      rintro e w' ⟨rfl, rfl⟩
      go_wp2_with fail
      refine (d3 _).mono ?_
      rintro e w' ⟨rfl, rfl⟩
      go_wp2_with fail
      refine (d4 _ (ht.on hB)).mono ?_
      rintro e w1 ⟨rfl, hB1⟩
      have hB2 := hB.trans (hB1.mono hB.size)
      go_wp2_with fail
      refine (d5 _).mono ?_
      rintro e w' ⟨rfl, rfl⟩
      go_wp2_with fail
      refine (d6 _).mono ?_
      rintro e w' ⟨rfl, rfl⟩
      go_wp2_with fail
      refine (d7 _).mono ?_
      rintro e w' ⟨rfl, rfl⟩
      go_wp2_with fail
      refine (d8 _).mono ?_
      rintro e w3 ⟨rfl, hB3⟩
      have hB4 := hB2.trans (hB3.mono hB2.size)
      clear hB1 hB2 hB3 hB d1 d2 d3 d4 d5 d6 d7 d8
      go_wp2_with (first | (go_at_call 22; refine (d9 _).mono ?_; rintro e w' ⟨rfl, rfl⟩) | (go_at_call 23; refine (d10 _).mono ?_; rintro e w' ⟨rfl, rfl⟩))
      go_roundw
      case rel => exact ⟨b, k + 1, rfl, b0, b1, by go_num, by omega, hB4⟩
      case measure => simp [intOf]; omega
    · go_wp2_with fail
      refine (awake_any _ (ht.on hB)).mono ?_
      rintro e w2 ⟨rfl, hB2⟩
      go_wp2_with fail
      go_returns
      exact ⟨rfl, hB.trans (hB2.mono hB.size)⟩

/-- A valid slot and generation, as valid brings two numbers to it. -/
def vslot (s : Int) : Int := (s.tmod 16384 + 16384).tmod 16384
def vgen (g : Int) : Int := 1 + g.tmod 4294967295
theorem vslot_bd (s : Int) : 0 ≤ vslot s ∧ vslot s < 16384 := by
  unfold vslot
  have h1 : -16384 < s.tmod 16384 := by
    have := Int.lt_tmod_of_pos s (show (0 : Int) < 16384 by decide)
    omega
  have h2 : 0 ≤ s.tmod 16384 + 16384 := by omega
  rw [Int.tmod_eq_emod_of_nonneg h2]
  omega
theorem vgen_bd (g : Int) (h : 0 ≤ g) : 1 ≤ vgen g ∧ vgen g ≤ 4294967295 := by
  unfold vgen
  rw [Int.tmod_eq_emod_of_nonneg h]
  omega
set_option maxHeartbeats 400000 in
theorem valid_any (s g : Int) (hg0 : 0 ≤ g) (w : World) : Calls Tryd.prog 25 #[.int .i64 s, .int .u64 g] w fun e w' => e = .returned (.tuple #[.int .i64 (vslot s), .int .u64 (vgen g)]) ∧ w = w' := by
  have h1 : -16384 < s.tmod 16384 ∧ s.tmod 16384 < 16384 := ⟨by have := Int.lt_tmod_of_pos s (show (0 : Int) < 16384 by decide); omega, Int.tmod_lt_of_pos s (by decide)⟩
  have h2 : 0 ≤ g.tmod 4294967295 ∧ g.tmod 4294967295 < 4294967295 := ⟨by rw [Int.tmod_eq_emod_of_nonneg hg0]; omega, Int.tmod_lt_of_pos g (by decide)⟩
  go_enter Tryd.func25, Tryd.ntmps25
  go_wp2
  go_returns
  refine ⟨ret_ie ?_ ?_, rfl⟩
  · unfold vslot; rw [Int.tmod_eq_emod_of_nonneg (a := s.tmod 16384 + 16384) (by omega)]
  · unfold vgen; rw [Int.tmod_eq_emod_of_nonneg hg0]

set_option maxHeartbeats 1000000 in
theorem walkHandleBack (s0 g0 : Int) (_ : (Lit.int .i64 s0).wf = true) (hg : (Lit.int .u64 g0).wf = true) (w : World) (ht : Tab w) :
    Calls Tryd.prog 6 #[.int .i64 s0, .int .u64 g0] w fun e w' => e = .returned (.bool true) ∧ Below w.heap.size w w' := by
  have hg0 : 0 ≤ g0 := (u64_wf hg).1
  have cv := fun W => valid_any s0 g0 hg0 W
  obtain ⟨s1, s2⟩ := vslot_bd s0
  obtain ⟨g1, g2⟩ := vgen_bd g0 hg0
  generalize vslot s0 = s at *
  generalize vgen g0 = g at *
  have ok := makeOk_yes ⟨s1, s2, g1, g2⟩
  obtain ⟨k1, k2, k3, k4, k5⟩ := make_is ok
  have c1 := fun W => make_any s g (by omega) W
  rw [k1] at c1
  obtain ⟨h, hh⟩ : ∃ h, makeH s g = h := ⟨_, rfl⟩
  rw [hh] at c1 k2 k3 k4 k5
  have hb := makeH_bd s g
  rw [hh] at hb
  obtain ⟨b0, b1⟩ := hb
  have c2 := fun W => check_any h b0 b1 W
  have c3 := fun W => slot_any h b0 b1 W
  have c4 := fun W => gen_any h b0 b1 W
  have c5 := fun W hW => text_any h b0 b1 W hW
  have hl : (txtL h).length ≤ 100 := by
    rw [txt_yes k2, k3, k4]
    have := dec_len 10 s.toNat (by omega)
    have := dec_len 10 g.toNat (by omega)
    simp; omega
  have c6 := fun W => parse_any (⟨(txtL h).toArray⟩ : ByteArray) (by unfold maxLen; simp [ByteArray.size]; omega) W
  rw [mk_is, parse_text k2] at c6
  rw [show slotR h = s from by unfold slotR; rw [if_pos k2, k3]] at c3
  rw [show genR h = g from by unfold genR; rw [if_pos k2, k4]] at c4
  rw [k2] at c2 c3 c4 c5
  have hd : (h == g * 65536 + s) = true := by simp [k5]
  generalize txtL h = tx at *
  clear ok k1 k2 k3 k4 k5 hh hg hl hg0
  go_enter Tryd.func6, Tryd.ntmps6
  go_wp2_with fail
  refine (cv _).mono ?_
  rintro e w' ⟨rfl, rfl⟩
  go_wp2_with fail
  refine (c1 _).mono ?_
  rintro e w' ⟨rfl, rfl⟩
  go_wp2_with fail
  refine (c2 _).mono ?_
  rintro e w' ⟨rfl, rfl⟩
  go_wp2_with fail
  refine (c3 _).mono ?_
  rintro e w' ⟨rfl, rfl⟩
  go_wp2_with fail
  refine (c4 _).mono ?_
  rintro e w' ⟨rfl, rfl⟩
  go_wp2_with fail
  refine (c5 _ ht).mono ?_
  rintro e w1 ⟨rfl, hB1⟩
  go_wp2_with fail
  refine (c6 _).mono ?_
  rintro e w2 ⟨rfl, hB2⟩
  have hB3 := hB1.trans (hB2.mono hB1.size)
  go_wp2_with fail
  refine (awake_any _ (ht.on hB3)).mono ?_
  rintro e w4 ⟨rfl, hB4⟩
  go_wp2_with fail
  go_returns
  exact ⟨ret_bool (by simp [*]), hB3.trans (hB4.mono hB3.size)⟩

theorem parse_bd (l : List UInt8) : 0 ≤ (parseP l).1 ∧ (parseP l).1 < 18446744073709551616 := by
  unfold parseP
  split
  · simp
  · split
    · exact makeH_bd _ _
    · simp

theorem parse_codes {l : List UInt8} (h : ¬ (parseP l).2 = 0) : (parseP l).2 = 3 ∨ (parseP l).2 = 4 := by
  unfold parseP makeE at *
  split at h
  · right; simp [*]
  · split at h
    · split at h
      · exact absurd rfl h
      · left; simp [*]
    · right; simp [*]
/-- A valid number is the handle of its parts; another is none, and its parts are told as 0. -/
theorem any_parts (h : Int) : (chkE h = 0 ∧ makeH (slotR h) (genR h) = h ∧ makeE (slotR h) (genR h) = 0) ∨ (chkE h = 2 ∧ slotR h = 0 ∧ genR h = 0 ∧ makeH (slotR h) (genR h) = 0 ∧ makeE (slotR h) (genR h) = 3) := by
  rcases chk_cases h with ⟨hc, _⟩ | hc
  · have e1 : slotR h = slotOf h := by unfold slotR; rw [if_pos hc]
    have e2 : genR h = genOf h := by unfold genR; rw [if_pos hc]
    rw [e1, e2]
    exact .inl ⟨hc, (make_back hc).1, (make_back hc).2⟩
  · have e1 : slotR h = 0 := by unfold slotR; rw [hc]; rfl
    have e2 : genR h = 0 := by unfold genR; rw [hc]; rfl
    rw [e1, e2]
    exact .inr ⟨hc, rfl, rfl, by decide +kernel, by decide +kernel⟩

set_option maxRecDepth 100000 in
set_option maxHeartbeats 1000000 in
theorem walkHandleAny (h : Int) (s : ByteArray) (hh : (Lit.int .u64 h).wf = true) (hs : s.size ≤ maxLen) (_ : s.size ≤ 140737488351232) (w : World) (ht : Tab w) :
    Calls Tryd.prog 7 #[.int .u64 h, .string s] w fun e w' => e = .returned (.bool true) ∧ Below w.heap.size w w' := by
  obtain ⟨h0, h1⟩ := u64_wf hh
  obtain ⟨p0, p1⟩ := parse_bd s.data.toList
  have c1 := fun W => slot_any h h0 h1 W
  have c2 := fun W => gen_any h h0 h1 W
  have c3 := fun W => check_any h h0 h1 W
  have hg : 0 ≤ genR h := by
    unfold genR genOf
    split <;> omega
  have c4 := fun W => make_any (slotR h) (genR h) hg W
  have c5 := fun W => parse_any s hs W
  have c6 := fun W hW => text_any (parseP s.data.toList).1 p0 p1 W hW
  have hw1 := any_parts h
  have hw2 : ((parseP s.data.toList).2 = 0 ∧ chkE (parseP s.data.toList).1 = 0 ∧ txtL (parseP s.data.toList).1 = s.data.toList) ∨ (((parseP s.data.toList).2 = 3 ∨ (parseP s.data.toList).2 = 4) ∧ (parseP s.data.toList).1 = 0) := by
    by_cases e : (parseP s.data.toList).2 = 0
    · exact .inl ⟨e, text_parse e⟩
    · exact .inr ⟨parse_codes e, parse_no e⟩
  generalize (parseP s.data.toList).1 = p at *
  generalize (parseP s.data.toList).2 = x at *
  generalize txtL p = tx at *
  generalize chkE p = y at *
  generalize slotR h = sl at *
  generalize genR h = ge at *
  generalize chkE h = e0 at *
  generalize makeH sl ge = mh at *
  generalize makeE sl ge = me at *
  clear hg p0 p1
  have go : ∀ tx' : ByteArray, tx' = ⟨tx.toArray⟩ → (x = 0 ∧ y = 0 ∧ tx' = s ∨ ((x = 3 ∨ x = 4) ∧ p = 0)) →
      Calls Tryd.prog 7 #[.int .u64 h, .string s] w fun e w' => e = .returned (.bool true) ∧ Below w.heap.size w w' := by
    intro tx' htx hw
    rw [← htx] at c6
    clear htx hw2
    rcases hw1 with ⟨rfl, rfl, rfl⟩ | ⟨rfl, rfl, rfl, rfl, rfl⟩
    all_goals rcases hw with ⟨rfl, rfl, rfl⟩ | ⟨rfl | rfl, rfl⟩
    all_goals
      go_enter Tryd.func7, Tryd.ntmps7
      go_wp2_with fail
      refine (c1 _).mono ?_
      rintro e w' ⟨rfl, rfl⟩
      go_wp2_with fail
      refine (c2 _).mono ?_
      rintro e w' ⟨rfl, rfl⟩
      go_wp2_with fail
      refine (c3 _).mono ?_
      rintro e w' ⟨rfl, rfl⟩
      go_wp2_with fail
      refine (c4 _).mono ?_
      rintro e w' ⟨rfl, rfl⟩
      go_wp2_with fail
      refine (c5 _).mono ?_
      rintro e w1 ⟨rfl, hB1⟩
      go_wp2_with fail
      refine (c6 _ (ht.on hB1)).mono ?_
      rintro e w2 ⟨rfl, hB2⟩
      have hB3 := hB1.trans (hB2.mono hB1.size)
      go_wp2_with fail
      refine (awake_any _ (ht.on hB3)).mono ?_
      rintro e w4 ⟨rfl, hB4⟩
      go_wp2_with fail
      go_returns
      exact ⟨rfl, hB3.trans (hB4.mono hB3.size)⟩
  refine go _ rfl ?_
  rcases hw2 with ⟨a, b, c⟩ | h
  · exact .inl ⟨a, b, by rw [c]⟩
  · exact .inr h

set_option maxRecDepth 100000 in
set_option maxHeartbeats 1000000 in
theorem walkHandleNext (s0 g0 : Int) (_ : (Lit.int .i64 s0).wf = true) (hg : (Lit.int .u64 g0).wf = true) (w : World) (ht : Tab w) :
    Calls Tryd.prog 8 #[.int .i64 s0, .int .u64 g0] w fun e w' => e = .returned (.bool true) ∧ Below w.heap.size w w' := by
  have hg0 : 0 ≤ g0 := (u64_wf hg).1
  have cv := fun W => valid_any s0 g0 hg0 W
  obtain ⟨s1, s2⟩ := vslot_bd s0
  obtain ⟨g1, g2⟩ := vgen_bd g0 hg0
  generalize vslot s0 = s at *
  generalize vgen g0 = g at *
  have ok := makeOk_yes ⟨s1, s2, g1, g2⟩
  obtain ⟨k1, k2, k3, k4, k5⟩ := make_is ok
  have c1 := fun W => make_any s g (by omega) W
  obtain ⟨h, hh⟩ : ∃ h, makeH s g = h := ⟨_, rfl⟩
  rw [hh] at c1 k2 k3 k4 k5
  have hb := makeH_bd s g
  rw [hh] at hb
  obtain ⟨b0, b1⟩ := hb
  have c2 := fun W => next_any h b0 b1 W
  have hn1 : nextH h = makeH s (g + 1) := by unfold nextH; rw [if_pos k2, k3, k4]
  have hn2 : nextE h = makeE s (g + 1) := by unfold nextE; rw [if_pos k2, k3, k4]
  rw [hn1, hn2] at c2
  by_cases hm : g = 4294967295
  · subst hm
    have hno := mk_no (s := s) (g := 4294967295 + 1) (by omega)
    rw [hno.1, hno.2] at c2
    clear hno hn1 hn2 k1 k2 k3 k4 k5 hh ok hg hg0
    go_enter Tryd.func8, Tryd.ntmps8
    go_wp2_with fail
    refine (cv _).mono ?_
    rintro e w' ⟨rfl, rfl⟩
    go_wp2_with fail
    refine (c1 _).mono ?_
    rintro e w' ⟨rfl, rfl⟩
    go_wp2_with fail
    refine (c2 _).mono ?_
    rintro e w' ⟨rfl, rfl⟩
    go_wp2_with fail
    refine (awake_any _ ht).mono ?_
    rintro e w4 ⟨rfl, hB4⟩
    go_wp2_with fail
    go_returns
    exact ⟨ret_bool (by simp), hB4⟩
  · have ok2 := makeOk_yes (s := s) (g := g + 1) ⟨s1, s2, by omega, by omega⟩
    obtain ⟨m1, m2, m3, m4, m5⟩ := make_is ok2
    have hb2 := makeH_bd s (g + 1)
    obtain ⟨n, hn⟩ : ∃ n, makeH s (g + 1) = n := ⟨_, rfl⟩
    rw [hn] at c2 m2 m3 m4 m5 hb2
    rw [m1] at c2
    have c3 := fun W => slot_any n hb2.1 hb2.2 W
    have c4 := fun W => gen_any n hb2.1 hb2.2 W
    rw [show slotR n = s from by unfold slotR; rw [if_pos m2, m3], m2] at c3
    rw [show genR n = g + 1 from by unfold genR; rw [if_pos m2, m4], m2] at c4
    have hd : decide (g = 4294967295) = false := by simpa using hm
    have hlt : h < n := by omega
    clear hn1 hn2 k1 k2 k3 k4 k5 hh ok hg hg0 m1 m2 m3 m4 m5 hn ok2 hb2
    go_enter Tryd.func8, Tryd.ntmps8
    go_wp2_with fail
    refine (cv _).mono ?_
    rintro e w' ⟨rfl, rfl⟩
    go_wp2_with fail
    refine (c1 _).mono ?_
    rintro e w' ⟨rfl, rfl⟩
    go_wp2_with fail
    refine (c2 _).mono ?_
    rintro e w' ⟨rfl, rfl⟩
    go_wp2_with fail
    refine (c3 _).mono ?_
    rintro e w' ⟨rfl, rfl⟩
    go_wp2_with fail
    refine (c4 _).mono ?_
    rintro e w' ⟨rfl, rfl⟩
    go_wp2_with fail
    refine (awake_any _ ht).mono ?_
    rintro e w4 ⟨rfl, hB4⟩
    go_wp2_with fail
    go_returns
    exact ⟨ret_bool (by simp [*]), hB4⟩
end Go.Proofs.YtipljlejhdggnaaDoor
