/- ModelCloses: the law returns true for every input, and leaves its arguments as they were. -/
import Derived.Test.YtlealeecmmpckaaGreatBun
import Derived.Test.YtlealeecmmpckaaGreatBua
import Derived.Carry
namespace Go.Proofs.YtlealeecmmpckaaGreat
set_option linter.unusedVariables false
set_option linter.unusedSimpArgs false
open Go.RowKit Go.Lib Go.Shelf
attribute [local go_sem, local simp] resF resL_len resL_ne

theorem ptr_own {W : World} {B : Nat} {v : Value} {L : List Nat} (h : W.ownsRow B 3 1 v L.length (L.map natV)) : ∃ a c, v = .slice a L.length c ∧ ∀ (j x : Nat), L[j]? = some x → ∃ g, a = some ⟨g, 0, none⟩ ∧ W.cell? ⟨g, j, none⟩ = some (.int .i64 (x : Int)) := by
  rcases h.2 with ⟨e1, e2⟩ | ⟨g, cap, cur, e1, _⟩
  · refine ⟨none, 0, by rw [e1, e2], fun j x hj => ?_⟩
    have := (List.getElem?_eq_some_iff.1 hj).1
    omega
  · subst e1
    refine ⟨_, _, rfl, fun j x hj => ⟨g, rfl, ?_⟩⟩
    have hj' : j < L.length := (List.getElem?_eq_some_iff.1 hj).1
    have := h.cellAt j (by omega)
    rw [this, List.getElem?_map, hj]; rfl
theorem ptr_some {W : World} {B c : Nat} {a : Option Addr} {L : List Nat} (h : W.ownsRow B 3 1 (.slice a L.length c) L.length (L.map natV)) : L = [] ∨ ∃ g, a = some ⟨g, 0, none⟩ := by
  rcases h.2 with ⟨_, e2⟩ | ⟨g, cap, cur, e1, _⟩
  · exact .inl (List.length_eq_zero_iff.1 e2)
  · injection e1 with e1; exact .inr ⟨g, e1⟩
theorem ptr_cell {W : World} {B g c j x : Nat} {L : List Nat} (h : W.ownsRow B 3 1 (.slice (some ⟨g, 0, none⟩) L.length c) L.length (L.map natV)) (hj : L[j]? = some x) : W.cell? ⟨g, j, none⟩ = some (.int .i64 (x : Int)) := by
  have hj' : j < L.length := (List.getElem?_eq_some_iff.1 hj).1
  have := h.cellAt j (by omega)
  rw [this, List.getElem?_map, hj]; rfl
set_option maxRecDepth 100000 in
set_option maxHeartbeats 2000000 in
theorem closes_long (c : CfgV) (p : Option Addr) (cp : Nat) (l : List ActV) (cl : Int) (p2 : Option Addr) (cp2 : Nat) (k : List ActV) (w : World) (hlong : 2000 < c.text.size ∨ 60 < l.length ∨ 60 < k.length) :
    Calls Tryz.prog 10 #[c.v, .slice p l.length cp, .int .i64 cl, .slice p2 k.length cp2] w fun e w' => e = .returned (.bool true) ∧ Below w.heap.size w w' := by
  have hB0 := (Below.refl w.heap.size w).alloc (Nat.le_refl _) (.cells #[.int .i64 c.slots, .int .u64 c.gens, .int .i64 c.clients, .int .i64 c.readers, .int .i64 c.queue, .int .i64 c.batch, .int .i64 c.feed, .string c.text] 24)
  have hlo := fun W => long_any c l.length W
  by_cases h1 : 2000 < c.text.size ∨ 60 < l.length
  · have e1 : (decide (2000 < c.text.size) || decide (60 < l.length)) = true := by simpa using h1
    rw [e1] at hlo
    unfold CfgV.v at *
    go_enter Tryz.func10, Tryz.ntmps10
    go_wp2_with (first | (go_at_call 12; refine (hlo _).mono ?_; rintro e w1 ⟨rfl, hb1⟩; have hB1 := hB0.trans (hb1.mono hB0.size)) | (go_at_call 13; refine (known_any _).mono ?_; rintro e w2 ⟨rfl, hb2⟩; have hB2 := hB1.trans (hb2.mono hB1.size)))
    go_returns
    exact ⟨rfl, hB2⟩
  · have e1 : (decide (2000 < c.text.size) || decide (60 < l.length)) = false := by simp; omega
    have d2 : decide (60 < (k.length : Int)) = true := by simp; omega
    have d3 : decide (60 < k.length) = true := by simp; omega
    rw [e1] at hlo
    unfold CfgV.v at *
    go_enter Tryz.func10, Tryz.ntmps10
    go_wp2_with (first | (go_at_call 12; refine (hlo _).mono ?_; rintro e w1 ⟨rfl, hb1⟩; have hB1 := hB0.trans (hb1.mono hB0.size)) | (go_at_call 13; refine (known_any _).mono ?_; rintro e w2 ⟨rfl, hb2⟩; have hB2 := hB1.trans (hb2.mono hB1.size)))
    go_returns
    exact ⟨rfl, hB2⟩
/-- The start that all the others share. -/
theorem closes_none (c : CfgV) (p : Option Addr) (cp : Nat) (l : List ActV) (cl : Int) (p2 : Option Addr) (cp2 : Nat) (k : List ActV) (w : World) (h1 : c.text.size ≤ 2000) (h2 : l.length ≤ 60) (h3 : k.length ≤ 60) (hA : ArgActs w p l) (hc : cfgE c ≠ 0) :
    Calls Tryz.prog 10 #[c.v, .slice p l.length cp, .int .i64 cl, .slice p2 k.length cp2] w fun e w' => e = .returned (.bool true) ∧ Below w.heap.size w w' := by
  have hB0 := (Below.refl w.heap.size w).alloc (Nat.le_refl _) (.cells #[.int .i64 c.slots, .int .u64 c.gens, .int .i64 c.clients, .int .i64 c.readers, .int .i64 c.queue, .int .i64 c.batch, .int .i64 c.feed, .string c.text] 24)
  have hlo := fun W => long_any c l.length W
  have hpl := fun W => play_nil c p l.length cp W hc
  have e1 : (decide (2000 < c.text.size) || decide (60 < l.length)) = false := by simp; omega
  have d2 : decide (60 < (k.length : Int)) = false := by simp; omega
  have d3 : decide (60 < k.length) = false := by simp; omega
  have hz0 := heap_alloc_new w (.cells #[.int .i64 c.slots, .int .u64 c.gens, .int .i64 c.clients, .int .i64 c.readers, .int .i64 c.queue, .int .i64 c.batch, .int .i64 c.feed, .string c.text] 24)
  rw [e1] at hlo
  unfold CfgV.v at *
  go_enter Tryz.func10, Tryz.ntmps10
  go_wp2_with (first | (go_at_call 12; refine (hlo _).mono ?_; rintro e w1 ⟨rfl, hb1⟩; have hB1 := hB0.trans (hb1.mono hB0.size); have hz1 := (hb1.block _ (by simp)).trans hz0; obtain ⟨z0, z1, z2, z3, z4, z5, z6, z7⟩ := blk8 hz1) | (go_at_call 14; refine (hpl _).mono ?_; rintro e w2 ⟨rfl, hb2⟩; have hB2 := hB1.trans (hb2.mono hB1.size)) | (go_at_call 13; refine (known_any _).mono ?_; rintro e w3 ⟨rfl, hb3⟩; have hB3 := hB2.trans (hb3.mono hB2.size)))
  go_returns
  exact ⟨rfl, hB3⟩
end Go.Proofs.YtlealeecmmpckaaGreat
namespace Go.Proofs.YtlealeecmmpckaaGreat
set_option linter.unusedVariables false
set_option linter.unusedSimpArgs false
open Go.RowKit Go.Lib Go.Shelf
attribute [local go_sem, local simp] resF resL_len resL_ne
attribute [local go_sem] fldErr

theorem hiC : OpIn opClose := ki9
theorem hiLen {x : Nat} (h : x ≤ 1000) : OpIn (opLen x) := ⟨by show (0:Int) ≤ 6; omega, by show (6:Int) ≤ 255; omega, by show (0:Int) ≤ 0; omega, by show (0:Int) ≤ 4294967295; omega, by show (0:Int) ≤ 0; omega, ⟨by show -9223372036854775808 ≤ (x : Int); omega, by show (x : Int) ≤ 9223372036854775807; omega⟩, ⟨by show (-9223372036854775808:Int) ≤ 0; omega, by show (0:Int) ≤ 9223372036854775807; omega⟩, ⟨by show (-9223372036854775808:Int) ≤ 0; omega, by show (0:Int) ≤ 9223372036854775807; omega⟩⟩
theorem hiRel {x : Nat} (h : x ≤ 1000) : OpIn (opRel x) := ⟨by show (0:Int) ≤ 13; omega, by show (13:Int) ≤ 255; omega, by show (0:Int) ≤ 0; omega, by show (0:Int) ≤ 4294967295; omega, by show (0:Int) ≤ 0; omega, ⟨by show -9223372036854775808 ≤ (x : Int); omega, by show (x : Int) ≤ 9223372036854775807; omega⟩, ⟨by show (-9223372036854775808:Int) ≤ 0; omega, by show (0:Int) ≤ 9223372036854775807; omega⟩, ⟨by show (-9223372036854775808:Int) ≤ 0; omega, by show (0:Int) ≤ 9223372036854775807; omega⟩⟩
theorem heldS_small {st : MS} {K : Int} {c : Int} (h : MSok st K) : (∀ x ∈ heldS st c, x < 8) ∧ (heldS st c).length ≤ 8 := by
  unfold heldS
  split
  · exact ⟨fun x hx => (by cases hx), by decide⟩
  · rename_i hc
    have h1 := (h.slots _ (MS.seat_mem (st := st) (c := c.toNat) (by omega))).1
    have h2 := h.readers
    unfold heldL
    refine ⟨fun x hx => ?_, Nat.le_trans (List.length_filter_le _ _) (by rw [List.length_range]; omega)⟩
    have := (List.mem_filter.1 hx).1
    rw [List.mem_range] at this
    omega
set_option maxRecDepth 100000 in
set_option maxHeartbeats 4000000 in
theorem closes_open (c : CfgV) (p : Option Addr) (cp : Nat) (l : List ActV) (cl : Int) (p2 : Option Addr) (cp2 : Nat) (k : List ActV) (w : World) (h1 : c.text.size ≤ 2000) (h2 : l.length ≤ 60) (h3 : k.length ≤ 60) (hA : ArgActs w p l) (hA2 : ArgActs w p2 k) (hc : cfgE c = 0) (R : ResV × MS) (hRe : doS (runS (newS c) l) cl opClose = R) (hcl : R.2.closed = false) :
    Calls Tryz.prog 10 #[c.v, .slice p l.length cp, .int .i64 cl, .slice p2 k.length cp2] w fun e w' => e = .returned (.bool true) ∧ Below w.heap.size w w' := by
  have hB0 := (Below.refl w.heap.size w).alloc (Nat.le_refl _) (.cells #[.int .i64 c.slots, .int .u64 c.gens, .int .i64 c.clients, .int .i64 c.readers, .int .i64 c.queue, .int .i64 c.batch, .int .i64 c.feed, .string c.text] 24)
  have hlo := fun W => long_any c l.length W
  have hpl := fun W (hW : Below w.heap.size w W) => play_some c p cp l W hc (hA.on hW) (by omega)
  have e1 : (decide (2000 < c.text.size) || decide (60 < l.length)) = false := by simp; omega
  have d2 : decide (60 < (k.length : Int)) = false := by simp; omega
  have d3 : decide (60 < k.length) = false := by simp; omega
  have hz0 := heap_alloc_new w (.cells #[.int .i64 c.slots, .int .u64 c.gens, .int .i64 c.clients, .int .i64 c.readers, .int .i64 c.queue, .int .i64 c.batch, .int .i64 c.feed, .string c.text] 24)
  rw [e1] at hlo
  have he : (R.1.err == 0) = false := by
    have := do_close (st := runS (newS c) l) (c := cl) (by rw [hRe]; exact hcl)
    rw [hRe] at this; simpa using this
  obtain ⟨E, hEe⟩ : ∃ E, R.1.err = E := ⟨_, rfl⟩
  rw [hEe] at he
  have hen : (E != 0) = true := by simpa using he
  unfold CfgV.v at *
  go_enter Tryz.func10, Tryz.ntmps10
  go_wp2_with (first | (go_at_call 12; refine (hlo _).mono ?_; rintro e w1 ⟨rfl, hb1⟩; have hB1 := hB0.trans (hb1.mono hB0.size); have hz1 := (hb1.block _ (by simp)).trans hz0; obtain ⟨z0, z1, z2, z3, z4, z5, z6, z7⟩ := blk8 hz1) | (go_at_call 14; refine (hpl _ hB1).mono ?_; rintro e w2 ⟨b, M1, rfl, hP1, hst1⟩; have hR1 : Run w w2 b M1 := ⟨hP1.at_, fun k hk => Nat.le_trans hB1.size (hP1.own k hk), hB1.trans (hP1.bl.mono hB1.size)⟩; have hok1 : MSok M1.st 60 := (by rw [hst1]; exact (runS_ok (newS_ok hc) hA.ok).mono (by omega))) | (go_at_call 16; refine (do_k (c := cl) (q := opClose) hR1 hst1 hok1 (by omega) hiC hRe).mono ?_; rintro e v2 ⟨M2, rfl, hQ2, hst2, hk2, hok2⟩; obtain ⟨V2, hs2, hg2, hb2⟩ := rnew_pkg v2 R.1; have hR2 := hQ2.on hb2; have r0 := (blk13 hg2).1; rw [hEe] at r0; have hCL : M2.closed = R.2.closed := congrArg MS.closed hst2; rw [hcl] at hCL) | (go_at_call 30; refine (closed_any b M2 _ hR2.at_).mono ?_; rw [hCL]; rintro e z1 ⟨rfl, rfl⟩) | (go_at_call 13; refine (known_any _).mono ?_; rintro e z9 ⟨rfl, hz9⟩))
  all_goals first | exact absurd he (by decide) | (go_returns; exact ⟨rfl, hR2.bl.trans (hz9.mono hR2.bl.size)⟩)
set_option maxRecDepth 100000 in
set_option maxHeartbeats 4000000 in
theorem closes_main (c : CfgV) (p : Option Addr) (cp : Nat) (l : List ActV) (cl : Int) (p2 : Option Addr) (cp2 : Nat) (k : List ActV) (w : World) (h1 : c.text.size ≤ 2000) (h2 : l.length ≤ 60) (h3 : k.length ≤ 60) (hA : ArgActs w p l) (hA2 : ArgActs w p2 k) (hc : cfgE c = 0) (R : ResV × MS) (hRe : doS (runS (newS c) l) cl opClose = R) (hcl : R.2.closed = true) :
    Calls Tryz.prog 10 #[c.v, .slice p l.length cp, .int .i64 cl, .slice p2 k.length cp2] w fun e w' => e = .returned (.bool true) ∧ Below w.heap.size w w' := by
  have hB0 := (Below.refl w.heap.size w).alloc (Nat.le_refl _) (.cells #[.int .i64 c.slots, .int .u64 c.gens, .int .i64 c.clients, .int .i64 c.readers, .int .i64 c.queue, .int .i64 c.batch, .int .i64 c.feed, .string c.text] 24)
  have hlo := fun W => long_any c l.length W
  have hpl := fun W (hW : Below w.heap.size w W) => play_some c p cp l W hc (hA.on hW) (by omega)
  have e1 : (decide (2000 < c.text.size) || decide (60 < l.length)) = false := by simp; omega
  have d2 : decide (60 < (k.length : Int)) = false := by simp; omega
  have d3 : decide (60 < k.length) = false := by simp; omega
  have hz0 := heap_alloc_new w (.cells #[.int .i64 c.slots, .int .u64 c.gens, .int .i64 c.clients, .int .i64 c.readers, .int .i64 c.queue, .int .i64 c.batch, .int .i64 c.feed, .string c.text] 24)
  rw [e1] at hlo
  unfold CfgV.v at *
  go_enter Tryz.func10, Tryz.ntmps10
  go_wp2_with (first | (go_at_call 12; refine (hlo _).mono ?_; rintro e w1 ⟨rfl, hb1⟩; have hB1 := hB0.trans (hb1.mono hB0.size); have hz1 := (hb1.block _ (by simp)).trans hz0; obtain ⟨z0, z1, z2, z3, z4, z5, z6, z7⟩ := blk8 hz1) | (go_at_call 14; refine (hpl _ hB1).mono ?_; rintro e w2 ⟨b, M1, rfl, hP1, hst1⟩; have hR1 : Run w w2 b M1 := ⟨hP1.at_, fun k hk => Nat.le_trans hB1.size (hP1.own k hk), hB1.trans (hP1.bl.mono hB1.size)⟩; have hok1 : MSok M1.st 60 := (by rw [hst1]; exact (runS_ok (newS_ok hc) hA.ok).mono (by omega))) | (go_at_call 16; refine (do_k (c := cl) (q := opClose) hR1 hst1 hok1 (by omega) hiC hRe).mono ?_; rintro e v2 ⟨M2, rfl, hQ2, hst2, hk2, hok2⟩; obtain ⟨V2, hs2, hg2, hb2⟩ := rnew_pkg v2 R.1; have hR2 := hQ2.on hb2; have r0 := (blk13 hg2).1; have hCL : M2.closed = R.2.closed := congrArg MS.closed hst2; rw [hcl] at hCL) | (go_at_call 30; refine (closed_any b M2 _ hR2.at_).mono ?_; rw [hCL]; rintro e z1 ⟨rfl, rfl⟩) | (go_at_call 27; refine (text_any b M2 _ hR2.at_).mono ?_; rintro e z2 ⟨rfl, rfl⟩) | (go_at_call 28; refine (number_any b M2 _ hR2.at_).mono ?_; rintro e z3 ⟨rfl, rfl⟩) | (go_at_call 31; refine (marks_any b M2 _ hR2.at_ (by have := (MM.fits hok2).2.2; omega)).mono ?_; rintro e w3 ⟨um, rfl, hum, hbm⟩; obtain ⟨am, cm, rfl⟩ := own_slice hum; have hR3 := hR2.on hbm))
  have hum0 := own_mono (Nat.zero_le _) hum
  have hok3 : MSok M2.st 100 := hok2.mono (by omega)
  have hc2 : M2.st.closed = true := hCL
  clear hlo hpl e1 hz0 hB0 hum hR2 hok2 hR1 hok1 hbm hb2 hg2 hs2 hk2 hQ2 hP1 r0 hz1 z0 z1 z2 z3 z4 z5 z6 z7
  go_loopw [14, 15, 53, 54, 55, 56, 57, 58, 59, 60, 61, 62, 63, 64, 65, 66, 67, 68, 69, 70, 71, 72, 73, 74, 75, 76, 77, 78, 79, 80, 81, 82, 83, 84, 85, 86, 87, 88, 89, 90, 91, 92, 93, 94, 95, 96] (fun i x15 x53 x54 x55 x56 x57 x58 x59 x60 x61 x62 x63 x64 x65 x66 x67 x68 x69 x70 x71 x72 x73 x74 x75 x76 x77 x78 x79 x80 x81 x82 x83 x84 x85 x86 x87 x88 x89 x90 x91 x92 x93 x94 x95 x96 wr => ∃ (j : Nat) (M' : MM), i = .int .i64 j ∧ j ≤ k.length ∧ Run w wr b M' ∧ SameT M'.st M2.st ∧ MSok M'.st (100 + j) ∧ MOwn wr 0 (.slice am M2.marks.length cm) M2.marks) (fun i x15 x53 x54 x55 x56 x57 x58 x59 x60 x61 x62 x63 x64 x65 x66 x67 x68 x69 x70 x71 x72 x73 x74 x75 x76 x77 x78 x79 x80 x81 x82 x83 x84 x85 x86 x87 x88 x89 x90 x91 x92 x93 x94 x95 x96 wr => k.length - (intOf i).toNat)
  case atStart => exact ⟨0, M2, rfl, by omega, hR3, .refl _, hok3, hum0⟩
  case round =>
    clear hR3 hum0 hok3
    obtain ⟨j, M3, rfl, hj, hR, hsam, hok, hum⟩ := hrel
    have hlen9 := hok.clients
    by_cases hlt : j < k.length
    · have hx := List.getElem?_eq_getElem hlt
      generalize k[j] = a at hx
      obtain ⟨bl, off, rfl, hl63, hcl8⟩ := hA2.get hx
      have hcl3 : M3.st.closed = true := hsam.closed.trans hc2
      obtain ⟨hs5, he5⟩ := do_closed (c := a.client) (q := a.q) hcl3
      have hx0 : Below wr.heap.size wr wr.drew := (Below.refl _ _).drew
      have hRd := hR.on hx0
      have humd := own_below6 hum hx0
      have Hdo := Lib.hid (fun W (hW : Run w W b M3) => do_run b a.client M3 a.q w W _ hW hok (by omega) (hA2.ok a (List.mem_of_getElem? hx)))
      obtain ⟨R5, hR5⟩ : ∃ R5, doS M3.st a.client a.q = R5 := ⟨_, rfl⟩
      rw [hR5] at Hdo hs5 he5
      obtain ⟨x, d1⟩ : ∃ x, decide (a.q.kind ≤ 5) = x := ⟨_, rfl⟩
      obtain ⟨y, d14⟩ : ∃ y, decide (14 ≤ a.q.kind) = y := ⟨_, rfl⟩
      obtain ⟨E5, hE5⟩ : ∃ E, R5.1.err = E := ⟨_, rfl⟩
      rw [hE5] at he5
      have hE : x = true ∨ y = true → (E5 == 0) = false := fun h => by
        have hk : a.q.kind ≤ 5 ∨ 14 ≤ a.q.kind := by
          rcases h with h | h
          · subst h; exact .inl (of_decide_eq_true d1)
          · subst h; exact .inr (of_decide_eq_true d14)
        simpa using he5 hk
      have Kx := Lib.hid hcl8
      clear hcl8 he5
      have hbw := hR.bl
      have hbw0 := hRd.bl
      have HE := Lib.hid hE
      clear hE
      go_wp2
      refine wp_region_noPanic ?_
      refine wp_region_held_drew (S := fun W => W.cell? ⟨bl, off + j * 8, none⟩ = some (.int .i64 a.client) ∧ W.cell? ⟨bl, off + j * 8 + 1, none⟩ = some (.int .u8 a.q.kind) ∧ W.cell? ⟨bl, off + j * 8 + 2, none⟩ = some (.int .i64 a.q.slot) ∧ W.cell? ⟨bl, off + j * 8 + 3, none⟩ = some (.int .i64 a.q.at_) ∧ W.cell? ⟨bl, off + j * 8 + 4, none⟩ = some (.int .i64 a.q.n) ∧ W.cell? ⟨bl, off + j * 8 + 5, none⟩ = some (.int .u32 a.q.id) ∧ W.cell? ⟨bl, off + j * 8 + 6, none⟩ = some (.int .u8 a.q.grav) ∧ W.cell? ⟨bl, off + j * 8 + 7, none⟩ = some (.string a.q.text)) (by kernel_rfl) ?_ (fun hHeld => ?_)
      · first | exact Kx.out _ hR4.bl | exact Kx.out _ (hQ.bl.alloc hQ.bl.size _) | exact Kx.out _ hQ.bl | exact Kx.out _ hRa.bl | exact Kx.out _ hbw | exact Kx.out _ hbw0
      refine np_take (i := 0) (v := ?_) rfl (by kernel_rfl) (by kernel_rfl) (by kernel_rfl) (by rfl) ?_ (by assumption) ?_; rotate_left 1; (· (intro w hSw; (try dsimp only at hSw); go_simp; all_goals with_reducible rfl)); (try simp only [Act.put, List.setIfInBounds_toArray, List.set_cons_zero, List.set_cons_succ])
      refine np_take (i := 1) (v := ?_) rfl (by kernel_rfl) (by kernel_rfl) (by kernel_rfl) (by rfl) ?_ (by assumption) ?_; rotate_left 1; (· (intro w hSw; (try dsimp only at hSw); go_simp; all_goals with_reducible rfl)); (try simp only [Act.put, List.setIfInBounds_toArray, List.set_cons_zero, List.set_cons_succ])
      refine np_take (i := 2) (v := ?_) rfl (by kernel_rfl) (by kernel_rfl) (by kernel_rfl) (by rfl) ?_ (by assumption) ?_; rotate_left 1; (· (intro w hSw; (try dsimp only at hSw); go_simp; all_goals with_reducible rfl)); (try simp only [Act.put, List.setIfInBounds_toArray, List.set_cons_zero, List.set_cons_succ])
      refine np_take (i := 3) (v := ?_) rfl (by kernel_rfl) (by kernel_rfl) (by kernel_rfl) (by rfl) ?_ (by assumption) ?_; rotate_left 1; (· (intro w hSw; (try dsimp only at hSw); go_simp; all_goals with_reducible rfl)); (try simp only [Act.put, List.setIfInBounds_toArray, List.set_cons_zero, List.set_cons_succ])
      refine np_take (i := 4) (v := ?_) rfl (by kernel_rfl) (by kernel_rfl) (by kernel_rfl) (by rfl) ?_ (by assumption) ?_; rotate_left 1; (· (intro w hSw; (try dsimp only at hSw); go_simp; all_goals with_reducible rfl)); (try simp only [Act.put, List.setIfInBounds_toArray, List.set_cons_zero, List.set_cons_succ])
      refine np_take (i := 5) (v := ?_) rfl (by kernel_rfl) (by kernel_rfl) (by kernel_rfl) (by rfl) ?_ (by assumption) ?_; rotate_left 1; (· (intro w hSw; (try dsimp only at hSw); go_simp; all_goals with_reducible rfl)); (try simp only [Act.put, List.setIfInBounds_toArray, List.set_cons_zero, List.set_cons_succ])
      refine np_take (i := 6) (v := ?_) rfl (by kernel_rfl) (by kernel_rfl) (by kernel_rfl) (by rfl) ?_ (by assumption) ?_; rotate_left 1; (· (intro w hSw; (try dsimp only at hSw); go_simp; all_goals with_reducible rfl)); (try simp only [Act.put, List.setIfInBounds_toArray, List.set_cons_zero, List.set_cons_succ])
      refine np_take (i := 7) (v := ?_) rfl (by kernel_rfl) (by kernel_rfl) (by kernel_rfl) (by rfl) ?_ (by assumption) ?_; rotate_left 1; (· (intro w hSw; (try dsimp only at hSw); go_simp; all_goals with_reducible rfl)); (try simp only [Act.put, List.setIfInBounds_toArray, List.set_cons_zero, List.set_cons_succ])
      refine np_take (i := 8) (v := ?_) rfl (by kernel_rfl) (by kernel_rfl) (by kernel_rfl) (by rfl) ?_ (by assumption) ?_; rotate_left 1; (· (intro w hSw; (try dsimp only at hSw); go_simp; all_goals with_reducible rfl)); (try simp only [Act.put, List.setIfInBounds_toArray, List.set_cons_zero, List.set_cons_succ])
      refine np_take (i := 9) (v := ?_) rfl (by kernel_rfl) (by kernel_rfl) (by kernel_rfl) (by rfl) ?_ (by assumption) ?_; rotate_left 1; (· (intro w hSw; (try dsimp only at hSw); go_simp; all_goals with_reducible rfl)); (try simp only [Act.put, List.setIfInBounds_toArray, List.set_cons_zero, List.set_cons_succ])
      refine np_take (i := 10) (v := ?_) rfl (by kernel_rfl) (by kernel_rfl) (by kernel_rfl) (by rfl) ?_ (by assumption) ?_; rotate_left 1; (· (intro w hSw; (try dsimp only at hSw); go_simp; all_goals with_reducible rfl)); (try simp only [Act.put, List.setIfInBounds_toArray, List.set_cons_zero, List.set_cons_succ])
      refine wpAnyH_ready (rs := [11, 12]) (by kernel_rfl) (by simp) (AllReadyH.cons rfl (fun K hK => ?_) (AllReadyH.cons rfl (fun K hK => ?_) AllReadyH.nil))
      · rw [if_pos (by rfl)]; go_simp; ((go_at_call 16; refine (Hdo.out _ hRd).mono ?_; rintro e v ⟨M4, rfl, hQ, hst4, hk4, hok4⟩; obtain ⟨V4, hs4, hg4, hb4⟩ := rnew_pkg v R5.1; have hR4 := hQ.on hb4; have hum4 := own_below6 (hRd.at_.keepOwn hk4 humd (by decide) (by decide) (by decide)) hb4)); (try go_wp2_with fail); refine hK.out _ _ ?_ (fun hHeld => ?_); (· (first | exact Kx.out _ hR4.bl | exact Kx.out _ (hQ.bl.alloc hQ.bl.size _) | exact Kx.out _ hQ.bl | exact Kx.out _ hRa.bl | exact Kx.out _ hbw | exact Kx.out _ hbw0)); clear hK K; (try simp only [Act.put, List.setIfInBounds_toArray, List.set_cons_zero, List.set_cons_succ])
        refine np_step (i := 12) rfl (by kernel_rfl) (fun K hK => ?_); rw [if_pos (by rfl)]; go_simp; (skip); (try go_wp2_with fail); refine hK.out _ _ ?_ (fun hHeld => ?_); (· (first | exact Kx.out _ hR4.bl | exact Kx.out _ (hQ.bl.alloc hQ.bl.size _) | exact Kx.out _ hQ.bl | exact Kx.out _ hRa.bl | exact Kx.out _ hbw | exact Kx.out _ hbw0)); clear hK K; (try simp only [Act.put, List.setIfInBounds_toArray, List.set_cons_zero, List.set_cons_succ])
        refine np_step (i := 13) rfl (by kernel_rfl) (fun K hK => ?_); rw [if_pos (by rfl)]; go_simp; (skip); (try go_wp2_with fail); refine hK.out _ _ ?_ (fun hHeld => ?_); (· (first | exact Kx.out _ hR4.bl | exact Kx.out _ (hQ.bl.alloc hQ.bl.size _) | exact Kx.out _ hQ.bl | exact Kx.out _ hRa.bl | exact Kx.out _ hbw | exact Kx.out _ hbw0)); clear hK K; (try simp only [Act.put, List.setIfInBounds_toArray, List.set_cons_zero, List.set_cons_succ])
        refine wpAnyH_done (by kernel_rfl) ?_ _
        refine NoPanic.normal ?_
        have hlf : SameT M4.st M2.st := by rw [hst4]; exact hs5.trans hsam
        obtain ⟨q0, q1, q2, q3, q4, q5, q6, q7⟩ := Kx.out _ hR4.bl
        have r0 := (blk13 hg4).1
        rw [hE5] at r0
        clear Kx Hdo hs4 hg4
        cases x <;> cases y <;> (try (have hE2 := HE.out (by first | exact .inl rfl | exact .inr rfl))) <;> (go_wp2; go_roundw)
        all_goals first | exact ⟨j + 1, M4, by go_num, by omega, hR4, hlf, hok4.mono (by omega), hum4⟩ | (simp [intOf]; omega)
      · rw [if_pos (by rfl)]; go_simp; (have hRa := hRd.on ((Below.refl _ _).alloc (Nat.le_refl _) (.cells (resL {}).toArray 36)); have hga : (wr.drew.alloc (.cells (resL {}).toArray 36)).heap[wr.heap.size]? = some (.cells (resL {}).toArray 36 (0, 0)) := heap_alloc_new wr.drew (.cells (resL {}).toArray 36); have huma := own_below6 humd ((Below.refl _ _).alloc (Nat.le_refl _) (.cells (resL {}).toArray 36))); refine hK.out _ _ ?_ (fun hHeld => ?_); (· (first | exact Kx.out _ hR4.bl | exact Kx.out _ (hQ.bl.alloc hQ.bl.size _) | exact Kx.out _ hQ.bl | exact Kx.out _ hRa.bl | exact Kx.out _ hbw | exact Kx.out _ hbw0)); clear hK K; (try simp only [Act.put, List.setIfInBounds_toArray, List.set_cons_zero, List.set_cons_succ])
        refine np_step (i := 11) rfl (by kernel_rfl) (fun K hK => ?_); rw [if_pos (by rfl)]; go_simp; ((go_at_call 16; refine (Hdo.out _ hRa).mono ?_; rintro e v ⟨M4, rfl, hQ, hst4, hk4, hok4⟩; have hgb := hRa.at_.keep hk4 hga (by decide) (by decide) (by decide); obtain ⟨V4, hs4, hg4, hV4, hW4⟩ := rput_pkg hgb rfl R5.1; have hR4 := hW4 hQ hRd.bl.size; have hum4 := own_keep (hRa.at_.keepOwn hk4 huma (by decide) (by decide) (by decide)) hgb (by decide) (fun k _ hk => hV4 k hk))); (try go_wp2_with fail); refine hK.out _ _ ?_ (fun hHeld => ?_); (· (first | exact Kx.out _ hR4.bl | exact Kx.out _ (hQ.bl.alloc hQ.bl.size _) | exact Kx.out _ hQ.bl | exact Kx.out _ hRa.bl | exact Kx.out _ hbw | exact Kx.out _ hbw0)); clear hK K; (try simp only [Act.put, List.setIfInBounds_toArray, List.set_cons_zero, List.set_cons_succ])
        refine np_step (i := 13) rfl (by kernel_rfl) (fun K hK => ?_); rw [if_pos (by rfl)]; go_simp; (skip); (try go_wp2_with fail); refine hK.out _ _ ?_ (fun hHeld => ?_); (· (first | exact Kx.out _ hR4.bl | exact Kx.out _ (hQ.bl.alloc hQ.bl.size _) | exact Kx.out _ hQ.bl | exact Kx.out _ hRa.bl | exact Kx.out _ hbw | exact Kx.out _ hbw0)); clear hK K; (try simp only [Act.put, List.setIfInBounds_toArray, List.set_cons_zero, List.set_cons_succ])
        refine wpAnyH_done (by kernel_rfl) ?_ _
        refine NoPanic.normal ?_
        have hlf : SameT M4.st M2.st := by rw [hst4]; exact hs5.trans hsam
        obtain ⟨q0, q1, q2, q3, q4, q5, q6, q7⟩ := Kx.out _ hR4.bl
        have r0 := (blk13 hg4).1
        rw [hE5] at r0
        clear Kx Hdo hs4 hg4
        cases x <;> cases y <;> (try (have hE2 := HE.out (by first | exact .inl rfl | exact .inr rfl))) <;> (go_wp2; go_roundw)
        all_goals first | exact ⟨j + 1, M4, by go_num, by omega, hR4, hlf, hok4.mono (by omega), hum4⟩ | (simp [intOf]; omega)
    · have hME : M3.marks = M2.marks := hsam.marks
      have hTE : M3.text = M2.text := hsam.text
      have hNE : M3.number = M2.number := hsam.number
      have hCE : M3.closed = true := hsam.closed.trans hc2
      have hml : M2.marks.length ≤ 1000 := by have := (MM.fits hok).2.2; rw [hME] at this; omega
      have hmk := fun W => marks_any b M3 W
      rw [hME] at hmk
      have Hmk := Lib.hid hmk
      clear hmk
      go_wp2_with (first | (go_at_call 30; refine (closed_any b M3 _ hR.at_).mono ?_; rw [hCE]; rintro e z1 ⟨rfl, rfl⟩) | (go_at_call 27; refine (text_any b M3 _ hR.at_).mono ?_; rw [hTE]; rintro e z2 ⟨rfl, rfl⟩) | (go_at_call 28; refine (number_any b M3 _ hR.at_).mono ?_; rw [hNE]; rintro e z3 ⟨rfl, rfl⟩) | (go_at_call 31; refine (Hmk.out _ hR.at_ hml).mono ?_; rintro e w5 ⟨uq, rfl, huq, hbq⟩; obtain ⟨aq, cq, rfl⟩ := own_slice huq; have hR5 := hR.on hbq; have hum5 := own_below6 hum hbq) | (go_at_call 32; refine (equal_eq aq am cq cm M2.marks _ (mrow_own rfl huq).1 (mrow_own rfl hum5).1 hml).mono ?_; rintro e w6 ⟨rfl, hb6⟩; have hR6 := hR5.on hb6; have hhe := held_any b cl M3 w6 hR6.at_ (MM.fits hok).1 (MM.fits hok).2.1) | (go_at_call 33; refine hhe.mono ?_; rintro e w7 ⟨vh, rfl, hvh, hbh⟩; have hR7 := hR6.on hbh; obtain ⟨ah, ch, hve, _⟩ := ptr_own hvh; subst hve))
      have hvh0 := own_mono (Nat.zero_le _) hvh
      obtain ⟨H, hH⟩ : ∃ H, heldS M3.st cl = H := ⟨_, rfl⟩
      obtain ⟨hsm, hsl⟩ := heldS_small (c := cl) hok
      rw [hH] at hvh0 hsm hsl
      have hok7 : MSok M3.st 300 := hok.mono (by omega)
      clear hhe hvh hbh hR6 hb6 hR5 hum5 huq hbq Hmk hR hum
      rw [hH]
      rcases ptr_some hvh0 with hah | ⟨gh, rfl⟩
      · go_loopw [17, 122, 123, 124, 125, 126, 127, 128, 129, 130, 131, 132, 133, 134, 135, 136, 137, 138, 139, 140, 141, 142, 143, 144, 145, 146, 147, 148, 149] (fun i x122 x123 x124 x125 x126 x127 x128 x129 x130 x131 x132 x133 x134 x135 x136 x137 x138 x139 x140 x141 x142 x143 x144 x145 x146 x147 x148 x149 wr => ∃ (j : Nat) (M' : MM), i = .int .i64 j ∧ j ≤ H.length ∧ Run w wr b M' ∧ heldS M'.st cl = H.drop j ∧ MSok M'.st (300 + 2 * j) ∧ wr.ownsRow 0 3 1 (.slice ah H.length ch) H.length (H.map natV)) (fun i x122 x123 x124 x125 x126 x127 x128 x129 x130 x131 x132 x133 x134 x135 x136 x137 x138 x139 x140 x141 x142 x143 x144 x145 x146 x147 x148 x149 wr => H.length - (intOf i).toNat)
        case atStart => exact ⟨0, M3, rfl, by omega, hR7, by rw [hH]; rfl, hok7, hvh0⟩
        case round =>
          clear hR7 hvh0 hok7 hok
          obtain ⟨j2, M7, rfl, hj2, hR, hhd, hok, hvh⟩ := hrel
          by_cases hlt2 : j2 < H.length
          · exact absurd hlt2 (by rw [hah]; exact Nat.not_lt_zero _)
          · have hemp : heldS M7.st cl = [] := by rw [hhd, List.drop_eq_nil_iff]; omega
            have hhe := held_any b cl M7 wr hR.at_ (MM.fits hok).1 (MM.fits hok).2.1
            rw [hemp] at hhe
            have HH := Lib.hid hhe
            clear hhe
            go_wp2_with (first | (go_at_call 33; refine HH.out.mono ?_; rintro e w8 ⟨v8, rfl, hv8, hb8⟩; obtain ⟨a8, c8, hve8, _⟩ := ptr_own (L := []) hv8; subst hve8; have hB8 := hR.bl.trans (hb8.mono hR.bl.size)) | (go_at_call 13; refine (known_any _).mono ?_; rintro e w9 ⟨rfl, hb9⟩))
            go_returns
            exact ⟨rfl, hB8.trans (hb9.mono hB8.size)⟩
      · go_loopw [17, 122, 123, 124, 125, 126, 127, 128, 129, 130, 131, 132, 133, 134, 135, 136, 137, 138, 139, 140, 141, 142, 143, 144, 145, 146, 147, 148, 149] (fun i x122 x123 x124 x125 x126 x127 x128 x129 x130 x131 x132 x133 x134 x135 x136 x137 x138 x139 x140 x141 x142 x143 x144 x145 x146 x147 x148 x149 wr => ∃ (j : Nat) (M' : MM), i = .int .i64 j ∧ j ≤ H.length ∧ Run w wr b M' ∧ heldS M'.st cl = H.drop j ∧ MSok M'.st (300 + 2 * j) ∧ wr.ownsRow 0 3 1 (  .slice (some ⟨gh, 0, none⟩) H.length ch) H.length (H.map natV)) (fun i x122 x123 x124 x125 x126 x127 x128 x129 x130 x131 x132 x133 x134 x135 x136 x137 x138 x139 x140 x141 x142 x143 x144 x145 x146 x147 x148 x149 wr => H.length - (intOf i).toNat)
        case atStart => exact ⟨0, M3, rfl, by omega, hR7, by rw [hH]; rfl, hok7, hvh0⟩
        case round =>
          clear hR7 hvh0 hok7 hok
          obtain ⟨j2, M7, rfl, hj2, hR, hhd, hok, hvh⟩ := hrel
          by_cases hlt2 : j2 < H.length
          · have hx := List.getElem?_eq_getElem hlt2
            have hdr := List.drop_eq_getElem_cons hlt2
            generalize H[j2] = x at hx hdr
            rw [hdr] at hhd
            have hx8 : x < 8 := hsm x (List.mem_of_getElem? hx)
            have cx := ptr_cell hvh hx
            obtain ⟨e8, s8⟩ := held_len (st := M7.st) (c := cl) (i := x) (by rw [hhd]; simp)
            obtain ⟨e9, s9⟩ := held_rel (st := M7.st) (c := cl) hhd
            obtain ⟨r8, t8, h8⟩ : ∃ r t, doS M7.st cl (opLen x) = (r, t) := ⟨_, _, rfl⟩
            obtain ⟨r9, t9, h9⟩ : ∃ r t, doS M7.st cl (opRel x) = (r, t) := ⟨_, _, rfl⟩
            rw [h8] at e8 s8
            rw [h9] at e9 s9
            have s8' : t8 = M7.st := s8
            subst s8'
            have z8 : (r8.err != 0) = false := by have : r8.err = 0 := e8; simp [this]
            have z9 : (r9.err != 0) = false := by have : r9.err = 0 := e9; simp [this]
            have z8b : r8.err = 0 := e8
            have z9b : r9.err = 0 := e9
            have hiR := hiRel (x := x) (by omega)
            have hkk : 300 + 2 * (j2 : Int) + 1 ≤ 100000 := by omega
            have HD8 := Lib.hid (do_k hR rfl hok (by omega) (hiLen (x := x) (by omega)) h8)
            go_wp2_with (first | (go_at_call 16; have HD := HD9; refine HD9.out.mono ?_; rintro e y2 ⟨M9, rfl, hR9, hst9, hk9, hok9⟩; have hvh9 := hR8.at_.keepOwn hk9 hvh8 (by decide) (by decide) (by decide); clear HD9 HD) | (go_at_call 16; have HD := HD8; refine HD8.out.mono ?_; rintro e y1 ⟨M8, rfl, hR8, hst8, hk8, hok8⟩; have hvh8 := hR.at_.keepOwn hk8 hvh (by decide) (by decide) (by decide); have cx8 := ptr_cell hvh8 hx; have HD9 := Lib.hid (do_k hR8 hst8 hok8 hkk hiR h9); clear HD HD8))
            go_roundw
            case rel => exact ⟨j2 + 1, M9, by go_num, by omega, hR9, by rw [hst9]; exact s9, hok9.mono (by omega), hvh9⟩
            case measure => simp [intOf]; omega
          · have hemp : heldS M7.st cl = [] := by rw [hhd, List.drop_eq_nil_iff]; omega
            have hhe := held_any b cl M7 wr hR.at_ (MM.fits hok).1 (MM.fits hok).2.1
            rw [hemp] at hhe
            have HH := Lib.hid hhe
            clear hhe
            go_wp2_with (first | (go_at_call 33; refine HH.out.mono ?_; rintro e w8 ⟨v8, rfl, hv8, hb8⟩; obtain ⟨a8, c8, hve8, _⟩ := ptr_own (L := []) hv8; subst hve8; have hB8 := hR.bl.trans (hb8.mono hR.bl.size)) | (go_at_call 13; refine (known_any _).mono ?_; rintro e w9 ⟨rfl, hb9⟩))
            go_returns
            exact ⟨rfl, hB8.trans (hb9.mono hB8.size)⟩
end Go.Proofs.YtlealeecmmpckaaGreat
namespace Go.Proofs.YtlealeecmmpckaaGreat
set_option linter.unusedVariables false
set_option linter.unusedSimpArgs false
open Go.RowKit
theorem walkModelCloses (c : CfgV) (p : Option Addr) (cp : Nat) (l : List ActV) (cl : Int) (p2 : Option Addr) (cp2 : Nat) (k : List ActV) (w : World) (hA : ArgActs w p l) (_ : -9223372036854775808 ≤ cl ∧ cl ≤ 9223372036854775807) (hA2 : ArgActs w p2 k) :
    Calls Tryz.prog 10 #[c.v, .slice p l.length cp, .int .i64 cl, .slice p2 k.length cp2] w fun e w' => e = .returned (.bool true) ∧ Below w.heap.size w w' := by
  by_cases hlong : 2000 < c.text.size ∨ 60 < l.length ∨ 60 < k.length
  · exact closes_long c p cp l cl p2 cp2 k w hlong
  · by_cases hc : cfgE c = 0
    · cases hcl : (doS (runS (newS c) l) cl opClose).2.closed with
      | false => exact closes_open c p cp l cl p2 cp2 k w (by omega) (by omega) (by omega) hA hA2 hc _ rfl hcl
      | true => exact closes_main c p cp l cl p2 cp2 k w (by omega) (by omega) (by omega) hA hA2 hc _ rfl hcl
    · exact closes_none c p cp l cl p2 cp2 k w (by omega) (by omega) (by omega) hA hc
end Go.Proofs.YtlealeecmmpckaaGreat
namespace Go.Proofs.YtlealeecmmpckaaGreat.modelCloses
set_option linter.unusedVariables false
set_option linter.unusedSimpArgs false
open Go.ChangeShapes Go.WideShapes Go.ChangeAt Go.RowKit
open Go.ChangeMaps (open_string shut_string)
set_option linter.unusedVariables false

set_option maxRecDepth 100000 in
theorem lifted (os : Os) (started : os.Started) (H : Type) (enc : TypeId × Value → H) :
    ReturnsInHanded {} Tryz.checked os 10 .any (Rows.modelClosesSpec.pre6 enc Tryz.prog Tryz.f10 Rows.modelClosesRow.domain false) (Rows.modelClosesSpec.post enc Tryz.prog Tryz.f10 false true false false) := by
  refine returnsInHanded_of_change_sized (C := Tryz.checked) own started (by kernel_rfl) Tryz.func10
    (ChangeSpec.witness6 (enc := enc) (C := Tryz.checked) false ⟨#[], #[.agg #[.int .i64 0, .int .u64 0, .int .i64 0, .int .i64 0, .int .i64 0, .int .i64 0, .int .i64 0, .string ⟨#[]⟩], .slice none 0 0, .int .i64 0, .slice none 0 0], []⟩ 8 (by kernel_rfl) (by kernel_rfl) (by kernel_rfl) (by kernel_rfl)) ?_
  intro W base args ds gs before hval0 hW hcnd hsz0 _
  have hval : ∀ (j : Nat) t v, Tryz.f10.params[j]? = some t → args[j]? = some v → Value.okWide Tryz.prog W .any base t v := hval0
  have hW' := hW
  obtain ⟨p, q, hA0, hV, rfl, hfz, hnd⟩ := hW
  have hA : DataW.TrodAll enc Tryz.prog W 0 (fun _ => true) true Tryz.f10.params.toList args.toList ds p := hA0
  rw [Tryz.params10] at hA hval
  obtain ⟨v0, vs0, d0, ds0, p0, q0, hargs, rfl, rfl, h0, r0⟩ := trodAll_cons hA
  obtain ⟨v1, vs1, d1, ds1, p1, q1, rfl, rfl, rfl, h1, r1⟩ := trodAll_cons r0
  obtain ⟨v2, vs2, d2, ds2, p2, q2, rfl, rfl, rfl, h2, r2⟩ := trodAll_cons r1
  obtain ⟨v3, vs3, d3, ds3, p3, q3, rfl, rfl, rfl, h3, r3⟩ := trodAll_cons r2
  obtain ⟨rfl, rfl, rfl⟩ := trodAll_nil r3
  obtain rfl : args = #[v0, v1, v2, v3] := by cases args; simp_all
  obtain ⟨rfl, rfl⟩ := trodVars_none hV
  obtain ⟨c0, rfl⟩ := open_cfg (hval 0 24 v0 rfl rfl) h0
  obtain ⟨q1, c1, l1, rfl, w1⟩ := open_acts (hval 1 25 v1 rfl rfl) h1
  obtain ⟨a2, rfl, rfl, rfl, w2⟩ := open_int Tryz.underlying3 (hval 2 3 v2 rfl rfl) h2
  obtain ⟨q3, c3, l3, rfl, w3⟩ := open_acts (hval 3 25 v3 rfl rfl) h3
  clear hA0 hval0
  (try simp only [List.append_nil, List.nil_append] at hW')
  refine (walkModelCloses c0 q1 c1 l1 a2 q3 c3 l3 W w1 (wf64 w2) w3).mono fun e W' ⟨he, hg⟩ => ?_
  subst he
  have hlt0 : ∀ x ∈ p0, x.block < W.heap.size := fun x hx => hW'.lt x (by simp [hx])
  have hlt1 : ∀ x ∈ p1, x.block < W.heap.size := fun x hx => hW'.lt x (by simp [hx])
  have hlt3 : ∀ x ∈ p3, x.block < W.heap.size := fun x hx => hW'.lt x (by simp [hx])
  exact ⟨_, rfl, post_of_below (pa := (p0 ++ (p1 ++ ([] ++ (p3 ++ []))))) (pv := []) hW' (fun _ _ _ => (trodAll_cons_mk (shut_bool Tryz.underlying4 _) trodAll_mk0)) (fun sp hsp => (trodAll_cons_mk (WideElems.Trod_stays (by kernel_rfl) (by kernel_rfl) (of_decide_eq_true (by kernel_rfl)) h0 (fun x hx => hg.same (hlt0 x hx)) (fun x hx => hsp x (by simp [hx]))) (trodAll_cons_mk (WideElems.Trod_stays (by kernel_rfl) (by kernel_rfl) (of_decide_eq_true (by kernel_rfl)) h1 (fun x hx => hg.same (hlt1 x hx)) (fun x hx => hsp x (by simp [hx]))) (trodAll_cons_mk (shut_int Tryz.underlying3 w2) (trodAll_cons_mk (WideElems.Trod_stays (by kernel_rfl) (by kernel_rfl) (of_decide_eq_true (by kernel_rfl)) h3 (fun x hx => hg.same (hlt3 x hx)) (fun x hx => hsp x (by simp [hx]))) trodAll_mk0))))) (fun _ _ => rfl) (by simp)
    hg (ok_one (by kernel_rfl) rfl (okWide_bool_mk Tryz.underlying4 _))⟩

theorem proved : Rows.ModelClosesSaid :=
  OpenClaim.holds_of_wide 10 Tryz.f10 rfl rfl rfl rfl rfl rfl rfl ⟨rfl, rfl, rfl, rfl, rfl⟩ rfl rfl rfl rfl rfl (by kernel_rfl) Tryz.func10 (by kernel_rfl)
    (of_decide_eq_true (by kernel_rfl)) (by unfold Func.isWrapper; first | (rw [if_pos (by decide +kernel)]; kernel_rfl) | (rw [if_neg (by decide +kernel)]; exact ⟨rfl, rfl⟩))
    (fun os started H enc _ => lifted os started H enc)
#print axioms proved
end Go.Proofs.YtlealeecmmpckaaGreat.modelCloses
