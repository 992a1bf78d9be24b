/- The texts RaQ RaR RaS RaW. -/
import Derived.Test.YtlealeecmmpckaaGreatKxe
import Derived.Test.YtlealeecmmpckaaGreatKxc
import Derived.Test.YtlealeecmmpckaaGreatKum
import Derived.Test.YtlealeecmmpckaaGreatKug
import Derived.Test.YtlealeecmmpckaaGreatKul
import Derived.Laws.AppendOwn
namespace Go.Proofs.YtlealeecmmpckaaGreat
set_option linter.unusedVariables false
set_option linter.unusedSimpArgs false
set_option maxRecDepth 100000
set_option maxHeartbeats 8000000
open Go.RowKit Go.Lib Go.Shelf
theorem rsl_at : ∀ (l : List SnM) (k : Nat) (x : SnM), l[k]? = some x → ∀ (i : Nat) (u : Value), (snL x)[i]? = some u → (slL l)[k * 4 + i]? = some u
  | [], _, _, h, _, _, _ => by simp at h
  | y :: l, 0, x, h, i, u, hu => by
    obtain rfl : y = x := by simpa using h
    show (snL y ++ slL l)[0 * 4 + i]? = _
    rw [Nat.zero_mul, Nat.zero_add, List.getElem?_append_left (List.getElem?_eq_some_iff.1 hu).1]; exact hu
  | y :: l, k + 1, x, h, i, u, hu => by
    have := rsl_at l k x (by simpa using h) i u hu
    show (snL y ++ slL l)[(k + 1) * 4 + i]? = _
    rw [List.getElem?_append_right (by show 4 ≤ _; omega), show (k + 1) * 4 + i - (snL y).length = k * 4 + i by show _ - 4 = _; omega]; exact this
structure RowAt (W : World) (M : RM) (c : Nat) (S : SeM) (gs cs g cp : Nat) : Prop where
  sv : M.sv = .slice (some ⟨gs, 0, none⟩) M.seats.length cs
  v : S.v = .slice (some ⟨g, 0, none⟩) S.sl.length cp
  cap : S.sl.length ≤ cp
  row : W.cell? ⟨gs, c, none⟩ = some (.slice (some ⟨g, 0, none⟩) S.sl.length cp)
  sn : ∀ (k : Nat) (x : SnM), S.sl[k]? = some x → W.cell? ⟨g, k * 4, none⟩ = some (.bool x.s.held) ∧ W.cell? ⟨g, k * 4 + 1, none⟩ = some (.string x.s.text) ∧ W.cell? ⟨g, k * 4 + 2, none⟩ = some x.mv ∧ W.cell? ⟨g, k * 4 + 3, none⟩ = some (.int .i64 x.s.cursor)
theorem RdAt.rowAt {W : World} {b : Nat} {M : RM} (h : RdAt W b M) {c : Nat} {S : SeM} (hS : M.seats[c]? = some S) : ∃ gs cs g cp, RowAt W M c S gs cs g cp := by
  have hmem := List.mem_of_getElem? hS
  have h1 := h.snaps
  have h2 := h.slots S hmem
  have hlen : M.seats.length ≠ 0 := by have := (List.getElem?_eq_some_iff.1 hS).1; omega
  rcases h1.2 with ⟨_, e2⟩ | ⟨gs, cs, curS, e1, _⟩
  · exact absurd e2 hlen
  rcases h2.2 with ⟨e2, _⟩ | ⟨g, cp, cur, e2, _, hg, q1, _⟩
  · exact absurd (by rw [e2]; rfl) (h.some_.2 S hmem)
  rw [e1] at h1
  have hv := e2
  rw [e2] at h2
  refine ⟨gs, cs, g, cp, e1, hv, q1, ?_, fun k x hx => ?_⟩
  · refine (own_cell h1 c _ ?_).1
    show (rowL M.seats)[c]? = _
    unfold rowL; rw [List.getElem?_map, hS]; simp [hv]
  · have a := rsl_at S.sl k x hx
    exact ⟨(own_cell h2 _ _ (a 0 _ rfl)).1, (own_cell h2 _ _ (a 1 _ rfl)).1, (own_cell h2 _ _ (a 2 _ rfl)).1, (own_cell h2 _ _ (a 3 _ rfl)).1⟩
theorem RdAt.cs {W : World} {b : Nat} {M : RM} (h : RdAt W b M) : W.cell? ⟨b, 0, none⟩ = some (.int .i64 M.seats.length) ∧ W.cell? ⟨b, 1, none⟩ = some (.int .i64 M.readers) ∧ W.cell? ⟨b, 2, none⟩ = some (.string M.text) ∧ W.cell? ⟨b, 3, none⟩ = some M.mv ∧ W.cell? ⟨b, 4, none⟩ = some (.int .i64 M.number) ∧ W.cell? ⟨b, 5, none⟩ = some (.bool M.closed) ∧ W.cell? ⟨b, 6, none⟩ = some M.bv ∧ W.cell? ⟨b, 7, none⟩ = some M.sv := by
  refine ⟨?_, ?_, ?_, ?_, ?_, ?_, ?_, ?_⟩ <;> simp [World.cell?, h.blk, rdL]
theorem rtext_any (b : Nat) (M : RM) (w : World) (h : RdAt w b M) : Calls Tryz.prog 50 #[.pointer (some ⟨b, 0, none⟩)] w fun e w' => e = .returned (.string M.text) ∧ w = w' := by
  obtain ⟨_, _, c0, _⟩ := h.cs
  go_enter Tryz.func50, Tryz.ntmps50
  go_wp2
  go_returns
  exact ⟨rfl, rfl⟩
theorem rnumber_any (b : Nat) (M : RM) (w : World) (h : RdAt w b M) : Calls Tryz.prog 51 #[.pointer (some ⟨b, 0, none⟩)] w fun e w' => e = .returned (.int .i64 M.number) ∧ w = w' := by
  obtain ⟨_, _, _, _, c0, _⟩ := h.cs
  go_enter Tryz.func51, Tryz.ntmps51
  go_wp2
  go_returns
  exact ⟨rfl, rfl⟩
theorem rclosed_any (b : Nat) (M : RM) (w : World) (h : RdAt w b M) : Calls Tryz.prog 52 #[.pointer (some ⟨b, 0, none⟩)] w fun e w' => e = .returned (.bool M.closed) ∧ w = w' := by
  obtain ⟨_, _, _, _, _, c0, _⟩ := h.cs
  go_enter Tryz.func52, Tryz.ntmps52
  go_wp2
  go_returns
  exact ⟨rfl, rfl⟩
theorem rmarks_any (b : Nat) (M : RM) (w : World) (h : RdAt w b M) (hs : M.marks.length ≤ 1000) : Calls Tryz.prog 54 #[.pointer (some ⟨b, 0, none⟩)] w fun e w' => ∃ v, e = .returned v ∧ MOwn w' w.heap.size v M.marks ∧ Below w.heap.size w w' := by
  obtain ⟨i0, hi, hz0, hz1, hz2⟩ := info_parts infoMk
  obtain ⟨am, cm, hmv⟩ := own_slice h.marks
  have hoM := h.marks
  rw [hmv] at hoM
  obtain ⟨_, _, _, c3, _⟩ := h.cs
  rw [hmv] at c3
  have c3' := fun o => Lib.cell?_alloc_some o c3
  have e1 := own_empty w
  have hB1 := (Below.refl w.heap.size w).alloc (Nat.le_refl _) (.cells #[] 81)
  have hoM1 := own_below6 hoM hB1
  rcases own_caseR hoM1 with ⟨rfl, hn, rfl⟩ | ⟨g, rfl, hgc⟩
  · have hnil : M.marks = [] := List.eq_nil_of_length_eq_zero hn
    rw [hn] at c3 c3'
    rw [hnil]
    go_enter Tryz.func54, Tryz.ntmps54
    go_wp2_with (at_builtin; refine wpList_append_own_none _ rfl _ _ 70 rfl w.heap.size 81 i0 3 Tryz.underlying70 hi _ 0 [] rfl e1 rfl ?_)
    go_returns
    exact ⟨_, rfl, e1, hB1⟩
  · have hsrc : ∀ (j : Nat) (u : Value), (mksL M.marks)[j]? = some u → (w.alloc (.cells #[] 81)).cell? ((⟨g, 0, none⟩ : Addr).add j) = some u := src_lo (hi := []) hoM1 (by simp)
    have HS := Lib.hid hsrc
    clear hsrc
    go_enter Tryz.func54, Tryz.ntmps54
    go_wp2_with (at_builtin; refine wpList_append_own _ rfl _ _ 70 rfl w.heap.size 81 i0 _ 3 24 Tryz.underlying70 hi hz0 hz1 hz2 rfl (by decide) _ 0 [] rfl e1 ⟨g, 0, none⟩ M.marks.length cm (mksL M.marks) rfl (mk_len M.marks) HS.out (mk_ones M.marks) (by unfold maxLen; omega) (by omega) (by simp) ?_; intro v6 w6 hn6 hg6 _)
    go_returns
    refine ⟨_, rfl, ?_, hB1.grown hg6 (by simp) (fun k hk => (e1.lt k hk).1)⟩
    rw [Nat.zero_add, List.nil_append] at hn6
    exact hn6
end Go.Proofs.YtlealeecmmpckaaGreat
namespace Go.Proofs.YtlealeecmmpckaaGreat
set_option linter.unusedVariables false
set_option linter.unusedSimpArgs false
set_option maxRecDepth 100000
set_option maxHeartbeats 8000000
open Go.RowKit Go.Lib Go.Shelf
theorem heldS_out {st : MS} {c : Int} (h : c < 0 ∨ (st.seats.length : Int) ≤ c) : heldS st c = [] := by unfold heldS; rw [if_pos h]
theorem rheld_out (b : Nat) (c : Int) (M : RM) (w : World) (h : RdAt w b M) (hc : c < 0 ∨ (M.seats.length : Int) ≤ c) :
    Calls Tryz.prog 55 #[.pointer (some ⟨b, 0, none⟩), .int .i64 c] w fun e w' => e = .returned (.slice none 0 0) ∧ w = w' := by
  obtain ⟨c0, _⟩ := h.cs
  rcases hc with hc | hc
  · have hd : decide (c < 0) = true := by simpa using hc
    go_enter Tryz.func55, Tryz.ntmps55
    go_wp2
    go_returns
    exact ⟨rfl, rfl⟩
  · have hd : decide (c < 0) = false := by simp; omega
    have hd2 : decide ((M.seats.length : Int) ≤ c) = true := by simpa using hc
    go_enter Tryz.func55, Tryz.ntmps55
    go_wp2
    go_returns
    exact ⟨rfl, rfl⟩
theorem rheld_in (b c : Nat) (M : RM) (w : World) (h : RdAt w b M) (S : SeM) (hS : M.seats[c]? = some S) (hr : M.readers = S.sl.length) (hl : S.sl.length ≤ 8) (hcl : M.seats.length ≤ 8) :
    Calls Tryz.prog 55 #[.pointer (some ⟨b, 0, none⟩), .int .i64 (c : Int)] w fun e w' => ∃ v, e = .returned v ∧ w'.ownsRow w.heap.size 3 1 v (heldL S.st.slots).length ((heldL S.st.slots).map natV) ∧ Below w.heap.size w w' := by
  obtain ⟨i0, hi, hz0, hz1, hz2⟩ := info_parts infoI64
  obtain ⟨hc, _⟩ := List.getElem?_eq_some_iff.1 hS
  obtain ⟨gs, cs, g, cp, hA⟩ := h.rowAt hS
  have kx : ∀ W, Below w.heap.size w W → W.cell? ⟨b, 1, none⟩ = some (.int .i64 S.sl.length) ∧ W.cell? ⟨b, 7, none⟩ = some (.slice (some ⟨gs, 0, none⟩) M.seats.length cs) ∧ W.cell? ⟨gs, c, none⟩ = some (.slice (some ⟨g, 0, none⟩) S.sl.length cp) := fun W hW => by
    obtain ⟨_, a1, _, _, _, _, _, a7⟩ := (h.below hW).cs
    rw [hr] at a1; rw [hA.sv] at a7
    exact ⟨a1, a7, cell_below hA.row hW⟩
  have kn : ∀ W, Below w.heap.size w W → ∀ (k : Nat) (x : SnM), S.sl[k]? = some x → W.cell? ⟨g, k * 4, none⟩ = some (.bool x.s.held) := fun W hW k x hx => cell_below (hA.sn k x hx).1 hW
  obtain ⟨c0, _⟩ := h.cs
  have Kx := Lib.hid kx
  have Kn := Lib.hid kn
  have hcp := hA.cap
  have hd : decide ((c : Int) < 0) = false := by simp
  have hd2 : decide (M.seats.length ≤ c) = false := by simp; omega
  have hlen : S.st.slots.length = S.sl.length := List.length_map ..
  clear kx kn hr
  go_enter Tryz.func55, Tryz.ntmps55
  go_wp2
  go_loopw [5, 6, 21, 22, 23, 24, 25, 26, 27, 28, 29, 30, 31, 32, 33, 34, 35, 36, 37, 38, 39, 40, 41, 42, 43] (fun x5 i x21 x22 x23 x24 x25 x26 x27 x28 x29 x30 x31 x32 x33 x34 x35 x36 x37 x38 x39 x40 x41 x42 x43 wr => ∃ k : Nat, i = .int .i64 k ∧ k ≤ S.sl.length ∧ wr.ownsRow w.heap.size 3 1 x5 (hpL S.st.slots k).length ((hpL S.st.slots k).map natV) ∧ Below w.heap.size w wr) (fun x5 i x21 x22 x23 x24 x25 x26 x27 x28 x29 x30 x31 x32 x33 x34 x35 x36 x37 x38 x39 x40 x41 x42 x43 wr => S.sl.length - (intOf i).toNat)
  case atStart => exact ⟨0, rfl, by omega, ⟨rfl, .inl ⟨rfl, rfl⟩⟩, Below.refl _ _⟩
  case round =>
    obtain ⟨k, rfl, hk, ho, hB⟩ := hrel
    obtain ⟨y1, y7, yr⟩ := Kx.out _ hB
    by_cases hlt : k < S.sl.length
    · have hx := List.getElem?_eq_getElem hlt
      generalize S.sl[k] = x at hx
      have s0 := Kn.out _ hB k x hx
      have hxs : S.st.slots.getD k default = x.s := by
        rw [List.getD_eq_getElem?_getD]; show ((S.sl.map (·.s))[k]?).getD default = _
        rw [List.getElem?_map, hx]; rfl
      have hsu := hpL_succ S.st.slots k
      rw [hxs] at hsu
      have hle := hpL_le S.st.slots k
      have Hsu := Lib.hid hsu
      clear hsu hxs
      cases hh : x.s.held with
      | true =>
        rw [hh] at s0
        go_wp2_with (at_builtin; refine wpList_append_own _ rfl _ _ 73 rfl w.heap.size 3 i0 (.int .i64 0) 1 8 Tryz.underlying73 hi hz0 hz1 hz2 rfl (by decide) _ _ _ rfl (ho.alloc _) ⟨_, 0, none⟩ 1 1 [.int .i64 (k : Int)] rfl rfl (cell_one_new _ _ _) (by simp [Value.oneCell']) (by unfold maxLen; omega) (by omega) (by have := hB.size; simp; omega) ?_; intro v' w3 hown' hgrow _)
        have hB3 : Below w.heap.size w w3 := (hB.alloc hB.size _).grown hgrow (by have := hB.size; simp; omega) fun k hk => (ho.lt k hk).1
        go_roundw
        case rel => exact ⟨k + 1, by go_num, by omega, by rw [Hsu.out, hh, if_pos rfl, List.length_append, List.map_append]; exact hown', hB3⟩
        case measure => simp [intOf]; omega
      | false =>
        rw [hh] at s0
        go_wp2
        go_roundw
        case rel => exact ⟨k + 1, by go_num, by omega, by rw [Hsu.out, hh, if_neg (by simp), List.append_nil]; exact ho, hB⟩
        case measure => simp [intOf]; omega
    · have hke : k = S.st.slots.length := by omega
      go_wp2
      go_returns
      exact ⟨_, rfl, by rw [← hpL_all, ← hke]; exact ho, hB⟩
end Go.Proofs.YtlealeecmmpckaaGreat
namespace Go.Proofs.YtlealeecmmpckaaGreat
set_option linter.unusedVariables false
set_option linter.unusedSimpArgs false
set_option maxRecDepth 100000
set_option maxHeartbeats 8000000
open Go.RowKit Go.Lib Go.Shelf
theorem rheld_any (b : Nat) (c : Int) (M : RM) (w : World) (h : RdAt w b M) (hcl : M.seats.length ≤ 8) (hsl : ∀ S ∈ M.seats, M.readers = S.sl.length ∧ S.sl.length ≤ 8) :
    Calls Tryz.prog 55 #[.pointer (some ⟨b, 0, none⟩), .int .i64 c] w fun e w' => ∃ v, e = .returned v ∧ w'.ownsRow w.heap.size 3 1 v (heldS M.st c).length ((heldS M.st c).map natV) ∧ Below w.heap.size w w' := by
  have hlen : M.st.seats.length = M.seats.length := List.length_map ..
  by_cases hc : c < 0 ∨ (M.seats.length : Int) ≤ c
  · refine (rheld_out b c M w h hc).mono ?_
    rintro e w' ⟨rfl, rfl⟩
    rw [heldS_out (by rw [hlen]; exact hc)]
    exact ⟨_, rfl, ⟨rfl, .inl ⟨rfl, rfl⟩⟩, Below.refl _ _⟩
  · obtain ⟨n, rfl⟩ : ∃ n : Nat, c = n := ⟨c.toNat, by omega⟩
    have hS := List.getElem?_eq_getElem (l := M.seats) (i := n) (by omega)
    have e : heldS M.st n = heldL (M.seats[n]'(by omega)).st.slots := by
      unfold heldS; rw [hlen, if_neg hc, Int.toNat_natCast]
      show heldL (M.st.seats.getD n default).slots = _
      rw [List.getD_eq_getElem?_getD]; show heldL (((M.seats.map (fun S : SeM => S.st))[n]?).getD default).slots = _
      rw [List.getElem?_map, hS]; rfl
    rw [e]
    have h2 := hsl _ (List.mem_of_getElem? hS)
    exact rheld_in b n M w h _ hS h2.1 h2.2 hcl
structure Both (W : World) (bm br : Nat) (M : MM) (R : RM) : Prop where
  m : MdAt W bm M
  r : RdAt W br R
theorem Both.on {W W' : World} {bm br : Nat} {M : MM} {R : RM} (h : Both W bm br M R) (hb : Below W.heap.size W W') : Both W' bm br M R := ⟨h.m.below hb, h.r.below hb⟩
theorem hl_at {w : World} {B g cp : Nat} {L : List Nat} {n : Nat} (h : w.ownsRow B 3 1 (.slice (some ⟨g, 0, none⟩) n cp) L.length (L.map natV)) {k : Nat} (hk : k < L.length) : w.cell? ⟨g, k, none⟩ = some (.int .i64 (L.getD k 0)) := by
  refine (own_cell h k _ ?_).1
  rw [List.getElem?_map, List.getElem?_eq_getElem hk, List.getD_eq_getElem?_getD, List.getElem?_eq_getElem hk]; rfl
theorem own_max {w : World} {B s n : Nat} {e : TypeId} {v : Value} {xs : List Value} (h : w.ownsRow B e s v n xs) : n ≤ maxLen := by
  rcases h.2 with ⟨_, e2⟩ | ⟨g, cap, cur, _, _, _, h3, h4, _⟩
  · omega
  · omega
def SamI (w : World) (bm br : Nat) (n : Nat) (a : Act) (wr : World) : Prop :=
  ∃ (c : Int) (u : Nat → Value), a = { tmps := #[.pointer (some ⟨bm, 0, none⟩), .pointer (some ⟨br, 0, none⟩), u 2, u 3, u 4, .int .i64 c, u 6, u 7, u 8, u 9, u 10, u 11, u 12, u 13, u 14, u 15, u 16, u 17, u 18, u 19, u 20, u 21, u 22, u 23, u 24, u 25, u 26, u 27, u 28, u 29, u 30, u 31, u 32, u 33, u 34, u 35, u 36, u 37, u 38, u 39, u 40, u 41, u 42, u 43, u 44, u 45, u 46, u 47, u 48, u 49, u 50, u 51, u 52, u 53, u 54, u 55, u 56, u 57, u 58, u 59, u 60, u 61, u 62, u 63, u 64, u 65, u 66, u 67, u 68, u 69], defers := [] } ∧ -1 ≤ c ∧ c ≤ n + 1 ∧ Below w.heap.size w wr
theorem SamI.intro {w : World} {bm br : Nat} {n : Nat} {a : Act} {wr : World} (c : Int) (h : a = { tmps := #[.pointer (some ⟨bm, 0, none⟩), .pointer (some ⟨br, 0, none⟩), a.tmps.getD 2 undef, a.tmps.getD 3 undef, a.tmps.getD 4 undef, .int .i64 c, a.tmps.getD 6 undef, a.tmps.getD 7 undef, a.tmps.getD 8 undef, a.tmps.getD 9 undef, a.tmps.getD 10 undef, a.tmps.getD 11 undef, a.tmps.getD 12 undef, a.tmps.getD 13 undef, a.tmps.getD 14 undef, a.tmps.getD 15 undef, a.tmps.getD 16 undef, a.tmps.getD 17 undef, a.tmps.getD 18 undef, a.tmps.getD 19 undef, a.tmps.getD 20 undef, a.tmps.getD 21 undef, a.tmps.getD 22 undef, a.tmps.getD 23 undef, a.tmps.getD 24 undef, a.tmps.getD 25 undef, a.tmps.getD 26 undef, a.tmps.getD 27 undef, a.tmps.getD 28 undef, a.tmps.getD 29 undef, a.tmps.getD 30 undef, a.tmps.getD 31 undef, a.tmps.getD 32 undef, a.tmps.getD 33 undef, a.tmps.getD 34 undef, a.tmps.getD 35 undef, a.tmps.getD 36 undef, a.tmps.getD 37 undef, a.tmps.getD 38 undef, a.tmps.getD 39 undef, a.tmps.getD 40 undef, a.tmps.getD 41 undef, a.tmps.getD 42 undef, a.tmps.getD 43 undef, a.tmps.getD 44 undef, a.tmps.getD 45 undef, a.tmps.getD 46 undef, a.tmps.getD 47 undef, a.tmps.getD 48 undef, a.tmps.getD 49 undef, a.tmps.getD 50 undef, a.tmps.getD 51 undef, a.tmps.getD 52 undef, a.tmps.getD 53 undef, a.tmps.getD 54 undef, a.tmps.getD 55 undef, a.tmps.getD 56 undef, a.tmps.getD 57 undef, a.tmps.getD 58 undef, a.tmps.getD 59 undef, a.tmps.getD 60 undef, a.tmps.getD 61 undef, a.tmps.getD 62 undef, a.tmps.getD 63 undef, a.tmps.getD 64 undef, a.tmps.getD 65 undef, a.tmps.getD 66 undef, a.tmps.getD 67 undef, a.tmps.getD 68 undef, a.tmps.getD 69 undef], defers := [] }) (h1 : -1 ≤ c) (h2 : c ≤ n + 1) (hB : Below w.heap.size w wr) : SamI w bm br n a wr := ⟨c, fun i => a.tmps.getD i undef, h, h1, h2, hB⟩
def SamJ (wr : World) (bm br : Nat) (c : Int) (a1 a2 : Option Addr) (n c1 c2 : Nat) (a : Act) (W : World) : Prop :=
  ∃ (k : Nat) (u : Nat → Value), a = { tmps := #[.pointer (some ⟨bm, 0, none⟩), .pointer (some ⟨br, 0, none⟩), u 2, u 3, u 4, .int .i64 c, .slice a1 n c1, .slice a2 n c2, .int .i64 k, u 9, u 10, u 11, u 12, u 13, u 14, u 15, u 16, u 17, u 18, u 19, u 20, u 21, u 22, u 23, u 24, u 25, u 26, u 27, u 28, u 29, u 30, u 31, u 32, u 33, u 34, u 35, u 36, u 37, u 38, u 39, u 40, u 41, u 42, u 43, u 44, u 45, u 46, u 47, u 48, u 49, u 50, u 51, u 52, u 53, u 54, u 55, u 56, u 57, u 58, u 59, u 60, u 61, u 62, u 63, u 64, u 65, u 66, u 67, u 68, u 69], defers := [] } ∧ k ≤ n ∧ Below wr.heap.size wr W
theorem SamJ.intro {wr : World} {bm br : Nat} {c : Int} {a1 a2 : Option Addr} {n c1 c2 : Nat} {a : Act} {W : World} (k : Nat) (h : a = { tmps := #[.pointer (some ⟨bm, 0, none⟩), .pointer (some ⟨br, 0, none⟩), a.tmps.getD 2 undef, a.tmps.getD 3 undef, a.tmps.getD 4 undef, .int .i64 c, .slice a1 n c1, .slice a2 n c2, .int .i64 k, a.tmps.getD 9 undef, a.tmps.getD 10 undef, a.tmps.getD 11 undef, a.tmps.getD 12 undef, a.tmps.getD 13 undef, a.tmps.getD 14 undef, a.tmps.getD 15 undef, a.tmps.getD 16 undef, a.tmps.getD 17 undef, a.tmps.getD 18 undef, a.tmps.getD 19 undef, a.tmps.getD 20 undef, a.tmps.getD 21 undef, a.tmps.getD 22 undef, a.tmps.getD 23 undef, a.tmps.getD 24 undef, a.tmps.getD 25 undef, a.tmps.getD 26 undef, a.tmps.getD 27 undef, a.tmps.getD 28 undef, a.tmps.getD 29 undef, a.tmps.getD 30 undef, a.tmps.getD 31 undef, a.tmps.getD 32 undef, a.tmps.getD 33 undef, a.tmps.getD 34 undef, a.tmps.getD 35 undef, a.tmps.getD 36 undef, a.tmps.getD 37 undef, a.tmps.getD 38 undef, a.tmps.getD 39 undef, a.tmps.getD 40 undef, a.tmps.getD 41 undef, a.tmps.getD 42 undef, a.tmps.getD 43 undef, a.tmps.getD 44 undef, a.tmps.getD 45 undef, a.tmps.getD 46 undef, a.tmps.getD 47 undef, a.tmps.getD 48 undef, a.tmps.getD 49 undef, a.tmps.getD 50 undef, a.tmps.getD 51 undef, a.tmps.getD 52 undef, a.tmps.getD 53 undef, a.tmps.getD 54 undef, a.tmps.getD 55 undef, a.tmps.getD 56 undef, a.tmps.getD 57 undef, a.tmps.getD 58 undef, a.tmps.getD 59 undef, a.tmps.getD 60 undef, a.tmps.getD 61 undef, a.tmps.getD 62 undef, a.tmps.getD 63 undef, a.tmps.getD 64 undef, a.tmps.getD 65 undef, a.tmps.getD 66 undef, a.tmps.getD 67 undef, a.tmps.getD 68 undef, a.tmps.getD 69 undef], defers := [] }) (hk : k ≤ n) (hB : Below wr.heap.size wr W) : SamJ wr bm br c a1 a2 n c1 c2 a W := ⟨k, fun i => a.tmps.getD i undef, h, hk, hB⟩
theorem rsame_models (bm br : Nat) (M : MM) (R : RM) (W : World) {K : Int} (h : Both W bm br M R) (hst : M.st = R.st) (hok : MSok M.st K) : Calls Tryz.prog 22 #[.pointer (some ⟨bm, 0, none⟩), .pointer (some ⟨br, 0, none⟩)] W fun e w' => e = .returned (.bool true) ∧ Below W.heap.size W w' := by
  have e1 : M.text = R.text := congrArg MS.text hst
  have e2 : M.marks = R.marks := congrArg MS.marks hst
  have e3 : M.number = R.number := congrArg MS.number hst
  have e4 : M.closed = R.closed := congrArg MS.closed hst
  have e5 : M.readers = R.readers := congrArg MS.readers hst
  have e6 : M.seats.length = R.seats.length := by have := congrArg (fun s : MS => s.seats.length) hst; simpa [MM.st, RM.st] using this
  have hcl : M.seats.length ≤ 8 := by have := hok.clients; simpa [MM.st] using this
  have hrd : M.readers ≤ 8 := hok.readers
  have hslM : ∀ S ∈ M.seats, S.sl.length ≤ 8 := fun S hS => by
    have := (hok.slots S.st (List.mem_map.2 ⟨S, hS, rfl⟩)).1
    have h2 : S.sl.length = M.readers := by simpa [SeM.st, MM.st] using this
    omega
  have hslR : ∀ S ∈ R.seats, R.readers = S.sl.length ∧ S.sl.length ≤ 8 := fun S hS => by
    rw [hst] at hok
    have := (hok.slots S.st (List.mem_map.2 ⟨S, hS, rfl⟩)).1
    have h2 : S.sl.length = R.readers := by simpa [SeM.st, RM.st] using this
    omega
  have hmk : M.marks.length ≤ 64 := hok.marks.1
  have t1 := fun W (h : Both W bm br M R) => text_any bm M W h.m
  have t2 := fun W (h : Both W bm br M R) => rtext_any br R W h.r
  have n1 := fun W (h : Both W bm br M R) => number_any bm M W h.m
  have n2 := fun W (h : Both W bm br M R) => rnumber_any br R W h.r
  have c1 := fun W (h : Both W bm br M R) => closed_any bm M W h.m
  have c2 := fun W (h : Both W bm br M R) => rclosed_any br R W h.r
  have m1 := fun W (h : Both W bm br M R) => marks_any bm M W h.m (by omega)
  have m2 := fun W (h : Both W bm br M R) => rmarks_any br R W h.r (by rw [← e2]; omega)
  have d1 := fun W (h : Both W bm br M R) c => held_any bm c M W h.m hcl hslM
  have d2 := fun W (h : Both W bm br M R) c => rheld_any br c R W h.r (by rw [← e6]; exact hcl) hslR
  have nn := fun W (h : Both W bm br M R) => (show W.cell? ⟨br, 0, none⟩ = some (.int .i64 M.seats.length) by rw [e6]; exact h.r.cs.1)
  rw [e1] at t1; rw [e3] at n1; rw [e4] at c1; rw [e2] at m1 hmk
  simp only [hst] at d1
  have T1 := Lib.hid t1; have T2 := Lib.hid t2; have N1 := Lib.hid n1; have N2 := Lib.hid n2; have C1 := Lib.hid c1; have C2 := Lib.hid c2; have M1 := Lib.hid m1; have M2 := Lib.hid m2; have D1 := Lib.hid d1; have D2 := Lib.hid d2; have NN := Lib.hid nn
  clear t1 t2 n1 n2 c1 c2 m1 m2 d1 d2 nn e1 e2 e3 e4 e5 e6 hst hok hslM hslR
  have HO := Lib.hid h
  clear h
  generalize M.seats.length = n at *
  go_enter Tryz.func22, Tryz.ntmps22
  go_wp2_with (first | (go_at_call 53; have hx := hq2; refine (refMSame_any am2 am3 cm2 cm3 R.marks R.marks w3 (hq1.on hb3) hq2 hcm2 hcm3 (by omega) (by omega)).mono ?_; rintro e w4 ⟨rfl, hb4⟩; rw [decide_eq_true rfl]) | (go_at_call 54; refine (M2.out _ (HO.out.on hb2)).mono ?_; rintro e w3 ⟨v3, rfl, ho3, hb3⟩; obtain ⟨am3, cm3, rfl⟩ := own_slice ho3; obtain ⟨hq2, hcm3⟩ := mrow_own rfl ho3) | (go_at_call 31; refine (M1.out _ HO.out).mono ?_; rintro e w2 ⟨v2, rfl, ho2, hb2⟩; obtain ⟨am2, cm2, rfl⟩ := own_slice ho2; obtain ⟨hq1, hcm2⟩ := mrow_own rfl ho2) | (go_at_call 27; refine (T1.out _ HO.out).mono ?_; rintro e w' ⟨rfl, rfl⟩) | (go_at_call 50; refine (T2.out _ HO.out).mono ?_; rintro e w' ⟨rfl, rfl⟩) | (go_at_call 28; refine (N1.out _ HO.out).mono ?_; rintro e w' ⟨rfl, rfl⟩) | (go_at_call 51; refine (N2.out _ HO.out).mono ?_; rintro e w' ⟨rfl, rfl⟩) | (go_at_call 30; refine (C1.out _ HO.out).mono ?_; rintro e w' ⟨rfl, rfl⟩) | (go_at_call 52; refine (C2.out _ HO.out).mono ?_; rintro e w' ⟨rfl, rfl⟩))
  have hB4 : Below W.heap.size W w4 := (hb2.trans (hb3.mono hb2.size)).trans (hb4.mono (Nat.le_trans hb2.size hb3.size))
  refine wp_loop (SamI W bm br n) (fun a _ => (n + 2 - intOf (a.tmps.getD 5 undef)).toNat) ?_ ?_
  · exact SamI.intro (-1) rfl (by omega) (by omega) hB4
  · rintro a wr ⟨c, u, rfl, hc0, hc1, hB⟩
    have HOr := Lib.hid (HO.out.on hB)
    have hnn := NN.out _ HOr.out
    by_cases hlt : c ≤ n
    · have dl : decide (c ≤ (n : Int)) = true := by simpa using hlt
      go_wp2_with (first | (go_at_call 55; refine (D2.out _ (HOr.out.on hb5) c).mono ?_; rintro e w6 ⟨v6, rfl, ho6, hb6⟩; obtain ⟨a6, k6, rfl⟩ := own_slice ho6) | (go_at_call 33; refine (D1.out _ HOr.out c).mono ?_; rintro e w5 ⟨v5, rfl, ho5, hb5⟩; obtain ⟨a5, k5, rfl⟩ := own_slice ho5))
      have ho5' := own_below6 ho5 hb6
      have hB6 := (hB.trans (hb5.mono hB.size)).trans (hb6.mono (Nat.le_trans hB.size hb5.size))
      generalize heldS R.st c = L at *
      have hLm := own_max ho6
      unfold maxLen at hLm
      refine wp_loop (SamJ w6 bm br c a5 a6 L.length k5 k6) (fun a _ => L.length - (intOf (a.tmps.getD 8 undef)).toNat) ?_ ?_
      · exact SamJ.intro 0 rfl (by omega) (Below.refl _ _)
      · rintro a W7 ⟨k, u, rfl, hk, hB7⟩
        by_cases hlk : k < L.length
        · obtain ⟨g5, rfl⟩ := own_someR ho5' (by omega)
          obtain ⟨g6, rfl⟩ := own_someR ho6 (by omega)
          have q5 := hl_at (own_below6 ho5' (hB7.mono (Nat.le_refl _))) hlk
          have q6 := hl_at (own_below6 ho6 (hB7.mono (Nat.le_refl _))) hlk
          generalize L.getD k 0 = x at q5 q6
          go_wp2
          refine wp_region_noPanic ?_
          refine wp_region_held_drew (S := fun W => W.cell? ⟨g5, k, none⟩ = some (.int .i64 x) ∧ W.cell? ⟨g6, k, none⟩ = some (.int .i64 x)) (by kernel_rfl) ?_ (fun hHeld => ?_)
          · exact ⟨q5, q6⟩
          iterate 9 (first | (refine np_sn ?_; (try simp only [nSO])) | ((first | refine np_n ?_ ?_ ?_ | refine np_t 0 ?_ ?_ ?_); rotate_left 1; (· (intro w hSw; (try dsimp only at hSw); go_simp; all_goals with_reducible rfl)); (try simp only [nSO])))
          refine wpAnyH_done (by kernel_rfl) ?_ _
          refine NoPanic.normal ?_
          go_wp2
          exact ⟨SamJ.intro (k + 1) (by first | rfl | (simp; done)) (by omega) (by first | exact hB7.drew | exact hB7), by simp [intOf]; omega⟩
        · obtain rfl : k = L.length := by omega
          go_wp2
          exact ⟨SamI.intro (c + 1) (by first | rfl | (simp; done)) (by omega) (by omega) (hB6.trans (hB7.mono hB6.size)), by simp [intOf]; omega⟩
    · have dl : decide (c ≤ (n : Int)) = false := by simpa using hlt
      go_wp2
      go_returns
      exact ⟨rfl, hB⟩
end Go.Proofs.YtlealeecmmpckaaGreat
namespace Go.Proofs.YtlealeecmmpckaaGreat
set_option linter.unusedVariables false
set_option linter.unusedSimpArgs false
set_option maxRecDepth 100000
set_option maxHeartbeats 8000000
open Go.RowKit Go.Lib Go.Shelf
attribute [local go_sem, local simp] resF resL_len resL_ne rset0 rset1 rset2 rset3 rset4 rset5
def RPost (b : Nat) (w : World) (x : ResV × MS) (R : RM) (e : Ending) (w' : World) : Prop := e = .returned (.agg (resL x.1).toArray) ∧ ∃ R', RdAt w' b R' ∧ R'.st = x.2 ∧ KeepF (R.fp b) w w' ∧ (∀ k, R'.fp b k → R.fp b k ∨ w.heap.size ≤ k)
theorem RdAt.row {W : World} {b g : Nat} {M : RM} {cs : Array Value} (h : RdAt W b M) (hg : W.heap[g]? = some (.cells cs 36 (0, 0))) (r : Array Value) : RdAt (W.setRow g r) b M := by
  have hk : ∀ k, k < W.heap.size → k ≠ g → (W.setRow g r).heap[k]? = W.heap[k]? := fun k _ hk => setRow_other _ _ _ _ hk
  have hbg : b ≠ g := fun e => by subst e; have := h.blk; rw [hg] at this; injection this with this; injection this with _ h2 _; exact absurd h2 (by decide)
  exact ⟨(hk b (Array.getElem?_eq_some_iff.1 h.blk).1 hbg).trans h.blk, own_keep h.marks hg (by decide) hk, own_keep h.subs hg (by decide) hk, own_keep h.snaps hg (by decide) hk, fun S hS => own_keep (h.slots S hS) hg (by decide) hk, fun S hS x hx => own_keep (h.smarks S hS x hx) hg (by decide) hk, h.some_, h.nodup⟩
theorem RdAt.f {W : World} {b : Nat} {M : RM} (h : RdAt W b M) (i : Nat) : W.frozen? ⟨b, i, none⟩ = false := by simp [World.frozen?, h.blk]
theorem RdAt.setMarks {W : World} {b : Nat} {M : RM} (h : RdAt W b M) {v : Value} {l : List MkV} (hl : MOwn W 0 v l) : RdAt (W.setCell ⟨b, 3, none⟩ v) b { M with mv := v, marks := l } :=
  h.upd (by have := blk_set h.blk 3 v; exact this) (fun k _ hk => setCell_ne _ _ _ _ hk) (own_keep hl h.blk (by decide) (fun k _ hk => setCell_ne _ _ _ _ hk)) rfl rfl rfl
theorem RdAt.setText {W : World} {b : Nat} {M : RM} (h : RdAt W b M) (t : ByteArray) : RdAt (W.setCell ⟨b, 2, none⟩ (.string t)) b { M with text := t } :=
  h.upd (by have := blk_set h.blk 2 (.string t); exact this) (fun k _ hk => setCell_ne _ _ _ _ hk) (own_keep h.marks h.blk (by decide) (fun k _ hk => setCell_ne _ _ _ _ hk)) rfl rfl rfl
theorem RdAt.setNum {W : World} {b : Nat} {M : RM} (h : RdAt W b M) (x : Int) : RdAt (W.setCell ⟨b, 4, none⟩ (.int .i64 x)) b { M with number := x } :=
  h.upd (by have := blk_set h.blk 4 (.int .i64 x); exact this) (fun k _ hk => setCell_ne _ _ _ _ hk) (own_keep h.marks h.blk (by decide) (fun k _ hk => setCell_ne _ _ _ _ hk)) rfl rfl rfl
theorem RdAt.setShut {W : World} {b : Nat} {M : RM} (h : RdAt W b M) (x : Bool) : RdAt (W.setCell ⟨b, 5, none⟩ (.bool x)) b { M with closed := x } :=
  h.upd (by have := blk_set h.blk 5 (.bool x); exact this) (fun k _ hk => setCell_ne _ _ _ _ hk) (own_keep h.marks h.blk (by decide) (fun k _ hk => setCell_ne _ _ _ _ hk)) rfl rfl rfl
end Go.Proofs.YtlealeecmmpckaaGreat
