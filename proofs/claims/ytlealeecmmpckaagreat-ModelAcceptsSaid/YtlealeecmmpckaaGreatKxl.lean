/- The texts RaN RbK RbL. -/
import Derived.Test.YtlealeecmmpckaaGreatKxe
import Derived.Test.YtlealeecmmpckaaGreatKxa
import Derived.Test.YtlealeecmmpckaaGreatKxi
namespace Go.Proofs.YtlealeecmmpckaaGreat
set_option linter.unusedVariables false
set_option linter.unusedSimpArgs false
set_option maxRecDepth 100000
set_option maxHeartbeats 8000000
open Go.RowKit Go.Lib Go.Shelf
theorem rstat_any (b : Nat) (M : RM) (c : Int) (o : OpV) (w : World) (h : RdAt w b M) : Calls Tryz.prog 57 #[.pointer (some ⟨b, 0, none⟩), .int .i64 c, o.v] w fun r w' => r = .returned (.int .i64 (statE M.st c o)) ∧ Below w.heap.size w w' := by
  have c0 : w.cell? ⟨b, 0, none⟩ = some (.int .i64 M.seats.length) := by simp [World.cell?, h.blk, rdL]
  have c0' := fun x => Lib.cell?_alloc_some x c0
  have hb1 := fun (o1 : Obj) => (Below.refl w.heap.size w).alloc (Nat.le_refl _) o1
  have hop := fun W => refOp_any o W
  have hlen : M.st.seats.length = M.seats.length := by simp [RM.st]
  by_cases h0 : c < 0 ∨ (M.seats.length : Int) ≤ c
  · have hs : statE M.st c o = 3 := by unfold statE; rw [hlen, if_pos h0]
    have HS := Lib.hid hs; clear hs
    rcases h0 with h0 | h0
    · have d1 : decide (c < 0) = true := by simpa using h0
      clear h0
      go_enter Tryz.func57, Tryz.ntmps57
      go_wp2
      go_ret
      exact ⟨by rw [HS.out]; rfl, hb1 _⟩
    · have d1 : decide (c < 0) = false := by simp; omega
      have d2 : decide ((M.seats.length : Int) ≤ c) = true := by simpa using h0
      clear h0
      go_enter Tryz.func57, Tryz.ntmps57
      go_wp2
      go_ret
      exact ⟨by rw [HS.out]; rfl, hb1 _⟩
  · have hs : statE M.st c o = opE o := by unfold statE; rw [hlen, if_neg h0]
    have HS := Lib.hid hs; clear hs
    have d1 : decide (c < 0) = false := by simp; omega
    have d2 : decide ((M.seats.length : Int) ≤ c) = false := by simp; omega
    clear h0
    unfold OpV.v at hop ⊢
    go_enter Tryz.func57, Tryz.ntmps57
    go_wp2_with (go_at_call 92; refine (hop _).mono ?_; rintro e w1 ⟨rfl, hB1⟩)
    go_ret
    exact ⟨by rw [HS.out]; rfl, (hb1 _).trans (hB1.mono (hb1 _).size)⟩
end Go.Proofs.YtlealeecmmpckaaGreat
namespace Go.Proofs.YtlealeecmmpckaaGreat
set_option linter.unusedVariables false
set_option linter.unusedSimpArgs false
set_option maxRecDepth 100000
set_option maxHeartbeats 8000000
open Go.RowKit Go.Lib Go.Shelf
attribute [local go_sem, local simp] resF resL_len resL_ne rset0 rset1 rset2 rset3 rset4 rset5
theorem RdAt.fp_lt {W : World} {b k : Nat} {M : RM} (h : RdAt W b M) (hk : M.fp b k) : k < W.heap.size := by
  rcases hk with rfl | hk | ⟨S, hS, hk⟩
  · exact (Array.getElem?_eq_some_iff.1 h.blk).1
  · exact own_blk h.subs hk
  · exact own_blk (h.slots S hS) hk
theorem RdS.bd {w W : World} {o : OpV} {b c : Nat} {M : RM} {S : SeM} {gs cs g cp gb cb : Nat} {cur : Array Value} (h : RdS w o b c M S gs cs g cp gb cb cur W) : W.cell? ⟨b, 4, none⟩ = some (.int .i64 M.number) ∧ W.cell? ⟨b, 5, none⟩ = some (.bool M.closed) ∧ W.cell? ⟨b, 6, none⟩ = some (.slice (some ⟨gb, 0, none⟩) M.seats.length cb) ∧ W.cell? ⟨gb, c, none⟩ = some (.bool S.sub) ∧ W.frozen? ⟨gb, c, none⟩ = false := ⟨h.hM.cs.2.2.2.2.1, h.hM.cs.2.2.2.2.2.1, h.hM.c6 h.hA.bv, h.hA.b0, h.hA.bf⟩
theorem RdS.gbne {w W : World} {o : OpV} {b c : Nat} {M : RM} {S : SeM} {gs cs g cp gb cb : Nat} {cur : Array Value} (h : RdS w o b c M S gs cs g cp gb cb cur W) : w.heap.size + 1 ≠ gb ∧ w.heap.size + 1 ≠ b := by
  obtain ⟨_, h1⟩ := h.hA.bblk
  refine ⟨fun e => ?_, fun e => ?_⟩
  · have h2 := h.hE.res; rw [e, h1] at h2; injection h2 with h2; injection h2 with _ h3 _; exact absurd h3 (by decide)
  · have h2 := h.hE.res; rw [e, h.hM.blk] at h2; injection h2 with h2; injection h2 with _ h3 _; exact absurd h3 (by decide)
theorem rdo_shut_1 (b c : Nat) (M : RM) (sl p n id grav : Int) (t : ByteArray) (w : World) (h : RdAt w b M) (S : SeM) (hS : M.seats[c]? = some S) (hst0 : statE M.st c ⟨1, sl, p, n, id, grav, t⟩ = 0) (hs : M.closed = true) :
    Calls Tryz.prog 23 #[.pointer (some ⟨b, 0, none⟩), .int .i64 (c : Int), .agg #[.int .u8 1, .int .i64 sl, .int .i64 p, .int .i64 n, .int .u32 id, .int .u8 grav, .string t]] w (RPost b w (failR 13, M.st) M) := by
  obtain ⟨gs, cs, g, cp, gb, cb, cur, hD0⟩ := RdS.start w ⟨1, sl, p, n, id, grav, t⟩ h hS
  obtain ⟨hc, _⟩ := List.getElem?_eq_some_iff.1 hS
  have hsta := rstat_any b M c ⟨1, sl, p, n, id, grav, t⟩ _ hD0.hM
  rw [hst0] at hsta
  unfold OpV.v at hsta
  dsimp only at hsta
  have hfp := fun k (hk : M.fp b k) => h.fp_lt hk
  clear hst0
  go_enter Tryz.func23, Tryz.ntmps23
  go_wp2_with (first | (go_at_call 57; refine hsta.mono ?_; rintro e w1 ⟨rfl, hb1⟩; have hD1 := hD0.on hb1; obtain ⟨y0, y1, y2, y3, y4, y5, y6⟩ := hD1.hE.o7; obtain ⟨k4, k5, k6, kb, kf⟩ := hD1.bd; rw [hs] at k5; clear hsta) | (go_at_call 56; refine (rfail_any _ _).mono ?_; rintro e v7 ⟨rfl, hb7⟩; have hD7 := hD1.on hb7; have hst := res_st hD7.hE.res rfl))
  exact ⟨rfl, _, results_cell_row rfl _ _ _ _ _ _ _ rfl (setRow_heap _ _ _ _ _ _ hD7.hE.res) Tryz.underlying36 rfl (by kernel_rfl), hD7.closeF _ _⟩
theorem rdo_shut_2 (b c : Nat) (M : RM) (sl p n id grav : Int) (t : ByteArray) (w : World) (h : RdAt w b M) (S : SeM) (hS : M.seats[c]? = some S) (hst0 : statE M.st c ⟨2, sl, p, n, id, grav, t⟩ = 0) (hs : M.closed = true) :
    Calls Tryz.prog 23 #[.pointer (some ⟨b, 0, none⟩), .int .i64 (c : Int), .agg #[.int .u8 2, .int .i64 sl, .int .i64 p, .int .i64 n, .int .u32 id, .int .u8 grav, .string t]] w (RPost b w (failR 13, M.st) M) := by
  obtain ⟨gs, cs, g, cp, gb, cb, cur, hD0⟩ := RdS.start w ⟨2, sl, p, n, id, grav, t⟩ h hS
  obtain ⟨hc, _⟩ := List.getElem?_eq_some_iff.1 hS
  have hsta := rstat_any b M c ⟨2, sl, p, n, id, grav, t⟩ _ hD0.hM
  rw [hst0] at hsta
  unfold OpV.v at hsta
  dsimp only at hsta
  have hfp := fun k (hk : M.fp b k) => h.fp_lt hk
  clear hst0
  go_enter Tryz.func23, Tryz.ntmps23
  go_wp2_with (first | (go_at_call 57; refine hsta.mono ?_; rintro e w1 ⟨rfl, hb1⟩; have hD1 := hD0.on hb1; obtain ⟨y0, y1, y2, y3, y4, y5, y6⟩ := hD1.hE.o7; obtain ⟨k4, k5, k6, kb, kf⟩ := hD1.bd; rw [hs] at k5; clear hsta) | (go_at_call 56; refine (rfail_any _ _).mono ?_; rintro e v7 ⟨rfl, hb7⟩; have hD7 := hD1.on hb7; have hst := res_st hD7.hE.res rfl))
  exact ⟨rfl, _, results_cell_row rfl _ _ _ _ _ _ _ rfl (setRow_heap _ _ _ _ _ _ hD7.hE.res) Tryz.underlying36 rfl (by kernel_rfl), hD7.closeF _ _⟩
theorem rdo_shut_3 (b c : Nat) (M : RM) (sl p n id grav : Int) (t : ByteArray) (w : World) (h : RdAt w b M) (S : SeM) (hS : M.seats[c]? = some S) (hst0 : statE M.st c ⟨3, sl, p, n, id, grav, t⟩ = 0) (hs : M.closed = true) :
    Calls Tryz.prog 23 #[.pointer (some ⟨b, 0, none⟩), .int .i64 (c : Int), .agg #[.int .u8 3, .int .i64 sl, .int .i64 p, .int .i64 n, .int .u32 id, .int .u8 grav, .string t]] w (RPost b w (failR 13, M.st) M) := by
  obtain ⟨gs, cs, g, cp, gb, cb, cur, hD0⟩ := RdS.start w ⟨3, sl, p, n, id, grav, t⟩ h hS
  obtain ⟨hc, _⟩ := List.getElem?_eq_some_iff.1 hS
  have hsta := rstat_any b M c ⟨3, sl, p, n, id, grav, t⟩ _ hD0.hM
  rw [hst0] at hsta
  unfold OpV.v at hsta
  dsimp only at hsta
  have hfp := fun k (hk : M.fp b k) => h.fp_lt hk
  clear hst0
  go_enter Tryz.func23, Tryz.ntmps23
  go_wp2_with (first | (go_at_call 57; refine hsta.mono ?_; rintro e w1 ⟨rfl, hb1⟩; have hD1 := hD0.on hb1; obtain ⟨y0, y1, y2, y3, y4, y5, y6⟩ := hD1.hE.o7; obtain ⟨k4, k5, k6, kb, kf⟩ := hD1.bd; rw [hs] at k5; clear hsta) | (go_at_call 56; refine (rfail_any _ _).mono ?_; rintro e v7 ⟨rfl, hb7⟩; have hD7 := hD1.on hb7; have hst := res_st hD7.hE.res rfl))
  exact ⟨rfl, _, results_cell_row rfl _ _ _ _ _ _ _ rfl (setRow_heap _ _ _ _ _ _ hD7.hE.res) Tryz.underlying36 rfl (by kernel_rfl), hD7.closeF _ _⟩
theorem rdo_shut_4 (b c : Nat) (M : RM) (sl p n id grav : Int) (t : ByteArray) (w : World) (h : RdAt w b M) (S : SeM) (hS : M.seats[c]? = some S) (hst0 : statE M.st c ⟨4, sl, p, n, id, grav, t⟩ = 0) (hs : M.closed = true) :
    Calls Tryz.prog 23 #[.pointer (some ⟨b, 0, none⟩), .int .i64 (c : Int), .agg #[.int .u8 4, .int .i64 sl, .int .i64 p, .int .i64 n, .int .u32 id, .int .u8 grav, .string t]] w (RPost b w (failR 13, M.st) M) := by
  obtain ⟨gs, cs, g, cp, gb, cb, cur, hD0⟩ := RdS.start w ⟨4, sl, p, n, id, grav, t⟩ h hS
  obtain ⟨hc, _⟩ := List.getElem?_eq_some_iff.1 hS
  have hsta := rstat_any b M c ⟨4, sl, p, n, id, grav, t⟩ _ hD0.hM
  rw [hst0] at hsta
  unfold OpV.v at hsta
  dsimp only at hsta
  have hfp := fun k (hk : M.fp b k) => h.fp_lt hk
  clear hst0
  go_enter Tryz.func23, Tryz.ntmps23
  go_wp2_with (first | (go_at_call 57; refine hsta.mono ?_; rintro e w1 ⟨rfl, hb1⟩; have hD1 := hD0.on hb1; obtain ⟨y0, y1, y2, y3, y4, y5, y6⟩ := hD1.hE.o7; obtain ⟨k4, k5, k6, kb, kf⟩ := hD1.bd; rw [hs] at k5; clear hsta) | (go_at_call 56; refine (rfail_any _ _).mono ?_; rintro e v7 ⟨rfl, hb7⟩; have hD7 := hD1.on hb7; have hst := res_st hD7.hE.res rfl))
  exact ⟨rfl, _, results_cell_row rfl _ _ _ _ _ _ _ rfl (setRow_heap _ _ _ _ _ _ hD7.hE.res) Tryz.underlying36 rfl (by kernel_rfl), hD7.closeF _ _⟩
theorem rdo_shut_5 (b c : Nat) (M : RM) (sl p n id grav : Int) (t : ByteArray) (w : World) (h : RdAt w b M) (S : SeM) (hS : M.seats[c]? = some S) (hst0 : statE M.st c ⟨5, sl, p, n, id, grav, t⟩ = 0) (hs : M.closed = true) :
    Calls Tryz.prog 23 #[.pointer (some ⟨b, 0, none⟩), .int .i64 (c : Int), .agg #[.int .u8 5, .int .i64 sl, .int .i64 p, .int .i64 n, .int .u32 id, .int .u8 grav, .string t]] w (RPost b w (failR 13, M.st) M) := by
  obtain ⟨gs, cs, g, cp, gb, cb, cur, hD0⟩ := RdS.start w ⟨5, sl, p, n, id, grav, t⟩ h hS
  obtain ⟨hc, _⟩ := List.getElem?_eq_some_iff.1 hS
  have hsta := rstat_any b M c ⟨5, sl, p, n, id, grav, t⟩ _ hD0.hM
  rw [hst0] at hsta
  unfold OpV.v at hsta
  dsimp only at hsta
  have hfp := fun k (hk : M.fp b k) => h.fp_lt hk
  clear hst0
  go_enter Tryz.func23, Tryz.ntmps23
  go_wp2_with (first | (go_at_call 57; refine hsta.mono ?_; rintro e w1 ⟨rfl, hb1⟩; have hD1 := hD0.on hb1; obtain ⟨y0, y1, y2, y3, y4, y5, y6⟩ := hD1.hE.o7; obtain ⟨k4, k5, k6, kb, kf⟩ := hD1.bd; rw [hs] at k5; clear hsta) | (go_at_call 56; refine (rfail_any _ _).mono ?_; rintro e v7 ⟨rfl, hb7⟩; have hD7 := hD1.on hb7; have hst := res_st hD7.hE.res rfl))
  exact ⟨rfl, _, results_cell_row rfl _ _ _ _ _ _ _ rfl (setRow_heap _ _ _ _ _ _ hD7.hE.res) Tryz.underlying36 rfl (by kernel_rfl), hD7.closeF _ _⟩
theorem rdo_shut_16 (b c : Nat) (M : RM) (sl p n id grav : Int) (t : ByteArray) (w : World) (h : RdAt w b M) (S : SeM) (hS : M.seats[c]? = some S) (hst0 : statE M.st c ⟨16, sl, p, n, id, grav, t⟩ = 0) (hs : M.closed = true) :
    Calls Tryz.prog 23 #[.pointer (some ⟨b, 0, none⟩), .int .i64 (c : Int), .agg #[.int .u8 16, .int .i64 sl, .int .i64 p, .int .i64 n, .int .u32 id, .int .u8 grav, .string t]] w (RPost b w (failR 13, M.st) M) := by
  obtain ⟨gs, cs, g, cp, gb, cb, cur, hD0⟩ := RdS.start w ⟨16, sl, p, n, id, grav, t⟩ h hS
  obtain ⟨hc, _⟩ := List.getElem?_eq_some_iff.1 hS
  have hsta := rstat_any b M c ⟨16, sl, p, n, id, grav, t⟩ _ hD0.hM
  rw [hst0] at hsta
  unfold OpV.v at hsta
  dsimp only at hsta
  have hfp := fun k (hk : M.fp b k) => h.fp_lt hk
  clear hst0
  go_enter Tryz.func23, Tryz.ntmps23
  go_wp2_with (first | (go_at_call 57; refine hsta.mono ?_; rintro e w1 ⟨rfl, hb1⟩; have hD1 := hD0.on hb1; obtain ⟨y0, y1, y2, y3, y4, y5, y6⟩ := hD1.hE.o7; obtain ⟨k4, k5, k6, kb, kf⟩ := hD1.bd; rw [hs] at k5; clear hsta) | (go_at_call 56; refine (rfail_any _ _).mono ?_; rintro e v7 ⟨rfl, hb7⟩; have hD7 := hD1.on hb7; have hst := res_st hD7.hE.res rfl))
  exact ⟨rfl, _, results_cell_row rfl _ _ _ _ _ _ _ rfl (setRow_heap _ _ _ _ _ _ hD7.hE.res) Tryz.underlying36 rfl (by kernel_rfl), hD7.closeF _ _⟩
theorem rdo_shut_14 (b c : Nat) (M : RM) (sl p n id grav : Int) (t : ByteArray) (w : World) (h : RdAt w b M) (S : SeM) (hS : M.seats[c]? = some S) (hst0 : statE M.st c ⟨14, sl, p, n, id, grav, t⟩ = 0) (hb : S.sub = false) (hs : M.closed = true) :
    Calls Tryz.prog 23 #[.pointer (some ⟨b, 0, none⟩), .int .i64 (c : Int), .agg #[.int .u8 14, .int .i64 sl, .int .i64 p, .int .i64 n, .int .u32 id, .int .u8 grav, .string t]] w (RPost b w (failR 13, M.st) M) := by
  obtain ⟨gs, cs, g, cp, gb, cb, cur, hD0⟩ := RdS.start w ⟨14, sl, p, n, id, grav, t⟩ h hS
  obtain ⟨hc, _⟩ := List.getElem?_eq_some_iff.1 hS
  have hsta := rstat_any b M c ⟨14, sl, p, n, id, grav, t⟩ _ hD0.hM
  rw [hst0] at hsta
  unfold OpV.v at hsta
  dsimp only at hsta
  have hfp := fun k (hk : M.fp b k) => h.fp_lt hk
  clear hst0
  go_enter Tryz.func23, Tryz.ntmps23
  go_wp2_with (first | (go_at_call 57; refine hsta.mono ?_; rintro e w1 ⟨rfl, hb1⟩; have hD1 := hD0.on hb1; obtain ⟨y0, y1, y2, y3, y4, y5, y6⟩ := hD1.hE.o7; obtain ⟨k4, k5, k6, kb, kf⟩ := hD1.bd; rw [hs] at k5; rw [hb] at kb; clear hsta) | (go_at_call 56; refine (rfail_any _ _).mono ?_; rintro e v7 ⟨rfl, hb7⟩; have hD7 := hD1.on hb7; have hst := res_st hD7.hE.res rfl))
  exact ⟨rfl, _, results_cell_row rfl _ _ _ _ _ _ _ rfl (setRow_heap _ _ _ _ _ _ hD7.hE.res) Tryz.underlying36 rfl (by kernel_rfl), hD7.closeF _ _⟩
theorem rdo_shut_15 (b c : Nat) (M : RM) (sl p n id grav : Int) (t : ByteArray) (w : World) (h : RdAt w b M) (S : SeM) (hS : M.seats[c]? = some S) (hst0 : statE M.st c ⟨15, sl, p, n, id, grav, t⟩ = 0) (hb : S.sub = true) (hs : M.closed = true) :
    Calls Tryz.prog 23 #[.pointer (some ⟨b, 0, none⟩), .int .i64 (c : Int), .agg #[.int .u8 15, .int .i64 sl, .int .i64 p, .int .i64 n, .int .u32 id, .int .u8 grav, .string t]] w (RPost b w (failR 13, M.st) M) := by
  obtain ⟨gs, cs, g, cp, gb, cb, cur, hD0⟩ := RdS.start w ⟨15, sl, p, n, id, grav, t⟩ h hS
  obtain ⟨hc, _⟩ := List.getElem?_eq_some_iff.1 hS
  have hsta := rstat_any b M c ⟨15, sl, p, n, id, grav, t⟩ _ hD0.hM
  rw [hst0] at hsta
  unfold OpV.v at hsta
  dsimp only at hsta
  have hfp := fun k (hk : M.fp b k) => h.fp_lt hk
  clear hst0
  go_enter Tryz.func23, Tryz.ntmps23
  go_wp2_with (first | (go_at_call 57; refine hsta.mono ?_; rintro e w1 ⟨rfl, hb1⟩; have hD1 := hD0.on hb1; obtain ⟨y0, y1, y2, y3, y4, y5, y6⟩ := hD1.hE.o7; obtain ⟨k4, k5, k6, kb, kf⟩ := hD1.bd; rw [hs] at k5; rw [hb] at kb; clear hsta) | (go_at_call 56; refine (rfail_any _ _).mono ?_; rintro e v7 ⟨rfl, hb7⟩; have hD7 := hD1.on hb7; have hst := res_st hD7.hE.res rfl))
  exact ⟨rfl, _, results_cell_row rfl _ _ _ _ _ _ _ rfl (setRow_heap _ _ _ _ _ _ hD7.hE.res) Tryz.underlying36 rfl (by kernel_rfl), hD7.closeF _ _⟩
theorem rdo_14_sub (b c : Nat) (M : RM) (sl p n id grav : Int) (t : ByteArray) (w : World) (h : RdAt w b M) (S : SeM) (hS : M.seats[c]? = some S) (hst0 : statE M.st c ⟨14, sl, p, n, id, grav, t⟩ = 0) (hb : S.sub = true) :
    Calls Tryz.prog 23 #[.pointer (some ⟨b, 0, none⟩), .int .i64 (c : Int), .agg #[.int .u8 14, .int .i64 sl, .int .i64 p, .int .i64 n, .int .u32 id, .int .u8 grav, .string t]] w (RPost b w (failR 18, M.st) M) := by
  obtain ⟨gs, cs, g, cp, gb, cb, cur, hD0⟩ := RdS.start w ⟨14, sl, p, n, id, grav, t⟩ h hS
  obtain ⟨hc, _⟩ := List.getElem?_eq_some_iff.1 hS
  have hsta := rstat_any b M c ⟨14, sl, p, n, id, grav, t⟩ _ hD0.hM
  rw [hst0] at hsta
  unfold OpV.v at hsta
  dsimp only at hsta
  have hfp := fun k (hk : M.fp b k) => h.fp_lt hk
  clear hst0
  go_enter Tryz.func23, Tryz.ntmps23
  go_wp2_with (first | (go_at_call 57; refine hsta.mono ?_; rintro e w1 ⟨rfl, hb1⟩; have hD1 := hD0.on hb1; obtain ⟨y0, y1, y2, y3, y4, y5, y6⟩ := hD1.hE.o7; obtain ⟨k4, k5, k6, kb, kf⟩ := hD1.bd; rw [hb] at kb; clear hsta) | (go_at_call 56; refine (rfail_any _ _).mono ?_; rintro e v7 ⟨rfl, hb7⟩; have hD7 := hD1.on hb7; have hst := res_st hD7.hE.res rfl))
  exact ⟨rfl, _, results_cell_row rfl _ _ _ _ _ _ _ rfl (setRow_heap _ _ _ _ _ _ hD7.hE.res) Tryz.underlying36 rfl (by kernel_rfl), hD7.closeF _ _⟩
theorem rdo_15_no (b c : Nat) (M : RM) (sl p n id grav : Int) (t : ByteArray) (w : World) (h : RdAt w b M) (S : SeM) (hS : M.seats[c]? = some S) (hst0 : statE M.st c ⟨15, sl, p, n, id, grav, t⟩ = 0) (hb : S.sub = false) :
    Calls Tryz.prog 23 #[.pointer (some ⟨b, 0, none⟩), .int .i64 (c : Int), .agg #[.int .u8 15, .int .i64 sl, .int .i64 p, .int .i64 n, .int .u32 id, .int .u8 grav, .string t]] w (RPost b w (failR 19, M.st) M) := by
  obtain ⟨gs, cs, g, cp, gb, cb, cur, hD0⟩ := RdS.start w ⟨15, sl, p, n, id, grav, t⟩ h hS
  obtain ⟨hc, _⟩ := List.getElem?_eq_some_iff.1 hS
  have hsta := rstat_any b M c ⟨15, sl, p, n, id, grav, t⟩ _ hD0.hM
  rw [hst0] at hsta
  unfold OpV.v at hsta
  dsimp only at hsta
  have hfp := fun k (hk : M.fp b k) => h.fp_lt hk
  clear hst0
  go_enter Tryz.func23, Tryz.ntmps23
  go_wp2_with (first | (go_at_call 57; refine hsta.mono ?_; rintro e w1 ⟨rfl, hb1⟩; have hD1 := hD0.on hb1; obtain ⟨y0, y1, y2, y3, y4, y5, y6⟩ := hD1.hE.o7; obtain ⟨k4, k5, k6, kb, kf⟩ := hD1.bd; rw [hb] at kb; clear hsta) | (go_at_call 56; refine (rfail_any _ _).mono ?_; rintro e v7 ⟨rfl, hb7⟩; have hD7 := hD1.on hb7; have hst := res_st hD7.hE.res rfl))
  exact ⟨rfl, _, results_cell_row rfl _ _ _ _ _ _ _ rfl (setRow_heap _ _ _ _ _ _ hD7.hE.res) Tryz.underlying36 rfl (by kernel_rfl), hD7.closeF _ _⟩
theorem rdo_15_yes (b c : Nat) (M : RM) (sl p n id grav : Int) (t : ByteArray) (w : World) (h : RdAt w b M) (S : SeM) (hS : M.seats[c]? = some S) (hst0 : statE M.st c ⟨15, sl, p, n, id, grav, t⟩ = 0) (hb : S.sub = true) (hs : M.closed = false) :
    Calls Tryz.prog 23 #[.pointer (some ⟨b, 0, none⟩), .int .i64 (c : Int), .agg #[.int .u8 15, .int .i64 sl, .int .i64 p, .int .i64 n, .int .u32 id, .int .u8 grav, .string t]] w (RPost b w (failR 17, M.st) M) := by
  obtain ⟨gs, cs, g, cp, gb, cb, cur, hD0⟩ := RdS.start w ⟨15, sl, p, n, id, grav, t⟩ h hS
  obtain ⟨hc, _⟩ := List.getElem?_eq_some_iff.1 hS
  have hsta := rstat_any b M c ⟨15, sl, p, n, id, grav, t⟩ _ hD0.hM
  rw [hst0] at hsta
  unfold OpV.v at hsta
  dsimp only at hsta
  have hfp := fun k (hk : M.fp b k) => h.fp_lt hk
  clear hst0
  go_enter Tryz.func23, Tryz.ntmps23
  go_wp2_with (first | (go_at_call 57; refine hsta.mono ?_; rintro e w1 ⟨rfl, hb1⟩; have hD1 := hD0.on hb1; obtain ⟨y0, y1, y2, y3, y4, y5, y6⟩ := hD1.hE.o7; obtain ⟨k4, k5, k6, kb, kf⟩ := hD1.bd; rw [hs] at k5; rw [hb] at kb; clear hsta) | (go_at_call 56; refine (rfail_any _ _).mono ?_; rintro e v7 ⟨rfl, hb7⟩; have hD7 := hD1.on hb7; have hst := res_st hD7.hE.res rfl))
  exact ⟨rfl, _, results_cell_row rfl _ _ _ _ _ _ _ rfl (setRow_heap _ _ _ _ _ _ hD7.hE.res) Tryz.underlying36 rfl (by kernel_rfl), hD7.closeF _ _⟩
end Go.Proofs.YtlealeecmmpckaaGreat
namespace Go.Proofs.YtlealeecmmpckaaGreat
set_option linter.unusedVariables false
set_option linter.unusedSimpArgs false
set_option maxRecDepth 100000
set_option maxHeartbeats 8000000
open Go.RowKit Go.Lib Go.Shelf
attribute [local go_sem, local simp] resF resL_len resL_ne rset0 rset1 rset2 rset3 rset4 rset5
theorem rdo_1 (b c : Nat) (M : RM) (sl p n id grav : Int) (t : ByteArray) (w : World) (h : RdAt w b M) (S : SeM) (hS : M.seats[c]? = some S) (hst0 : statE M.st c ⟨1, sl, p, n, id, grav, t⟩ = 0) (hs : M.closed = false) (x : ResV × MS) (hcall : ∀ W, RdAt W b M → Calls Tryz.prog 59 #[.pointer (some ⟨b, 0, none⟩), .agg #[.int .u8 1, .int .i64 sl, .int .i64 p, .int .i64 n, .int .u32 id, .int .u8 grav, .string t]] W (RPost b W x M)) :
    Calls Tryz.prog 23 #[.pointer (some ⟨b, 0, none⟩), .int .i64 (c : Int), .agg #[.int .u8 1, .int .i64 sl, .int .i64 p, .int .i64 n, .int .u32 id, .int .u8 grav, .string t]] w (RPost b w x M) := by
  obtain ⟨gs, cs, g, cp, gb, cb, cur, hD0⟩ := RdS.start w ⟨1, sl, p, n, id, grav, t⟩ h hS
  obtain ⟨hc, _⟩ := List.getElem?_eq_some_iff.1 hS
  have hsta := rstat_any b M c ⟨1, sl, p, n, id, grav, t⟩ _ hD0.hM
  rw [hst0] at hsta
  unfold OpV.v at hsta
  dsimp only at hsta
  have hfp := fun k (hk : M.fp b k) => h.fp_lt hk
  clear hst0
  have HC := Lib.hid hcall
  clear hcall
  go_enter Tryz.func23, Tryz.ntmps23
  go_wp2_with (first | (go_at_call 57; refine hsta.mono ?_; rintro e w1 ⟨rfl, hb1⟩; have hD1 := hD0.on hb1; obtain ⟨y0, y1, y2, y3, y4, y5, y6⟩ := hD1.hE.o7; obtain ⟨k4, k5, k6, kb, kf⟩ := hD1.bd; rw [hs] at k5; clear hsta) | (go_at_call 59; refine (HC.out _ hD1.hM).mono ?_; rintro e w9 ⟨rfl, M', hM', hst', hK', hfp'⟩; have hz9 := (hK'.block _ (Array.getElem?_eq_some_iff.1 hD1.hE.res).1 (fun hk => absurd (hfp _ hk) (by omega))).trans hD1.hE.res; have hst := res_st hz9 rfl))
  exact ⟨rfl, _, results_cell_row rfl _ _ _ _ _ _ _ rfl (setRow_heap _ _ _ _ _ _ hz9) Tryz.underlying36 rfl (by kernel_rfl), rfl, M', hM'.row hz9 _, hst', ((KeepF.of_below hD1.hE.bl).trans hK').row (by omega) _, fun k hk => (hfp' k hk).imp (fun h => h) (fun hk => by have := hD1.hE.bl.size; omega)⟩
theorem rdo_2 (b c : Nat) (M : RM) (sl p n id grav : Int) (t : ByteArray) (w : World) (h : RdAt w b M) (S : SeM) (hS : M.seats[c]? = some S) (hst0 : statE M.st c ⟨2, sl, p, n, id, grav, t⟩ = 0) (hs : M.closed = false) (x : ResV × MS) (hcall : ∀ W, RdAt W b M → Calls Tryz.prog 59 #[.pointer (some ⟨b, 0, none⟩), .agg #[.int .u8 2, .int .i64 sl, .int .i64 p, .int .i64 n, .int .u32 id, .int .u8 grav, .string t]] W (RPost b W x M)) :
    Calls Tryz.prog 23 #[.pointer (some ⟨b, 0, none⟩), .int .i64 (c : Int), .agg #[.int .u8 2, .int .i64 sl, .int .i64 p, .int .i64 n, .int .u32 id, .int .u8 grav, .string t]] w (RPost b w x M) := by
  obtain ⟨gs, cs, g, cp, gb, cb, cur, hD0⟩ := RdS.start w ⟨2, sl, p, n, id, grav, t⟩ h hS
  obtain ⟨hc, _⟩ := List.getElem?_eq_some_iff.1 hS
  have hsta := rstat_any b M c ⟨2, sl, p, n, id, grav, t⟩ _ hD0.hM
  rw [hst0] at hsta
  unfold OpV.v at hsta
  dsimp only at hsta
  have hfp := fun k (hk : M.fp b k) => h.fp_lt hk
  clear hst0
  have HC := Lib.hid hcall
  clear hcall
  go_enter Tryz.func23, Tryz.ntmps23
  go_wp2_with (first | (go_at_call 57; refine hsta.mono ?_; rintro e w1 ⟨rfl, hb1⟩; have hD1 := hD0.on hb1; obtain ⟨y0, y1, y2, y3, y4, y5, y6⟩ := hD1.hE.o7; obtain ⟨k4, k5, k6, kb, kf⟩ := hD1.bd; rw [hs] at k5; clear hsta) | (go_at_call 59; refine (HC.out _ hD1.hM).mono ?_; rintro e w9 ⟨rfl, M', hM', hst', hK', hfp'⟩; have hz9 := (hK'.block _ (Array.getElem?_eq_some_iff.1 hD1.hE.res).1 (fun hk => absurd (hfp _ hk) (by omega))).trans hD1.hE.res; have hst := res_st hz9 rfl))
  exact ⟨rfl, _, results_cell_row rfl _ _ _ _ _ _ _ rfl (setRow_heap _ _ _ _ _ _ hz9) Tryz.underlying36 rfl (by kernel_rfl), rfl, M', hM'.row hz9 _, hst', ((KeepF.of_below hD1.hE.bl).trans hK').row (by omega) _, fun k hk => (hfp' k hk).imp (fun h => h) (fun hk => by have := hD1.hE.bl.size; omega)⟩
theorem rdo_3 (b c : Nat) (M : RM) (sl p n id grav : Int) (t : ByteArray) (w : World) (h : RdAt w b M) (S : SeM) (hS : M.seats[c]? = some S) (hst0 : statE M.st c ⟨3, sl, p, n, id, grav, t⟩ = 0) (hs : M.closed = false) (x : ResV × MS) (hcall : ∀ W, RdAt W b M → Calls Tryz.prog 60 #[.pointer (some ⟨b, 0, none⟩), .agg #[.int .u8 3, .int .i64 sl, .int .i64 p, .int .i64 n, .int .u32 id, .int .u8 grav, .string t]] W (RPost b W x M)) :
    Calls Tryz.prog 23 #[.pointer (some ⟨b, 0, none⟩), .int .i64 (c : Int), .agg #[.int .u8 3, .int .i64 sl, .int .i64 p, .int .i64 n, .int .u32 id, .int .u8 grav, .string t]] w (RPost b w x M) := by
  obtain ⟨gs, cs, g, cp, gb, cb, cur, hD0⟩ := RdS.start w ⟨3, sl, p, n, id, grav, t⟩ h hS
  obtain ⟨hc, _⟩ := List.getElem?_eq_some_iff.1 hS
  have hsta := rstat_any b M c ⟨3, sl, p, n, id, grav, t⟩ _ hD0.hM
  rw [hst0] at hsta
  unfold OpV.v at hsta
  dsimp only at hsta
  have hfp := fun k (hk : M.fp b k) => h.fp_lt hk
  clear hst0
  have HC := Lib.hid hcall
  clear hcall
  go_enter Tryz.func23, Tryz.ntmps23
  go_wp2_with (first | (go_at_call 57; refine hsta.mono ?_; rintro e w1 ⟨rfl, hb1⟩; have hD1 := hD0.on hb1; obtain ⟨y0, y1, y2, y3, y4, y5, y6⟩ := hD1.hE.o7; obtain ⟨k4, k5, k6, kb, kf⟩ := hD1.bd; rw [hs] at k5; clear hsta) | (go_at_call 60; refine (HC.out _ hD1.hM).mono ?_; rintro e w9 ⟨rfl, M', hM', hst', hK', hfp'⟩; have hz9 := (hK'.block _ (Array.getElem?_eq_some_iff.1 hD1.hE.res).1 (fun hk => absurd (hfp _ hk) (by omega))).trans hD1.hE.res; have hst := res_st hz9 rfl))
  exact ⟨rfl, _, results_cell_row rfl _ _ _ _ _ _ _ rfl (setRow_heap _ _ _ _ _ _ hz9) Tryz.underlying36 rfl (by kernel_rfl), rfl, M', hM'.row hz9 _, hst', ((KeepF.of_below hD1.hE.bl).trans hK').row (by omega) _, fun k hk => (hfp' k hk).imp (fun h => h) (fun hk => by have := hD1.hE.bl.size; omega)⟩
theorem rdo_4 (b c : Nat) (M : RM) (sl p n id grav : Int) (t : ByteArray) (w : World) (h : RdAt w b M) (S : SeM) (hS : M.seats[c]? = some S) (hst0 : statE M.st c ⟨4, sl, p, n, id, grav, t⟩ = 0) (hs : M.closed = false) (x : ResV × MS) (hcall : ∀ W, RdAt W b M → Calls Tryz.prog 60 #[.pointer (some ⟨b, 0, none⟩), .agg #[.int .u8 4, .int .i64 sl, .int .i64 p, .int .i64 n, .int .u32 id, .int .u8 grav, .string t]] W (RPost b W x M)) :
    Calls Tryz.prog 23 #[.pointer (some ⟨b, 0, none⟩), .int .i64 (c : Int), .agg #[.int .u8 4, .int .i64 sl, .int .i64 p, .int .i64 n, .int .u32 id, .int .u8 grav, .string t]] w (RPost b w x M) := by
  obtain ⟨gs, cs, g, cp, gb, cb, cur, hD0⟩ := RdS.start w ⟨4, sl, p, n, id, grav, t⟩ h hS
  obtain ⟨hc, _⟩ := List.getElem?_eq_some_iff.1 hS
  have hsta := rstat_any b M c ⟨4, sl, p, n, id, grav, t⟩ _ hD0.hM
  rw [hst0] at hsta
  unfold OpV.v at hsta
  dsimp only at hsta
  have hfp := fun k (hk : M.fp b k) => h.fp_lt hk
  clear hst0
  have HC := Lib.hid hcall
  clear hcall
  go_enter Tryz.func23, Tryz.ntmps23
  go_wp2_with (first | (go_at_call 57; refine hsta.mono ?_; rintro e w1 ⟨rfl, hb1⟩; have hD1 := hD0.on hb1; obtain ⟨y0, y1, y2, y3, y4, y5, y6⟩ := hD1.hE.o7; obtain ⟨k4, k5, k6, kb, kf⟩ := hD1.bd; rw [hs] at k5; clear hsta) | (go_at_call 60; refine (HC.out _ hD1.hM).mono ?_; rintro e w9 ⟨rfl, M', hM', hst', hK', hfp'⟩; have hz9 := (hK'.block _ (Array.getElem?_eq_some_iff.1 hD1.hE.res).1 (fun hk => absurd (hfp _ hk) (by omega))).trans hD1.hE.res; have hst := res_st hz9 rfl))
  exact ⟨rfl, _, results_cell_row rfl _ _ _ _ _ _ _ rfl (setRow_heap _ _ _ _ _ _ hz9) Tryz.underlying36 rfl (by kernel_rfl), rfl, M', hM'.row hz9 _, hst', ((KeepF.of_below hD1.hE.bl).trans hK').row (by omega) _, fun k hk => (hfp' k hk).imp (fun h => h) (fun hk => by have := hD1.hE.bl.size; omega)⟩
theorem rdo_5 (b c : Nat) (M : RM) (sl p n id grav : Int) (t : ByteArray) (w : World) (h : RdAt w b M) (S : SeM) (hS : M.seats[c]? = some S) (hst0 : statE M.st c ⟨5, sl, p, n, id, grav, t⟩ = 0) (hs : M.closed = false) (x : ResV × MS) (hcall : ∀ W, RdAt W b M → Calls Tryz.prog 61 #[.pointer (some ⟨b, 0, none⟩), .int .i64 (c : Int)] W (RPost b W x M)) :
    Calls Tryz.prog 23 #[.pointer (some ⟨b, 0, none⟩), .int .i64 (c : Int), .agg #[.int .u8 5, .int .i64 sl, .int .i64 p, .int .i64 n, .int .u32 id, .int .u8 grav, .string t]] w (RPost b w x M) := by
  obtain ⟨gs, cs, g, cp, gb, cb, cur, hD0⟩ := RdS.start w ⟨5, sl, p, n, id, grav, t⟩ h hS
  obtain ⟨hc, _⟩ := List.getElem?_eq_some_iff.1 hS
  have hsta := rstat_any b M c ⟨5, sl, p, n, id, grav, t⟩ _ hD0.hM
  rw [hst0] at hsta
  unfold OpV.v at hsta
  dsimp only at hsta
  have hfp := fun k (hk : M.fp b k) => h.fp_lt hk
  clear hst0
  have HC := Lib.hid hcall
  clear hcall
  go_enter Tryz.func23, Tryz.ntmps23
  go_wp2_with (first | (go_at_call 57; refine hsta.mono ?_; rintro e w1 ⟨rfl, hb1⟩; have hD1 := hD0.on hb1; obtain ⟨y0, y1, y2, y3, y4, y5, y6⟩ := hD1.hE.o7; obtain ⟨k4, k5, k6, kb, kf⟩ := hD1.bd; rw [hs] at k5; clear hsta) | (go_at_call 61; refine (HC.out _ hD1.hM).mono ?_; rintro e w9 ⟨rfl, M', hM', hst', hK', hfp'⟩; have hz9 := (hK'.block _ (Array.getElem?_eq_some_iff.1 hD1.hE.res).1 (fun hk => absurd (hfp _ hk) (by omega))).trans hD1.hE.res; have hst := res_st hz9 rfl))
  exact ⟨rfl, _, results_cell_row rfl _ _ _ _ _ _ _ rfl (setRow_heap _ _ _ _ _ _ hz9) Tryz.underlying36 rfl (by kernel_rfl), rfl, M', hM'.row hz9 _, hst', ((KeepF.of_below hD1.hE.bl).trans hK').row (by omega) _, fun k hk => (hfp' k hk).imp (fun h => h) (fun hk => by have := hD1.hE.bl.size; omega)⟩
theorem rdo_read (b c : Nat) (M : RM) (q sl p n id grav : Int) (t : ByteArray) (w : World) (h : RdAt w b M) (S : SeM) (hS : M.seats[c]? = some S) (hst0 : statE M.st c ⟨q, sl, p, n, id, grav, t⟩ = 0) (q1 : 6 ≤ q) (q2 : q ≤ 13) (x : ResV × MS) (hcall : ∀ W, RdAt W b M → Calls Tryz.prog 58 #[.pointer (some ⟨b, 0, none⟩), .int .i64 (c : Int), .agg #[.int .u8 q, .int .i64 sl, .int .i64 p, .int .i64 n, .int .u32 id, .int .u8 grav, .string t]] W (RPost b W x M)) :
    Calls Tryz.prog 23 #[.pointer (some ⟨b, 0, none⟩), .int .i64 (c : Int), .agg #[.int .u8 q, .int .i64 sl, .int .i64 p, .int .i64 n, .int .u32 id, .int .u8 grav, .string t]] w (RPost b w x M) := by
  have t1 : decide ((6 : Int) ≤ q) = true := by simpa using q1
  have t2 : decide (q ≤ (13 : Int)) = true := by simpa using q2
  clear q1 q2
  obtain ⟨gs, cs, g, cp, gb, cb, cur, hD0⟩ := RdS.start w ⟨q, sl, p, n, id, grav, t⟩ h hS
  obtain ⟨hc, _⟩ := List.getElem?_eq_some_iff.1 hS
  have hsta := rstat_any b M c ⟨q, sl, p, n, id, grav, t⟩ _ hD0.hM
  rw [hst0] at hsta
  unfold OpV.v at hsta
  dsimp only at hsta
  have hfp := fun k (hk : M.fp b k) => h.fp_lt hk
  clear hst0
  have HC := Lib.hid hcall
  clear hcall
  go_enter Tryz.func23, Tryz.ntmps23
  go_wp2_with (first | (go_at_call 57; refine hsta.mono ?_; rintro e w1 ⟨rfl, hb1⟩; have hD1 := hD0.on hb1; obtain ⟨y0, y1, y2, y3, y4, y5, y6⟩ := hD1.hE.o7; obtain ⟨k4, k5, k6, kb, kf⟩ := hD1.bd; clear hsta) | (go_at_call 58; refine (HC.out _ hD1.hM).mono ?_; rintro e w9 ⟨rfl, M', hM', hst', hK', hfp'⟩; have hz9 := (hK'.block _ (Array.getElem?_eq_some_iff.1 hD1.hE.res).1 (fun hk => absurd (hfp _ hk) (by omega))).trans hD1.hE.res; have hst := res_st hz9 rfl))
  exact ⟨rfl, _, results_cell_row rfl _ _ _ _ _ _ _ rfl (setRow_heap _ _ _ _ _ _ hz9) Tryz.underlying36 rfl (by kernel_rfl), rfl, M', hM'.row hz9 _, hst', ((KeepF.of_below hD1.hE.bl).trans hK').row (by omega) _, fun k hk => (hfp' k hk).imp (fun h => h) (fun hk => by have := hD1.hE.bl.size; omega)⟩
theorem rdo_14 (b c : Nat) (M : RM) (sl p n id grav : Int) (t : ByteArray) (w : World) (h : RdAt w b M) (S : SeM) (hS : M.seats[c]? = some S) (hst0 : statE M.st c ⟨14, sl, p, n, id, grav, t⟩ = 0) (hb : S.sub = false) (hs : M.closed = false) :
    Calls Tryz.prog 23 #[.pointer (some ⟨b, 0, none⟩), .int .i64 (c : Int), .agg #[.int .u8 14, .int .i64 sl, .int .i64 p, .int .i64 n, .int .u32 id, .int .u8 grav, .string t]] w (RPost b w ({ rev := M.number }, M.st.put c { M.st.seat c with sub := true }) M) := by
  obtain ⟨gs, cs, g, cp, gb, cb, cur, hD0⟩ := RdS.start w ⟨14, sl, p, n, id, grav, t⟩ h hS
  obtain ⟨hc, _⟩ := List.getElem?_eq_some_iff.1 hS
  have hsta := rstat_any b M c ⟨14, sl, p, n, id, grav, t⟩ _ hD0.hM
  rw [hst0] at hsta
  unfold OpV.v at hsta
  dsimp only at hsta
  have hfp := fun k (hk : M.fp b k) => h.fp_lt hk
  clear hst0
  go_enter Tryz.func23, Tryz.ntmps23
  go_wp2_with (first | (go_at_call 57; refine hsta.mono ?_; rintro e w1 ⟨rfl, hb1⟩; have hD1 := hD0.on hb1; obtain ⟨y0, y1, y2, y3, y4, y5, y6⟩ := hD1.hE.o7; obtain ⟨k4, k5, k6, kb, kf⟩ := hD1.bd; rw [hs] at k5; rw [hb] at kb; have hM2 := hD1.hM.putSub hS hD1.hA; have d4 := hM2.cs.2.2.2.2.1; have hz2 := (setCell_ne w1 ⟨gb, c, none⟩ (.bool true) (w.heap.size + 1) hD1.gbne.1).trans hD1.hE.res; have hst := res_st hz2 rfl; clear hsta))
  exact ⟨rfl, _, results_cell_row rfl _ _ _ _ _ _ _ rfl (setRow_heap _ _ _ _ _ _ hz2) Tryz.underlying36 rfl (by kernel_rfl), rfl, _, hM2.row hz2 _, RM.putSub_st hS, ((KeepF.of_below hD1.hE.bl).trans (KeepF.set (F := M.fp b) (a := ⟨gb, c, none⟩) (.inr (.inl (by rw [hD1.hA.bv]; rfl))) _)).row (by omega) _, fun k hk => .inl (rfp_sub hS k hk)⟩
theorem rdo_16 (b c : Nat) (M : RM) (sl p n id grav : Int) (t : ByteArray) (w : World) (h : RdAt w b M) (S : SeM) (hS : M.seats[c]? = some S) (hst0 : statE M.st c ⟨16, sl, p, n, id, grav, t⟩ = 0) (hs : M.closed = false) :
    Calls Tryz.prog 23 #[.pointer (some ⟨b, 0, none⟩), .int .i64 (c : Int), .agg #[.int .u8 16, .int .i64 sl, .int .i64 p, .int .i64 n, .int .u32 id, .int .u8 grav, .string t]] w (RPost b w ({}, { M.st with closed := true }) M) := by
  obtain ⟨gs, cs, g, cp, gb, cb, cur, hD0⟩ := RdS.start w ⟨16, sl, p, n, id, grav, t⟩ h hS
  obtain ⟨hc, _⟩ := List.getElem?_eq_some_iff.1 hS
  have hsta := rstat_any b M c ⟨16, sl, p, n, id, grav, t⟩ _ hD0.hM
  rw [hst0] at hsta
  unfold OpV.v at hsta
  dsimp only at hsta
  have hfp := fun k (hk : M.fp b k) => h.fp_lt hk
  clear hst0
  go_enter Tryz.func23, Tryz.ntmps23
  go_wp2_with (first | (go_at_call 57; refine hsta.mono ?_; rintro e w1 ⟨rfl, hb1⟩; have hD1 := hD0.on hb1; obtain ⟨y0, y1, y2, y3, y4, y5, y6⟩ := hD1.hE.o7; obtain ⟨k4, k5, k6, kb, kf⟩ := hD1.bd; rw [hs] at k5; have f5 := hD1.hM.f 5; have hM2 := hD1.hM.setShut true; have hz2 := (setCell_ne w1 ⟨b, 5, none⟩ (.bool true) (w.heap.size + 1) hD1.gbne.2).trans hD1.hE.res; have hst := res_st hz2 rfl; clear hsta))
  exact ⟨rfl, _, results_cell_row rfl _ _ _ _ _ _ _ rfl (setRow_heap _ _ _ _ _ _ hz2) Tryz.underlying36 rfl (by kernel_rfl), rfl, _, hM2.row hz2 _, rfl, ((KeepF.of_below hD1.hE.bl).trans (KeepF.set (F := M.fp b) (a := ⟨b, 5, none⟩) (.inl rfl) _)).row (by omega) _, fun k hk => .inl hk⟩
end Go.Proofs.YtlealeecmmpckaaGreat
