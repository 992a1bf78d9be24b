/- The texts RbH RbM RbN. -/
import Derived.Test.YtlealeecmmpckaaGreatKxh
import Derived.Test.YtlealeecmmpckaaGreatKxg
import Derived.Test.YtlealeecmmpckaaGreatKxl
import Derived.Test.YtlealeecmmpckaaGreatKxk
import Derived.Test.YtlealeecmmpckaaGreatKxi
import Derived.Test.YtlealeecmmpckaaGreatKxf
import Derived.Test.YtlealeecmmpckaaGreatKun
import Derived.Test.YtlealeecmmpckaaGreatKul
namespace Go.Proofs.YtlealeecmmpckaaGreat
set_option linter.unusedVariables false
set_option linter.unusedSimpArgs false
set_option maxRecDepth 100000
set_option maxHeartbeats 8000000
open Go.RowKit Go.Lib Go.Shelf
theorem redit_1 (b : Nat) (M : RM) (o : OpV) (w : World) (h : RdAt w b M) (hok : MSok M.st 100000) (hi : OpIn o) (hx : opP o ∧ o.text.size ≤ 256) (hc : M.closed = false) (hk : o.kind = 1) :
    Calls Tryz.prog 59 #[.pointer (some ⟨b, 0, none⟩), .agg #[.int .u8 o.kind, .int .i64 o.slot, .int .i64 o.at_, .int .i64 o.n, .int .u32 o.id, .int .u8 o.grav, .string o.text]] w (RPost b w (insS M.st o) M) := by
  obtain ⟨g0, g1, g2, g3, g4, g5, g6, g7, g8, g9, g10, g11, g12⟩ := hx.1
  have hn : o.n = 0 := by omega
  have hsz : M.text.size ≤ 65536 := hok.size
  have hT : M.st.text = M.text := rfl
  have hC : M.st.closed = false := hc
  by_cases h1 : (M.text.size : Int) < o.at_
  · have e : insS M.st o = (failR 3, M.st) := by simp [insS, insE, bndE, hT, hC, h1]
    rw [e]; exact redit_range b M o w h hok ⟨g2, hi.at_.2⟩ (.inl h1)
  · cases hb : bndB M.text.data.toList o.at_ with
    | false =>
      have e : insS M.st o = (failR 12, M.st) := by simp [insS, insE, bndE, hT, hC, h1, hb]
      rw [e]; exact redit_bnd1 b M o w h hok g2 (by omega) (by omega) hb
    | true =>
      have hb2 : bndB M.text.data.toList (o.at_ + o.n) = true := by rw [hn, Int.add_zero]; exact hb
      by_cases h2 : 65536 < (M.text.size : Int) + o.text.size
      · have e : insS M.st o = (failR 5, M.st) := by simp [insS, insE, bndE, hT, hC, h1, hb, h2]
        rw [e]; exact redit_long b M o w h hok g2 (by omega) g3 (by omega) hb hb2 hx.2 (by omega)
      · have e : insS M.st o = repS M.st o.at_ o.n o.text := by simp [insS, insE, bndE, hT, hC, h1, hb, h2, hn]
        rw [e]; exact redit_ok b M o w h hok g2 (by omega) g3 (by omega) hb hb2 hx.2 (by omega) ⟨g2, g3, by omega, by omega, by omega, .inl ⟨hn, by omega⟩⟩
theorem redit_2 (b : Nat) (M : RM) (o : OpV) (w : World) (h : RdAt w b M) (hok : MSok M.st 100000) (hi : OpIn o) (hx : opP o ∧ o.text.size ≤ 256) (hc : M.closed = false) (hk : o.kind = 2) :
    Calls Tryz.prog 59 #[.pointer (some ⟨b, 0, none⟩), .agg #[.int .u8 o.kind, .int .i64 o.slot, .int .i64 o.at_, .int .i64 o.n, .int .u32 o.id, .int .u8 o.grav, .string o.text]] w (RPost b w (delS M.st o) M) := by
  obtain ⟨g0, g1, g2, g3, g4, g5, g6, g7, g8, g9, g10, g11, g12⟩ := hx.1
  have hn : o.n ≠ 0 := g12 hk
  have ht : o.text = ⟨#[]⟩ := by
    have h0 : o.text.size = 0 := by omega
    have h1 : o.text.data = #[] := Array.eq_empty_of_size_eq_zero h0
    cases ht : o.text with | mk d => rw [ht] at h1; exact congrArg ByteArray.mk h1
  have hsz : M.text.size ≤ 65536 := hok.size
  have hT : M.st.text = M.text := rfl
  have hC : M.st.closed = false := hc
  by_cases h1 : (M.text.size : Int) < o.at_ ∨ (M.text.size : Int) - o.at_ < o.n
  · have e : delS M.st o = (failR 3, M.st) := by simp [delS, delE, hT, hC, h1]
    rw [e]; exact redit_range b M o w h hok ⟨g2, hi.at_.2⟩ (by rcases h1 with h1 | h1 <;> omega)
  · have h1a : ¬ (M.text.size : Int) < o.at_ := by omega
    have h1b : ¬ (M.text.size : Int) - o.at_ < o.n := by omega
    have h1c : ¬ (M.text.size : Int) < o.at_ + o.n := by omega
    cases hb : bndB M.text.data.toList o.at_ with
    | false =>
      have e : delS M.st o = (failR 12, M.st) := by simp [delS, delE, bndE, hT, hC, h1a, h1b, hb]
      rw [e]; exact redit_bnd1 b M o w h hok g2 (by omega) (by omega) hb
    | true =>
      cases hb2 : bndB M.text.data.toList (o.at_ + o.n) with
      | false =>
        have e : delS M.st o = (failR 12, M.st) := by simp [delS, delE, bndE, hT, hC, h1a, h1b, h1c, hb, hb2]
        rw [e]; exact redit_bnd2 b M o w h hok g2 (by omega) g3 (by omega) hb hb2
      | true =>
        have e : delS M.st o = repS M.st o.at_ o.n o.text := by rw [ht]; simp [delS, delE, bndE, hT, hC, h1a, h1b, h1c, hb, hb2]
        rw [e]; exact redit_ok b M o w h hok g2 (by omega) g3 (by omega) hb hb2 hx.2 (by omega) ⟨g2, g3, by omega, by omega, by omega, .inr ⟨by omega, by omega⟩⟩
theorem rmark_3 (b : Nat) (M : RM) (o : OpV) (w : World) (h : RdAt w b M) (hok : MSok M.st 100000) (hi : OpIn o) (hx : opP o) (hc : M.closed = false) (hk : o.kind = 3) :
    Calls Tryz.prog 60 #[.pointer (some ⟨b, 0, none⟩), .agg #[.int .u8 o.kind, .int .i64 o.slot, .int .i64 o.at_, .int .i64 o.n, .int .u32 o.id, .int .u8 o.grav, .string o.text]] w (RPost b w (setS M.st o) M) := by
  obtain ⟨g0, g1, g2, g3, g4, g5, g6, g7, g8, g9, g10, g11, g12⟩ := hx
  have hsz : M.text.size ≤ 65536 := hok.size
  have i0 := hi.id0
  have i1 := hi.id1
  have i2 := hi.g0
  by_cases h1 : (M.text.size : Int) < o.at_
  · exact rmark_set_range b M o w h hok hk hc h1
  · cases hb : bndB M.text.data.toList o.at_ with
    | false => exact rmark_set_bnd b M o w h hok hk hc (by omega) hb
    | true =>
      have hm : MkIn bigN ⟨o.id, o.at_, o.grav⟩ := ⟨by show 1 ≤ o.id; omega, i1, by show o.grav = 0 ∨ o.grav = 1; omega, g2, by show o.at_ ≤ bigN; unfold bigN; omega⟩
      by_cases hl : hasM o.id M.marks = true ∨ M.marks.length < 64
      · exact rmark_set_ok b M o w h hok hk hc (by omega) hb hm hl
      · exact rmark_set_full b M o w h hok hk hc (by omega) hb hm hl
theorem rmark_4 (b : Nat) (M : RM) (o : OpV) (w : World) (h : RdAt w b M) (hok : MSok M.st 100000) (hc : M.closed = false) (hk : o.kind = 4) :
    Calls Tryz.prog 60 #[.pointer (some ⟨b, 0, none⟩), .agg #[.int .u8 o.kind, .int .i64 o.slot, .int .i64 o.at_, .int .i64 o.n, .int .u32 o.id, .int .u8 o.grav, .string o.text]] w (RPost b w (drpS M.st o) M) := by
  cases hs : hasM o.id M.marks with
  | false => exact rmark_drop_none b M o w h hok hk hc hs
  | true => exact rmark_drop_yes b M o w h hok hk hc hs
end Go.Proofs.YtlealeecmmpckaaGreat
namespace Go.Proofs.YtlealeecmmpckaaGreat
set_option linter.unusedVariables false
set_option linter.unusedSimpArgs false
set_option maxRecDepth 100000
set_option maxHeartbeats 8000000
open Go.RowKit Go.Lib Go.Shelf
attribute [local go_sem, local simp] resF resL_len resL_ne rset0 rset1 rset2 rset3 rset4 rset5
theorem rdo_ok (b c : Nat) (M : RM) (q : OpV) (w : World) (h : RdAt w b M) (hok : MSok M.st 100000) (hi : OpIn q) (hc : c < M.seats.length) (hcl : M.seats.length ≤ 8) (hst0 : statE M.st c q = 0) (hx : opP q ∧ q.text.size ≤ 256) :
    Calls Tryz.prog 23 #[.pointer (some ⟨b, 0, none⟩), .int .i64 (c : Int), .agg #[.int .u8 q.kind, .int .i64 q.slot, .int .i64 q.at_, .int .i64 q.n, .int .u32 q.id, .int .u8 q.grav, .string q.text]] w (RPost b w (opS M.st c q) M) := by
  have hS := List.getElem?_eq_getElem hc
  generalize M.seats[c] = S at hS
  have hmem := List.mem_of_getElem? hS
  have hl : S.sl.length = M.readers := by
    have h1 := (hok.slots S.st (List.mem_map.2 ⟨S, hmem, rfl⟩)).1
    have h2 : S.st.slots.length = S.sl.length := List.length_map ..
    have h3 : M.st.readers = M.readers := rfl
    omega
  have hr8 : M.readers ≤ 8 := hok.readers
  have e0 : M.st.seat c = S.st := RM.seat_st hS
  have eb : (M.st.seat c).sub = S.sub := by rw [e0]; rfl
  have eC : M.st.closed = M.closed := rfl
  have hxx := hx.1
  obtain ⟨g0, g1, _⟩ := hxx
  have hk : q.kind = 1 ∨ q.kind = 2 ∨ q.kind = 3 ∨ q.kind = 4 ∨ q.kind = 5 ∨ (6 ≤ q.kind ∧ q.kind ≤ 13) ∨ q.kind = 14 ∨ q.kind = 15 ∨ q.kind = 16 := by omega
  obtain ⟨K, sl, p, n, id, grav, t⟩ := q
  dsimp only at hk g0 g1 ⊢
  rcases hk with rfl | rfl | rfl | rfl | rfl | ⟨h1, h2⟩ | rfl | rfl | rfl
  · rw [show opS M.st c ⟨1, sl, p, n, id, grav, t⟩ = insS M.st ⟨1, sl, p, n, id, grav, t⟩ from rfl]
    cases hs : M.closed with
    | true => rw [show insS M.st ⟨1, sl, p, n, id, grav, t⟩ = (failR 13, M.st) by simp [insS, insE, eC, hs]]; exact rdo_shut_1 b c M sl p n id grav t w h S hS hst0 hs
    | false => exact rdo_1 b c M sl p n id grav t w h S hS hst0 hs _ (fun W hW => redit_1 b M ⟨1, sl, p, n, id, grav, t⟩ W hW hok hi hx hs rfl)
  · rw [show opS M.st c ⟨2, sl, p, n, id, grav, t⟩ = delS M.st ⟨2, sl, p, n, id, grav, t⟩ from rfl]
    cases hs : M.closed with
    | true => rw [show delS M.st ⟨2, sl, p, n, id, grav, t⟩ = (failR 13, M.st) by simp [delS, delE, eC, hs]]; exact rdo_shut_2 b c M sl p n id grav t w h S hS hst0 hs
    | false => exact rdo_2 b c M sl p n id grav t w h S hS hst0 hs _ (fun W hW => redit_2 b M ⟨2, sl, p, n, id, grav, t⟩ W hW hok hi hx hs rfl)
  · rw [show opS M.st c ⟨3, sl, p, n, id, grav, t⟩ = setS M.st ⟨3, sl, p, n, id, grav, t⟩ from rfl]
    cases hs : M.closed with
    | true => rw [show setS M.st ⟨3, sl, p, n, id, grav, t⟩ = (failR 13, M.st) by simp [setS, setE, eC, hs]]; exact rdo_shut_3 b c M sl p n id grav t w h S hS hst0 hs
    | false => exact rdo_3 b c M sl p n id grav t w h S hS hst0 hs _ (fun W hW => rmark_3 b M ⟨3, sl, p, n, id, grav, t⟩ W hW hok hi hx.1 hs rfl)
  · rw [show opS M.st c ⟨4, sl, p, n, id, grav, t⟩ = drpS M.st ⟨4, sl, p, n, id, grav, t⟩ from rfl]
    cases hs : M.closed with
    | true => rw [show drpS M.st ⟨4, sl, p, n, id, grav, t⟩ = (failR 13, M.st) by simp [drpS, eC, hs]]; exact rdo_shut_4 b c M sl p n id grav t w h S hS hst0 hs
    | false => exact rdo_4 b c M sl p n id grav t w h S hS hst0 hs _ (fun W hW => rmark_4 b M ⟨4, sl, p, n, id, grav, t⟩ W hW hok hs rfl)
  · rw [show opS M.st c ⟨5, sl, p, n, id, grav, t⟩ = acqS M.st c from rfl]
    cases hs : M.closed with
    | true => rw [show acqS M.st c = (failR 13, M.st) by simp [acqS, eC, hs]]; exact rdo_shut_5 b c M sl p n id grav t w h S hS hst0 hs
    | false => exact rdo_5 b c M sl p n id grav t w h S hS hst0 hs _ (fun W hW => racquire_any b c M W hW S hS hl hr8 hcl hs)
  · rw [show opS M.st c ⟨K, sl, p, n, id, grav, t⟩ = reaS M.st c ⟨K, sl, p, n, id, grav, t⟩ by unfold opS; rw [if_neg (by dsimp only; omega), if_neg (by dsimp only; omega), if_neg (by dsimp only; omega), if_neg (by dsimp only; omega), if_neg (by dsimp only; omega), if_neg (by dsimp only; omega), if_neg (by dsimp only; omega), if_neg (by dsimp only; omega)]]
    exact rdo_read b c M K sl p n id grav t w h S hS hst0 h1 h2 _ (fun W hW => rread_any b c M ⟨K, sl, p, n, id, grav, t⟩ W hW hok hi hx.1 S hS hl hr8 hcl h1 h2)
  · rw [show opS M.st c ⟨14, sl, p, n, id, grav, t⟩ = subS M.st c from rfl]
    cases hb : S.sub with
    | true => rw [show subS M.st c = (failR 18, M.st) by simp [subS, eb, hb]]; exact rdo_14_sub b c M sl p n id grav t w h S hS hst0 hb
    | false =>
      cases hs : M.closed with
      | true => rw [show subS M.st c = (failR 13, M.st) by simp [subS, eb, hb, eC, hs]]; exact rdo_shut_14 b c M sl p n id grav t w h S hS hst0 hb hs
      | false => rw [show subS M.st c = ({ rev := M.number }, M.st.put c { M.st.seat c with sub := true }) by unfold subS; rw [eb, hb, eC, hs]; rfl]; exact rdo_14 b c M sl p n id grav t w h S hS hst0 hb hs
  · rw [show opS M.st c ⟨15, sl, p, n, id, grav, t⟩ = recS M.st c from rfl]
    cases hb : S.sub with
    | false => rw [show recS M.st c = (failR 19, M.st) by simp [recS, eb, hb]]; exact rdo_15_no b c M sl p n id grav t w h S hS hst0 hb
    | true =>
      cases hs : M.closed with
      | true => rw [show recS M.st c = (failR 13, M.st) by simp [recS, eb, hb, eC, hs]]; exact rdo_shut_15 b c M sl p n id grav t w h S hS hst0 hb hs
      | false => rw [show recS M.st c = (failR 17, M.st) by simp [recS, eb, hb, eC, hs]]; exact rdo_15_yes b c M sl p n id grav t w h S hS hst0 hb hs
  · rw [show opS M.st c ⟨16, sl, p, n, id, grav, t⟩ = cloS M.st from rfl]
    cases hs : M.closed with
    | true => rw [show cloS M.st = (failR 13, M.st) by simp [cloS, eC, hs]]; exact rdo_shut_16 b c M sl p n id grav t w h S hS hst0 hs
    | false => rw [show cloS M.st = ({}, { M.st with closed := true }) by unfold cloS; rw [eC, hs]; rfl]; exact rdo_16 b c M sl p n id grav t w h S hS hst0 hs
theorem rdo_err (b : Nat) (c : Int) (M : RM) (q : OpV) (w : World) (h : RdAt w b M) (E : Int) (hs : statE M.st c q = E) (hE0 : E ≠ 0) :
    Calls Tryz.prog 23 #[.pointer (some ⟨b, 0, none⟩), .int .i64 c, .agg #[.int .u8 q.kind, .int .i64 q.slot, .int .i64 q.at_, .int .i64 q.n, .int .u32 q.id, .int .u8 q.grav, .string q.text]] w (RPost b w (failR E, M.st) M) := by
  have hd : (E == 0) = false := by simpa using hE0
  have hE := ed2_start w q
  have hM0 := h.below hE.bl
  have hrB : w.heap.size ≤ w.heap.size + 1 := by omega
  have hsta := rstat_any b M c q _ hM0
  rw [hs] at hsta
  unfold OpV.v at hsta
  clear hs hE0
  go_enter Tryz.func23, Tryz.ntmps23
  go_wp2_with (first | (go_at_call 57; refine hsta.mono ?_; rintro e w1 ⟨rfl, hb1⟩; have hE1 := hE.on hb1; have hM1 := hM0.below hb1; clear hsta) | (go_at_call 56; refine (rfail_any _ _).mono ?_; rintro e v7 ⟨rfl, hb7⟩; have hE7 := hE1.on hb7; have hst := res_st hE7.res rfl))
  exact ⟨rfl, _, results_cell_row rfl _ _ _ _ _ _ _ rfl (setRow_heap _ _ _ _ _ _ hE7.res) Tryz.underlying36 rfl (by kernel_rfl), rfl, M, (hM1.below hb7).row hE7.res _, rfl, (KeepF.of_below hE7.bl).row hrB _, fun k hk => .inl hk⟩
theorem rdo_any (b : Nat) (c : Int) (M : RM) (q : OpV) (w : World) (h : RdAt w b M) (hok : MSok M.st 100000) (hi : OpIn q) :
    Calls Tryz.prog 23 #[.pointer (some ⟨b, 0, none⟩), .int .i64 c, .agg #[.int .u8 q.kind, .int .i64 q.slot, .int .i64 q.at_, .int .i64 q.n, .int .u32 q.id, .int .u8 q.grav, .string q.text]] w (RPost b w (doS M.st c q) M) := by
  have hlen : M.st.seats.length = M.seats.length := List.length_map ..
  have hcl : M.seats.length ≤ 8 := by have := hok.clients; omega
  by_cases hs : statE M.st c q = 0
  · obtain ⟨h0, h1, h2⟩ := statE_ok hs
    have hx := opE_ok h2
    obtain ⟨n, rfl⟩ : ∃ n : Nat, c = n := ⟨c.toNat, by omega⟩
    have hR : doS M.st n q = opS M.st n q := by unfold doS; rw [if_neg (by simpa using hs), Int.toNat_natCast]
    rw [hR]
    exact rdo_ok b n M q w h hok hi (by omega) hcl hs ⟨hx.1, hx.2.1⟩
  · have hR : doS M.st c q = (failR (statE M.st c q), M.st) := by unfold doS; rw [if_pos hs]
    rw [hR]
    exact rdo_err b c M q w h _ rfl hs
end Go.Proofs.YtlealeecmmpckaaGreat
namespace Go.Proofs.YtlealeecmmpckaaGreat
set_option linter.unusedVariables false
set_option linter.unusedSimpArgs false
set_option maxRecDepth 100000
set_option maxHeartbeats 8000000
open Go.RowKit Go.Lib Go.Shelf
attribute [local go_sem, local simp] resF resL_len resL_ne
theorem RdAt.fp_ty {W : World} {b k : Nat} {M : RM} (h : RdAt W b M) (hk : M.fp b k) : ∃ cs T, W.heap[k]? = some (.cells cs T (0, 0)) ∧ (T = 108 ∨ T = 4 ∨ T = 114) := by
  rcases hk with rfl | hk | ⟨S, hS, hk⟩
  · exact ⟨_, _, h.blk, .inl rfl⟩
  · rcases h.subs.2 with ⟨e, _⟩ | ⟨g, cap, cur, e, _, hg, _⟩
    · rw [e] at hk; cases hk
    · rw [e] at hk; injection hk with hk; subst hk; exact ⟨_, _, hg, .inr (.inl rfl)⟩
  · rcases (h.slots S hS).2 with ⟨e, _⟩ | ⟨g, cap, cur, e, _, hg, _⟩
    · rw [e] at hk; cases hk
    · rw [e] at hk; injection hk with hk; subst hk; exact ⟨_, _, hg, .inr (.inr rfl)⟩
theorem RdAt.keep {W W' : World} {b g : Nat} {M : RM} {cs : Array Value} {T : TypeId} (h : RdAt W b M) (hk : KeepF (M.fp b) W W') (hg : W.heap[g]? = some (.cells cs T (0, 0))) (h1 : T ≠ 108) (h2 : T ≠ 4) (h3 : T ≠ 114) : W'.heap[g]? = some (.cells cs T (0, 0)) := by
  refine (hk.block g (Array.getElem?_eq_some_iff.1 hg).1 fun hf => ?_).trans hg
  obtain ⟨cs', T', hg', hT⟩ := h.fp_ty hf
  rw [hg] at hg'; injection hg' with hg'; injection hg' with _ e _
  subst e
  rcases hT with e | e | e
  · exact h1 e
  · exact h2 e
  · exact h3 e
theorem RdAt.keepOwn {W W' : World} {b B s n : Nat} {M : RM} {e : TypeId} {v : Value} {xs : List Value} (h : RdAt W b M) (hk : KeepF (M.fp b) W W') (ho : W.ownsRow B e s v n xs) (h1 : e ≠ 108) (h2 : e ≠ 4) (h3 : e ≠ 114) : W'.ownsRow B e s v n xs := by
  refine ⟨ho.1, ?_⟩
  rcases ho.2 with hn | ⟨g, cap, cur, rfl, hB, hg, rest⟩
  · exact .inl hn
  · exact .inr ⟨g, cap, cur, rfl, hB, h.keep hk hg h1 h2 h3, rest⟩
theorem MdAt.keepRd {W W' : World} {bm br : Nat} {M : MM} {R : RM} (h : MdAt W bm M) (hk : KeepF (M.fp bm) W W') (hr : RdAt W br R) : RdAt W' br R :=
  ⟨h.keep hk hr.blk (by decide) (by decide) (by decide), h.keepOwn hk hr.marks (by decide) (by decide) (by decide), h.keepOwn hk hr.subs (by decide) (by decide) (by decide), h.keepOwn hk hr.snaps (by decide) (by decide) (by decide), fun S hS => h.keepOwn hk (hr.slots S hS) (by decide) (by decide) (by decide), fun S hS x hx => h.keepOwn hk (hr.smarks S hS x hx) (by decide) (by decide) (by decide), hr.some_, hr.nodup⟩
theorem RdAt.keepMd {W W' : World} {bm br : Nat} {M : MM} {R : RM} (h : RdAt W br R) (hk : KeepF (R.fp br) W W') (hm : MdAt W bm M) : MdAt W' bm M :=
  ⟨h.keep hk hm.blk (by decide) (by decide) (by decide), h.keepOwn hk hm.marks (by decide) (by decide) (by decide), h.keepOwn hk hm.seats (by decide) (by decide) (by decide), fun S hS => h.keepOwn hk (hm.slots S hS) (by decide) (by decide) (by decide), fun S hS x hx => h.keepOwn hk (hm.smarks S hS x hx) (by decide) (by decide) (by decide), hm.some_, hm.nodup⟩
structure RRun (w0 W : World) (b : Nat) (M : RM) : Prop where
  at_ : RdAt W b M
  own : ∀ k, M.fp b k → w0.heap.size ≤ k
  bl : Below w0.heap.size w0 W
theorem RRun.on {w0 W W' : World} {b : Nat} {M : RM} (h : RRun w0 W b M) (hb : Below W.heap.size W W') : RRun w0 W' b M := ⟨h.at_.below hb, h.own, h.bl.trans (hb.mono h.bl.size)⟩
theorem RRun.keep {w0 W W' : World} {b : Nat} {M : RM} (h : RRun w0 W b M) (hk : KeepF (M.fp b) W W') : Below w0.heap.size w0 W' :=
  ⟨hk.os.trans h.bl.os, hk.tape.trans h.bl.tape, hk.output.trans h.bl.output, Nat.le_trans h.bl.size hk.size, fun k hk' => (hk.block k (by have := h.bl.size; omega) (fun hf => absurd (h.own k hf) (by omega))).trans (h.bl.block k hk')⟩
structure Pair (w0 W : World) (bm : Nat) (M : MM) (br : Nat) (R : RM) : Prop where
  m : Run w0 W bm M
  r : RRun w0 W br R
theorem Pair.on {w0 W W' : World} {bm br : Nat} {M : MM} {R : RM} (h : Pair w0 W bm M br R) (hb : Below W.heap.size W W') : Pair w0 W' bm M br R := ⟨h.m.on hb, h.r.on hb⟩
theorem Pair.doM {w0 W : World} {bm br : Nat} {M : MM} {R : RM} {c : Int} {q : OpV} {K : Int} (h : Pair w0 W bm M br R) (hok : MSok M.st K) (hK : K ≤ 100000) (hi : OpIn q) :
    Calls Tryz.prog 16 #[.pointer (some ⟨bm, 0, none⟩), .int .i64 c, .agg #[.int .u8 q.kind, .int .i64 q.slot, .int .i64 q.at_, .int .i64 q.n, .int .u32 q.id, .int .u8 q.grav, .string q.text]] W fun e W' => ∃ M', e = .returned (.agg (resL (doS M.st c q).1).toArray) ∧ Pair w0 W' bm M' br R ∧ M'.st = (doS M.st c q).2 ∧ KeepF (M.fp bm) W W' := by
  refine (do_any bm c M q W h.m.at_ (hok.mono hK) hi).mono ?_
  rintro e W' ⟨rfl, M', hM, hs, hk, hf⟩
  exact ⟨M', rfl, ⟨⟨hM, fun k hk => (hf k hk).elim (h.m.own k) (fun h' => Nat.le_trans h.m.bl.size h'), h.m.keep hk⟩, ⟨h.m.at_.keepRd hk h.r.at_, h.r.own, h.m.keep hk⟩⟩, hs, hk⟩
theorem Pair.doR {w0 W : World} {bm br : Nat} {M : MM} {R : RM} {c : Int} {q : OpV} {K : Int} (h : Pair w0 W bm M br R) (hok : MSok R.st K) (hK : K ≤ 100000) (hi : OpIn q) :
    Calls Tryz.prog 23 #[.pointer (some ⟨br, 0, none⟩), .int .i64 c, .agg #[.int .u8 q.kind, .int .i64 q.slot, .int .i64 q.at_, .int .i64 q.n, .int .u32 q.id, .int .u8 q.grav, .string q.text]] W fun e W' => ∃ R', e = .returned (.agg (resL (doS R.st c q).1).toArray) ∧ Pair w0 W' bm M br R' ∧ R'.st = (doS R.st c q).2 ∧ KeepF (R.fp br) W W' := by
  refine (rdo_any br c R q W h.r.at_ (hok.mono hK) hi).mono ?_
  rintro e W' ⟨rfl, R', hR, hs, hk, hf⟩
  exact ⟨R', rfl, ⟨⟨h.r.at_.keepMd hk h.m.at_, h.m.own, h.r.keep hk⟩, ⟨hR, fun k hk => (hf k hk).elim (h.r.own k) (fun h' => Nat.le_trans h.r.bl.size h'), h.r.keep hk⟩⟩, hs, hk⟩
end Go.Proofs.YtlealeecmmpckaaGreat
