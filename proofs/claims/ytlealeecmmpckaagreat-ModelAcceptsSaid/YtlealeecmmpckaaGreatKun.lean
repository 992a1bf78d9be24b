/- The texts MdCe MdKn. -/
import Derived.Test.YtlealeecmmpckaaGreatKue
import Derived.Test.YtlealeecmmpckaaGreatKul
import Derived.Test.YtlealeecmmpckaaGreatKum
namespace Go.Proofs.YtlealeecmmpckaaGreat
set_option linter.unusedVariables false
set_option linter.unusedSimpArgs false
set_option maxRecDepth 100000
set_option maxHeartbeats 8000000
open Go.RowKit Go.Lib Go.Shelf
attribute [local go_sem, local simp] resF resL_len resL_ne
theorem mrow_cells {W : World} {a : Option Addr} {l : List MkV} (h : MRow W a l) {k : Nat} {m : MkV} (hk : l[k]? = some m) : ∃ b off, a = some ⟨b, off, none⟩ ∧ W.cell? ⟨b, off + k * 3, none⟩ = some (.int .u32 m.id) ∧ W.cell? ⟨b, off + k * 3 + 1, none⟩ = some (.int .i64 m.at_) ∧ W.cell? ⟨b, off + k * 3 + 2, none⟩ = some (.int .u8 m.grav) := by
  rcases h with ⟨_, rfl⟩ | ⟨b, off, h1, h2, h3⟩
  · simp at hk
  · refine ⟨b, off, h1, ?_, ?_, ?_⟩
    · have := h3 k m hk 0 _ rfl; simpa using this
    · have := h3 k m hk 1 _ rfl; rw [Nat.add_assoc]; exact this
    · have := h3 k m hk 2 _ rfl; rw [Nat.add_assoc]; exact this
end Go.Proofs.YtlealeecmmpckaaGreat
namespace Go.Proofs.YtlealeecmmpckaaGreat
set_option linter.unusedVariables false
set_option linter.unusedSimpArgs false
set_option maxRecDepth 100000
set_option maxHeartbeats 8000000
open Go.RowKit Go.Lib Go.Shelf
attribute [local go_sem, local simp] resF resL_len resL_ne
theorem fldErr (r : ResV) (W : World) : (Instr.field 36 (.agg (resL r).toArray) 0).run Tryz.prog W = .ok (.int .i64 r.err) W := by kernel_rfl
attribute [local go_sem] fldErr
theorem do_k {b : Nat} {c : Int} {M : MM} {q : OpV} {w0 W : World} {K : Int} {st st' : MS} {r : ResV} (h : Run w0 W b M) (hst : M.st = st) (hok : MSok M.st K) (hK : K ≤ 100000) (hi : OpIn q) (he : doS st c q = (r, st')) :
    Calls Tryz.prog 16 #[.pointer (some ⟨b, 0, none⟩), .int .i64 c, .agg #[.int .u8 q.kind, .int .i64 q.slot, .int .i64 q.at_, .int .i64 q.n, .int .u32 q.id, .int .u8 q.grav, .string q.text]] W fun e W' => ∃ M', e = .returned (.agg (resL r).toArray) ∧ Run w0 W' b M' ∧ M'.st = st' ∧ KeepF (M.fp b) W W' ∧ MSok M'.st (K + 1) := by
  have := do_run b c M q w0 W K h hok hK hi
  rw [hst, he] at this
  exact this
theorem Run.row {w0 W : World} {b g : Nat} {M : MM} {cs : Array Value} (h : Run w0 W b M) (hg : W.heap[g]? = some (.cells cs 36 (0, 0))) (hl : w0.heap.size ≤ g) (r : Array Value) : Run w0 (W.setRow g r) b M := ⟨h.at_.row hg r, h.own, below_row h.bl hl r⟩
theorem rput_pkg {W : World} {g : Nat} {cs : Array Value} (hz : W.heap[g]? = some (.cells cs 36 (0, 0))) (hs : cs.size = 13) (r : ResV) : ∃ W4, (storeCells ⟨g, 0, none⟩ (resL r)).run Tryz.prog W = .ok () W4 ∧ W4.heap[g]? = some (.cells (resL r).toArray 36 (0, 0)) ∧ (∀ k, k ≠ g → W4.heap[k]? = W.heap[k]?) ∧ (∀ {w0 : World} {b : Nat} {M : MM}, Run w0 W b M → w0.heap.size ≤ g → Run w0 W4 b M) :=
  ⟨_, res_st hz hs r, setRow_heap _ _ _ _ _ _ hz, fun k hk => setRow_other _ _ _ _ hk, fun h hl => h.row hz hl _⟩
theorem accept_ed (b : Nat) (c : Int) (M : MM) (q : OpV) (r : ResV) (i : ItV) (w : World) (h : MdAt w b M) (hok : MSok M.st 100000) (hi : OpIn q) (hin : i.dn ≤ maxLen) (hz : statE M.st c q = 0) (hk : q.kind = 1 ∨ q.kind = 2) :
    Calls Tryz.prog 17 #[.pointer (some ⟨b, 0, none⟩), .int .i64 c, .agg #[.int .u8 q.kind, .int .i64 q.slot, .int .i64 q.at_, .int .i64 q.n, .int .u32 q.id, .int .u8 q.grav, .string q.text], .agg #[.int .i64 r.err, .int .i64 r.rev, .int .i64 r.slot, .int .i64 r.at_, .int .u8 r.grav, .string r.text, .int .i64 r.m1, .int .i64 r.m2, .int .i64 r.m3, .int .u8 i.k, .int .i64 i.f, .int .i64 i.t, .slice i.da i.dn i.dc]] w (AccPost b w (accS M.st c q r i) M) := by
  cases hS : sameB r i (doS M.st c q).1 with
  | true => exact accept_true b c M q r i w h hok hi hin hS
  | false => exact accept_edit b c M q r i w h hok hi hin hS hz hk
theorem acc_k {b : Nat} {c : Int} {M : MM} {q : OpV} {r : ResV} {w0 W : World} {st st' : MS} {x : Bool} (h : Run w0 W b M) (hst : M.st = st) (hok : MSok M.st 100000) (hi : OpIn q) (hz : statE st c q = 0) (hk : q.kind = 1) (he : accS st c q r {} = (x, st')) :
    Calls Tryz.prog 17 #[.pointer (some ⟨b, 0, none⟩), .int .i64 c, .agg #[.int .u8 q.kind, .int .i64 q.slot, .int .i64 q.at_, .int .i64 q.n, .int .u32 q.id, .int .u8 q.grav, .string q.text], .agg #[.int .i64 r.err, .int .i64 r.rev, .int .i64 r.slot, .int .i64 r.at_, .int .u8 r.grav, .string r.text, .int .i64 r.m1, .int .i64 r.m2, .int .i64 r.m3, .int .u8 0, .int .i64 0, .int .i64 0, .slice none 0 0]] W fun e W' => ∃ M', e = .returned (.bool x) ∧ Run w0 W' b M' ∧ M'.st = st' ∧ KeepF (M.fp b) W W' := by
  have := accept_ed b c M q r {} W h.at_ hok hi (Nat.zero_le _) (by rw [hst]; exact hz) (.inl hk)
  rw [hst, he] at this
  refine this.mono ?_
  rintro e W' ⟨rfl, M', hM, hst', hk', hf⟩
  exact ⟨M', rfl, ⟨hM, fun k hk => (hf k hk).elim (h.own k) (fun h' => Nat.le_trans h.bl.size h'), h.keep hk'⟩, hst', hk'⟩
theorem kst : statE ks7 0 kqz = 0 := rfl
theorem kz1 : accS ks7 0 kqz { err := 14 } {} = (true, ks7) := by
  unfold accS accB; rw [kz, kst]; simp [sameB, failR, kqz]
theorem kz2 : accS ks7 0 kqz { err := 6 } {} = (false, ks7) := by
  unfold accS accB; rw [kz, kst]; simp [sameB, failR, kqz]
theorem kz3 : accS ks7 0 kqz { err := 3 } {} = (true, ks7) := by
  unfold accS accB; rw [kz, kst]; simp [sameB, failR, kqz]
theorem known_any (w : World) : Calls Tryz.prog 13 #[] w fun e w' => e = .returned (.bool true) ∧ Below w.heap.size w w' := by
  have Hnew := Lib.hid (new_ok kC w w ke0 (Below.refl _ _))
  go_enter Tryz.func13, Tryz.ntmps13
  go_wp2_with (go_at_call 20; refine Hnew.out.mono ?_; rintro e w1 ⟨b, M0, rfl, hR0, hst0, hb0⟩)
  rw [kn0] at hst0
  have hok0 : MSok M0.st 0 := by rw [hst0, ← kn0]; exact newS_ok ke0
  clear Hnew hb0
  have Hdo1 := Lib.hid (do_k (c := 0) hR0 hst0 hok0 (by omega) ki1 k1)
  go_wp2_with (go_at_call 16; refine Hdo1.out.mono ?_; rintro e v1 ⟨M1, rfl, hQ1, hst1, hk1, hok1⟩; obtain ⟨V1, hs1, hg1, hb1⟩ := rnew_pkg v1 ({ rev := 1 }); have hR1 := hQ1.on hb1; have hl1 := hQ1.bl.size; clear Hdo1)
  clear hb1 hs1
  have Hdo2 := Lib.hid (do_k (c := 0) hR1 hst1 hok1 (by omega) ki2 k2)
  go_wp2_with (go_at_call 16; refine Hdo2.out.mono ?_; rintro e v2 ⟨M2, rfl, hQ2, hst2, hk2, hok2⟩; obtain ⟨V2, hs2, hg2, hb2⟩ := rnew_pkg v2 ({ rev := 1 }); have hR2 := hQ2.on hb2; have hl2 := hQ2.bl.size; have ha1 := (hR1.at_.keep hk2 hg1 (by decide) (by decide) (by decide)); have hn12 : v1.heap.size ≠ v2.heap.size := (Nat.ne_of_lt (Array.getElem?_eq_some_iff.1 ha1).1); replace hg1 := (hb2.block _ (Array.getElem?_eq_some_iff.1 ha1).1).trans ha1; clear ha1; clear Hdo2)
  clear hb2 hs2
  clear hR1 hok1 hst1
  have Hdo3 := Lib.hid (do_k (c := 0) hR2 hst2 hok2 (by omega) ki2 k3)
  go_wp2_with (go_at_call 16; refine Hdo3.out.mono ?_; rintro e v3 ⟨M3, rfl, hQ3, hst3, hk3, hok3⟩; obtain ⟨V3, hs3, hg3, hb3⟩ := rnew_pkg v3 (failR 15); have hR3 := hQ3.on hb3; have hl3 := hQ3.bl.size; have ha1 := (hR2.at_.keep hk3 hg1 (by decide) (by decide) (by decide)); have hn13 : v1.heap.size ≠ v3.heap.size := (Nat.ne_of_lt (Array.getElem?_eq_some_iff.1 ha1).1); replace hg1 := (hb3.block _ (Array.getElem?_eq_some_iff.1 ha1).1).trans ha1; clear ha1; have ha2 := (hR2.at_.keep hk3 hg2 (by decide) (by decide) (by decide)); have hn23 : v2.heap.size ≠ v3.heap.size := (Nat.ne_of_lt (Array.getElem?_eq_some_iff.1 ha2).1); replace hg2 := (hb3.block _ (Array.getElem?_eq_some_iff.1 ha2).1).trans ha2; clear ha2; clear Hdo3)
  clear hb3 hs3
  clear hR2 hok2 hst2
  have Hdo4 := Lib.hid (do_k (c := 0) hR3 hst3 hok3 (by omega) ki4 k4)
  go_wp2_with (go_at_call 16; refine Hdo4.out.mono ?_; rintro e v4 ⟨M4, rfl, hQ4, hst4, hk4, hok4⟩; obtain ⟨V4, hs4, hg4, hb4⟩ := rnew_pkg v4 ({ rev := 2 }); have hR4 := hQ4.on hb4; have hl4 := hQ4.bl.size; have ha1 := (hR3.at_.keep hk4 hg1 (by decide) (by decide) (by decide)); have hn14 : v1.heap.size ≠ v4.heap.size := (Nat.ne_of_lt (Array.getElem?_eq_some_iff.1 ha1).1); replace hg1 := (hb4.block _ (Array.getElem?_eq_some_iff.1 ha1).1).trans ha1; clear ha1; have ha2 := (hR3.at_.keep hk4 hg2 (by decide) (by decide) (by decide)); have hn24 : v2.heap.size ≠ v4.heap.size := (Nat.ne_of_lt (Array.getElem?_eq_some_iff.1 ha2).1); replace hg2 := (hb4.block _ (Array.getElem?_eq_some_iff.1 ha2).1).trans ha2; clear ha2; have ha3 := (hR3.at_.keep hk4 hg3 (by decide) (by decide) (by decide)); have hn34 : v3.heap.size ≠ v4.heap.size := (Nat.ne_of_lt (Array.getElem?_eq_some_iff.1 ha3).1); replace hg3 := (hb4.block _ (Array.getElem?_eq_some_iff.1 ha3).1).trans ha3; clear ha3; have hML : M4.marks = [⟨7, 3, 1⟩] := congrArg MS.marks hst4; have hTX : M4.text = ⟨#[97, 120, 121, 98]⟩ := congrArg MS.text hst4; have a1 : V4.cell? ⟨v1.heap.size, 1, none⟩ = some (.int .i64 1) := (blk13 hg1).2.1; have b0 : V4.cell? ⟨v2.heap.size, 0, none⟩ = some (.int .i64 0) := (blk13 hg2).1; have b1 : V4.cell? ⟨v2.heap.size, 1, none⟩ = some (.int .i64 1) := (blk13 hg2).2.1; have c0 : V4.cell? ⟨v3.heap.size, 0, none⟩ = some (.int .i64 15) := (blk13 hg3).1; have d1 : V4.cell? ⟨v4.heap.size, 1, none⟩ = some (.int .i64 2) := (blk13 hg4).2.1; clear Hdo4)
  clear hb4 hs4
  clear hR3 hok3 hst3
  go_wp2_with (first | (go_at_call 27; refine (text_any b M4 _ hR4.at_).mono ?_; rw [hTX]; rintro e w5 ⟨rfl, rfl⟩) | (go_at_call 31; have hY' := hY; refine (marks_any b M4 _ hY.at_ (by rw [hML]; decide)).mono ?_; rw [hML]; rintro e x2 ⟨u2, rfl, hu2, hx2⟩; obtain ⟨p2, q2, rfl⟩ := own_slice hu2; have hZ := hY.on hx2; obtain ⟨hrow2, _⟩ := mrow_own rfl hu2; obtain ⟨mb, mo, rfl, m0, m1, m2⟩ := mrow_cells (k := 0) hrow2 rfl) | (go_at_call 31; refine (marks_any b M4 _ hR4.at_ (by rw [hML]; decide)).mono ?_; rw [hML]; rintro e x1 ⟨u1, rfl, hu1, hx1⟩; obtain ⟨p1, q1, rfl⟩ := own_slice hu1; have hY := hR4.on hx1))
  have hxx := hx1.trans (hx2.mono hx1.size)
  replace hg1 := (hxx.block _ (Array.getElem?_eq_some_iff.1 hg1).1).trans hg1
  replace hg2 := (hxx.block _ (Array.getElem?_eq_some_iff.1 hg2).1).trans hg2
  replace hg3 := (hxx.block _ (Array.getElem?_eq_some_iff.1 hg3).1).trans hg3
  replace hg4 := (hxx.block _ (Array.getElem?_eq_some_iff.1 hg4).1).trans hg4
  clear a1 b0 b1 c0 d1 m0 m1 m2 hu1 hu2 hx1 hx2 hrow2 hR4 hY hxx
  have hR4 := hZ
  have Hdo5 := Lib.hid (do_k (c := 0) hR4 hst4 hok4 (by omega) ki5 k5)
  go_wp2_with (go_at_call 16; refine Hdo5.out.mono ?_; rintro e v5 ⟨M5, rfl, hQ5, hst5, hk5, hok5⟩; have ha1 := (hR4.at_.keep hk5 hg1 (by decide) (by decide) (by decide)); have ha2 := (hR4.at_.keep hk5 hg2 (by decide) (by decide) (by decide)); have ha3 := (hR4.at_.keep hk5 hg3 (by decide) (by decide) (by decide)); have ha4 := (hR4.at_.keep hk5 hg4 (by decide) (by decide) (by decide)); obtain ⟨V5, hs5, hg1, hV5, hW5⟩ := rput_pkg ha1 rfl ({ text := ⟨#[97, 98]⟩ }); have hR5 := hW5 hQ5 hl1; replace hg2 := (hV5 _ (hn12.symm)).trans ha2; replace hg3 := (hV5 _ (hn13.symm)).trans ha3; replace hg4 := (hV5 _ (hn14.symm)).trans ha4; clear ha1 ha2 ha3 ha4; clear Hdo5)
  clear hs5 hV5 hW5 hR4 hst4 hok4 hQ5 hk5
  have Hdo6 := Lib.hid (do_k (c := 0) hR5 hst5 hok5 (by omega) ki6 k6)
  go_wp2_with (go_at_call 16; refine Hdo6.out.mono ?_; rintro e v6 ⟨M6, rfl, hQ6, hst6, hk6, hok6⟩; have ha1 := (hR5.at_.keep hk6 hg1 (by decide) (by decide) (by decide)); have ha2 := (hR5.at_.keep hk6 hg2 (by decide) (by decide) (by decide)); have ha3 := (hR5.at_.keep hk6 hg3 (by decide) (by decide) (by decide)); have ha4 := (hR5.at_.keep hk6 hg4 (by decide) (by decide) (by decide)); obtain ⟨V6, hs6, hg2, hV6, hW6⟩ := rput_pkg ha2 rfl ({ at_ := 1, grav := 1 }); have hR6 := hW6 hQ6 hl2; replace hg1 := (hV6 _ (hn12)).trans ha1; replace hg3 := (hV6 _ (hn23.symm)).trans ha3; replace hg4 := (hV6 _ (hn24.symm)).trans ha4; clear ha1 ha2 ha3 ha4; clear Hdo6)
  clear hs6 hV6 hW6 hR5 hst5 hok5 hQ6 hk6
  have Hdo7 := Lib.hid (do_k (c := 0) hR6 hst6 hok6 (by omega) ki7 k7)
  go_wp2_with (go_at_call 16; refine Hdo7.out.mono ?_; rintro e v7 ⟨M7, rfl, hQ7, hst7, hk7, hok7⟩; have ha1 := (hR6.at_.keep hk7 hg1 (by decide) (by decide) (by decide)); have ha2 := (hR6.at_.keep hk7 hg2 (by decide) (by decide) (by decide)); have ha3 := (hR6.at_.keep hk7 hg3 (by decide) (by decide) (by decide)); have ha4 := (hR6.at_.keep hk7 hg4 (by decide) (by decide) (by decide)); obtain ⟨V7, hs7, hg3, hV7, hW7⟩ := rput_pkg ha3 rfl ({ text := ⟨#[97, 98]⟩, at_ := 2 }); have hR7 := hW7 hQ7 hl3; replace hg1 := (hV7 _ (hn13)).trans ha1; replace hg2 := (hV7 _ (hn23)).trans ha2; replace hg4 := (hV7 _ (hn34.symm)).trans ha4; clear ha1 ha2 ha3 ha4; clear Hdo7)
  clear hs7 hV7 hW7 hR6 hst6 hok6 hQ7 hk7
  have Hdo8 := Lib.hid (do_k (c := 0) hR7 hst7 hok7 (by omega) ki8 k8)
  go_wp2_with (go_at_call 16; refine Hdo8.out.mono ?_; rintro e v8 ⟨M8, rfl, hQ8, hst8, hk8, hok8⟩; have ha1 := (hR7.at_.keep hk8 hg1 (by decide) (by decide) (by decide)); have ha2 := (hR7.at_.keep hk8 hg2 (by decide) (by decide) (by decide)); have ha3 := (hR7.at_.keep hk8 hg3 (by decide) (by decide) (by decide)); have ha4 := (hR7.at_.keep hk8 hg4 (by decide) (by decide) (by decide)); obtain ⟨V8, hs8, hg4, hV8, hW8⟩ := rput_pkg ha4 rfl (failR 19); have hR8 := hW8 hQ8 hl4; replace hg1 := (hV8 _ (hn14)).trans ha1; replace hg2 := (hV8 _ (hn24)).trans ha2; replace hg3 := (hV8 _ (hn34)).trans ha3; clear ha1 ha2 ha3 ha4; have a5 : V8.cell? ⟨v1.heap.size, 5, none⟩ = some (.string ⟨#[97, 98]⟩) := (blk13 hg1).2.2.2.2.2.1; have b3 : V8.cell? ⟨v2.heap.size, 3, none⟩ = some (.int .i64 1) := (blk13 hg2).2.2.2.1; have b4 : V8.cell? ⟨v2.heap.size, 4, none⟩ = some (.int .u8 1) := (blk13 hg2).2.2.2.2.1; have c5 : V8.cell? ⟨v3.heap.size, 5, none⟩ = some (.string ⟨#[97, 98]⟩) := (blk13 hg3).2.2.2.2.2.1; have c3 : V8.cell? ⟨v3.heap.size, 3, none⟩ = some (.int .i64 2) := (blk13 hg3).2.2.2.1; have d0 : V8.cell? ⟨v4.heap.size, 0, none⟩ = some (.int .i64 19) := (blk13 hg4).1; have hop := heap_alloc_new V8 (.cells #[.int .u8 1, .int .i64 0, .int .i64 9, .int .i64 0, .int .u32 0, .int .u8 0, .string ⟨#[122]⟩] 28); have hb9 := (Below.refl _ V8).alloc (Nat.le_refl _) (.cells #[.int .u8 1, .int .i64 0, .int .i64 9, .int .i64 0, .int .u32 0, .int .u8 0, .string ⟨#[122]⟩] 28); obtain ⟨o0, o1, o2, o3, o4, o5, o6⟩ := blk7 hop; have hno1 : V8.heap.size ≠ v1.heap.size := (Nat.ne_of_lt (Array.getElem?_eq_some_iff.1 hg1).1).symm; have hno2 : V8.heap.size ≠ v2.heap.size := (Nat.ne_of_lt (Array.getElem?_eq_some_iff.1 hg2).1).symm; have hno3 : V8.heap.size ≠ v3.heap.size := (Nat.ne_of_lt (Array.getElem?_eq_some_iff.1 hg3).1).symm; have hno4 : V8.heap.size ≠ v4.heap.size := (Nat.ne_of_lt (Array.getElem?_eq_some_iff.1 hg4).1).symm; clear Hdo8)
  clear hs8 hV8 hW8 hR7 hst7 hok7 hQ8 hk8 a5 b3 b4 c5 c3 d0
  have hkq : MSok ks7 100 := by rw [← hst8]; exact hok8.mono (by omega)
  have hks : MSok ks7 100000 := by rw [← hst8]; exact hok8.mono (by omega)
  have hR9 := hR8.on hb9
  replace hg1 := (hb9.block _ (Array.getElem?_eq_some_iff.1 hg1).1).trans hg1
  replace hg2 := (hb9.block _ (Array.getElem?_eq_some_iff.1 hg2).1).trans hg2
  replace hg3 := (hb9.block _ (Array.getElem?_eq_some_iff.1 hg3).1).trans hg3
  replace hg4 := (hb9.block _ (Array.getElem?_eq_some_iff.1 hg4).1).trans hg4
  have Ha1 := Lib.hid (acc_k (c := 0) hR9 hst8 (by rw [hst8]; exact hks) kiz kst rfl kz1)
  go_wp2_with (first | (go_at_call 17; have hz' := Ha3; refine Ha3.out.mono ?_; rintro e y3 ⟨N3, rfl, hT3, hu3, hkk3⟩; replace hg1 := (hT2.at_.keep hkk3 hg1 (by decide) (by decide) (by decide)); replace hg2 := (hT2.at_.keep hkk3 hg2 (by decide) (by decide) (by decide)); replace hg3 := (hT2.at_.keep hkk3 hg3 (by decide) (by decide) (by decide)); replace hg4 := (hT2.at_.keep hkk3 hg4 (by decide) (by decide) (by decide)); replace hop := (hT2.at_.keep hkk3 hop (by decide) (by decide) (by decide)); obtain ⟨o0, o1, o2, o3, o4, o5, o6⟩ := blk7 hop; clear hz' Ha3) | (go_at_call 17; have hz' := Ha2; refine Ha2.out.mono ?_; rintro e y2 ⟨N2, rfl, hT2, hu2, hkk2⟩; replace hg1 := (hT1.at_.keep hkk2 hg1 (by decide) (by decide) (by decide)); replace hg2 := (hT1.at_.keep hkk2 hg2 (by decide) (by decide) (by decide)); replace hg3 := (hT1.at_.keep hkk2 hg3 (by decide) (by decide) (by decide)); replace hg4 := (hT1.at_.keep hkk2 hg4 (by decide) (by decide) (by decide)); replace hop := (hT1.at_.keep hkk2 hop (by decide) (by decide) (by decide)); obtain ⟨o0, o1, o2, o3, o4, o5, o6⟩ := blk7 hop; clear hz' Ha2; have Ha3 := Lib.hid (acc_k (c := 0) hT2 hu2 (by rw [hu2]; exact hks) kiz kst rfl kz3)) | (go_at_call 17; have hz' := Ha1; refine Ha1.out.mono ?_; rintro e y1 ⟨N1, rfl, hT1, hu1, hkk1⟩; replace hg1 := (hR9.at_.keep hkk1 hg1 (by decide) (by decide) (by decide)); replace hg2 := (hR9.at_.keep hkk1 hg2 (by decide) (by decide) (by decide)); replace hg3 := (hR9.at_.keep hkk1 hg3 (by decide) (by decide) (by decide)); replace hg4 := (hR9.at_.keep hkk1 hg4 (by decide) (by decide) (by decide)); replace hop := (hR9.at_.keep hkk1 hop (by decide) (by decide) (by decide)); obtain ⟨o0, o1, o2, o3, o4, o5, o6⟩ := blk7 hop; clear hz' Ha1; have Ha2 := Lib.hid (acc_k (c := 0) hT1 hu1 (by rw [hu1]; exact hks) kiz kst rfl kz2)))
  clear hT1 hT2 hu1 hu2 hkk1 hkk2 hkk3 hR9 hR8 hst8 hok8 hb9
  have hR8 := hT3
  have hst8 := hu3
  have hok8 : MSok N3.st 100 := by rw [hu3]; exact hkq
  clear hT3 hu3
  have Hdo9 := Lib.hid (do_k (c := 0) hR8 hst8 hok8 (by omega) ki9 k9)
  go_wp2_with (go_at_call 16; refine Hdo9.out.mono ?_; rintro e v9 ⟨M9, rfl, hQ9, hst9, hk9, hok9⟩; have ha1 := (hR8.at_.keep hk9 hg1 (by decide) (by decide) (by decide)); have ha2 := (hR8.at_.keep hk9 hg2 (by decide) (by decide) (by decide)); have ha3 := (hR8.at_.keep hk9 hg3 (by decide) (by decide) (by decide)); have ha4 := (hR8.at_.keep hk9 hg4 (by decide) (by decide) (by decide)); have hob := hR8.at_.keep hk9 hop (by decide) (by decide) (by decide); obtain ⟨V9, hs9, hg1, hV9, hW9⟩ := rput_pkg ha1 rfl ({}); have hR9 := hW9 hQ9 hl1; replace hg2 := (hV9 _ (hn12.symm)).trans ha2; replace hg3 := (hV9 _ (hn13.symm)).trans ha3; replace hg4 := (hV9 _ (hn14.symm)).trans ha4; clear ha1 ha2 ha3 ha4; replace hop := (hV9 _ hno1).trans hob; clear hob; clear Hdo9)
  clear hs9 hV9 hW9 hR8 hst8 hok8 hQ9 hk9
  have Hdo10 := Lib.hid (do_k (c := 0) hR9 hst9 hok9 (by omega) ki10 k10)
  go_wp2_with (go_at_call 16; refine Hdo10.out.mono ?_; rintro e v10 ⟨M10, rfl, hQ10, hst10, hk10, hok10⟩; have ha1 := (hR9.at_.keep hk10 hg1 (by decide) (by decide) (by decide)); have ha2 := (hR9.at_.keep hk10 hg2 (by decide) (by decide) (by decide)); have ha3 := (hR9.at_.keep hk10 hg3 (by decide) (by decide) (by decide)); have ha4 := (hR9.at_.keep hk10 hg4 (by decide) (by decide) (by decide)); have hob := hR9.at_.keep hk10 hop (by decide) (by decide) (by decide); obtain ⟨V10, hs10, hg2, hV10, hW10⟩ := rput_pkg ha2 rfl (failR 13); have hR10 := hW10 hQ10 hl2; replace hg1 := (hV10 _ (hn12)).trans ha1; replace hg3 := (hV10 _ (hn23.symm)).trans ha3; replace hg4 := (hV10 _ (hn24.symm)).trans ha4; clear ha1 ha2 ha3 ha4; replace hop := (hV10 _ hno2).trans hob; clear hob; clear Hdo10)
  clear hs10 hV10 hW10 hR9 hst9 hok9 hQ10 hk10
  have Hdo11 := Lib.hid (do_k (c := 0) hR10 hst10 hok10 (by omega) ki11 k11)
  go_wp2_with (go_at_call 16; refine Hdo11.out.mono ?_; rintro e v11 ⟨M11, rfl, hQ11, hst11, hk11, hok11⟩; have ha1 := (hR10.at_.keep hk11 hg1 (by decide) (by decide) (by decide)); have ha2 := (hR10.at_.keep hk11 hg2 (by decide) (by decide) (by decide)); have ha3 := (hR10.at_.keep hk11 hg3 (by decide) (by decide) (by decide)); have ha4 := (hR10.at_.keep hk11 hg4 (by decide) (by decide) (by decide)); have hob := hR10.at_.keep hk11 hop (by decide) (by decide) (by decide); obtain ⟨V11, hs11, hg3, hV11, hW11⟩ := rput_pkg ha3 rfl ({}); have hR11 := hW11 hQ11 hl3; replace hg1 := (hV11 _ (hn13)).trans ha1; replace hg2 := (hV11 _ (hn23)).trans ha2; replace hg4 := (hV11 _ (hn34.symm)).trans ha4; clear ha1 ha2 ha3 ha4; replace hop := (hV11 _ hno3).trans hob; clear hob; clear Hdo11)
  clear hs11 hV11 hW11 hR10 hst10 hok10 hQ11 hk11
  have Hdo12 := Lib.hid (do_k (c := 1) hR11 hst11 hok11 (by omega) ki2 k12)
  go_wp2_with (go_at_call 16; refine Hdo12.out.mono ?_; rintro e v12 ⟨M12, rfl, hQ12, hst12, hk12, hok12⟩; have ha1 := (hR11.at_.keep hk12 hg1 (by decide) (by decide) (by decide)); have ha2 := (hR11.at_.keep hk12 hg2 (by decide) (by decide) (by decide)); have ha3 := (hR11.at_.keep hk12 hg3 (by decide) (by decide) (by decide)); have ha4 := (hR11.at_.keep hk12 hg4 (by decide) (by decide) (by decide)); have hob := hR11.at_.keep hk12 hop (by decide) (by decide) (by decide); obtain ⟨V12, hs12, hg4, hV12, hW12⟩ := rput_pkg ha4 rfl (failR 3); have hR12 := hW12 hQ12 hl4; replace hg1 := (hV12 _ (hn14)).trans ha1; replace hg2 := (hV12 _ (hn24)).trans ha2; replace hg3 := (hV12 _ (hn34)).trans ha3; clear ha1 ha2 ha3 ha4; replace hop := (hV12 _ hno4).trans hob; clear hob; have a0 : V12.cell? ⟨v1.heap.size, 0, none⟩ = some (.int .i64 0) := (blk13 hg1).1; have b0 : V12.cell? ⟨v2.heap.size, 0, none⟩ = some (.int .i64 13) := (blk13 hg2).1; have c0 : V12.cell? ⟨v3.heap.size, 0, none⟩ = some (.int .i64 0) := (blk13 hg3).1; have d0 : V12.cell? ⟨v4.heap.size, 0, none⟩ = some (.int .i64 3) := (blk13 hg4).1; obtain ⟨o0, o1, o2, o3, o4, o5, o6⟩ := blk7 hop; have hCL : M12.closed = true := congrArg MS.closed hst12; clear Hdo12)
  clear hs12 hV12 hW12 hR11 hst11 hok11 hQ12 hk12
  go_wp2_with (first | (go_at_call 30; refine (closed_any b M12 _ hR12.at_).mono ?_; rw [hCL]; rintro e z1 ⟨rfl, rfl⟩) | (go_at_call 16; refine (do_nil 0 kqz _).mono ?_; rintro e z2 ⟨rfl, hz2⟩; replace hop := (hz2.block _ (Array.getElem?_eq_some_iff.1 hop).1).trans hop; obtain ⟨o0, o1, o2, o3, o4, o5, o6⟩ := blk7 hop) | (go_at_call 17; refine (accept_nil 0 kqz { err := 1 } {} _).mono ?_; rintro e z3 ⟨rfl, hz3⟩) | (go_at_call 15; refine (copy_nil _).mono ?_; rintro e z4 ⟨rfl, rfl⟩) | (go_at_call 18; refine (key_nil _).mono ?_; rintro e z5 ⟨rfl, rfl⟩) | (go_at_call 27; refine (text_nil _).mono ?_; rintro e z6 ⟨rfl, rfl⟩) | (go_at_call 33; refine (held_nil _ _).mono ?_; rintro e z7 ⟨rfl, rfl⟩))
  go_returns
  exact ⟨rfl, hR12.bl.trans ((hz2.trans (hz3.mono hz2.size)).mono hR12.bl.size)⟩
end Go.Proofs.YtlealeecmmpckaaGreat
