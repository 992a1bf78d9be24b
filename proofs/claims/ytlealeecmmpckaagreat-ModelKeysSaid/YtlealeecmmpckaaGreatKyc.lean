/- The texts RcD. -/
import Derived.Test.YtlealeecmmpckaaGreatKug
import Derived.Test.YtlealeecmmpckaaGreatKxi
import Derived.Test.YtlealeecmmpckaaGreatKxc
import Derived.Test.YtlealeecmmpckaaGreatKyb
namespace Go.Proofs.YtlealeecmmpckaaGreat
set_option linter.unusedVariables false
set_option linter.unusedSimpArgs false
set_option maxRecDepth 100000
set_option maxHeartbeats 8000000
open Go.RowKit Go.Lib Go.Shelf
theorem rstate_eq (ba bb : Nat) (A B : RM) (w : World) (hA : RdAt w ba A) (hB : RdAt w bb B) {K J : Int} (okA : MSok A.st K) (okB : MSok B.st J) (e1 : A.seats.length = B.seats.length) (e2 : A.readers = B.readers) (e3 : A.text = B.text) (e4 : A.number = B.number) (e5 : A.closed = B.closed) (e6 : A.marks = B.marks) :
    Calls Tryz.prog 26 #[.pointer (some ⟨ba, 0, none⟩), .pointer (some ⟨bb, 0, none⟩)] w fun e w' => (∃ x, e = .returned (.bool x) ∧ (x = true ↔ A.st = B.st)) ∧ Below w.heap.size w w' := by
  have hB' := hB
  obtain ⟨a0, a1, a2, a3, a4, a5, _⟩ := hA.cs
  obtain ⟨b0, b1, b2, b3, b4, b5, _⟩ := hB.cs
  obtain ⟨am, cm, hmv⟩ := own_slice hA.marks
  obtain ⟨bm, dm, hnv⟩ := own_slice hB.marks
  have hmA := hA.marks
  have hmB := hB.marks
  rw [hmv] at a3 hmA
  rw [hnv] at b3 hmB
  obtain ⟨hr1, hc1⟩ := mrow_own rfl hmA
  obtain ⟨hr2, hc2⟩ := mrow_own rfl hmB
  have hl1 : A.marks.length ≤ 64 := okA.marks.1
  have hl2 : B.marks.length ≤ 64 := okB.marks.1
  have hsm := fun W (hW : Below w.heap.size w W) => refMSame_any am bm cm dm A.marks B.marks W (hr1.on hW) (hr2.on hW) hc1 hc2 (by omega) (by omega)
  rw [show decide (A.marks = B.marks) = true by simpa using e6] at hsm
  have HSM := Lib.hid hsm
  clear hsm
  have hE := rst_ext e2 e3 e4 e5 e6
  have hcl : A.seats.length ≤ 8 := by have := okA.clients; have h2 : A.st.seats.length = A.seats.length := List.length_map ..; omega
  have hr8 : A.readers ≤ 8 := okA.readers
  have lA : ∀ S ∈ A.seats, S.sl.length = A.readers ∧ ∀ x ∈ S.sl, x.s.marks.length ≤ 64 := fun S hS => by
    obtain ⟨h1, h2⟩ := okA.slots S.st (List.mem_map.2 ⟨S, hS, rfl⟩)
    have h3 : S.st.slots.length = S.sl.length := List.length_map ..
    exact ⟨by rw [← h3]; exact h1, fun x hx => (h2 x.s (List.mem_map.2 ⟨x, hx, rfl⟩)).2.1.1⟩
  have lB : ∀ S ∈ B.seats, S.sl.length = A.readers ∧ ∀ x ∈ S.sl, x.s.marks.length ≤ 64 := fun S hS => by
    obtain ⟨h1, h2⟩ := okB.slots S.st (List.mem_map.2 ⟨S, hS, rfl⟩)
    have h3 : S.st.slots.length = S.sl.length := List.length_map ..
    exact ⟨by rw [← h3, e2]; exact h1, fun x hx => (h2 x.s (List.mem_map.2 ⟨x, hx, rfl⟩)).2.1.1⟩
  rw [← e1] at b0
  rw [← e2] at b1
  rw [← e3] at b2
  rw [← e4] at b4
  rw [← e5] at b5
  have kx : ∀ W, Below w.heap.size w W → (W.cell? ⟨ba, 0, none⟩ = some (.int .i64 A.seats.length) ∧ W.cell? ⟨ba, 1, none⟩ = some (.int .i64 A.readers) ∧ W.cell? ⟨ba, 2, none⟩ = some (.string A.text) ∧ W.cell? ⟨ba, 4, none⟩ = some (.int .i64 A.number) ∧ W.cell? ⟨ba, 5, none⟩ = some (.bool A.closed) ∧ W.cell? ⟨ba, 3, none⟩ = some (.slice am A.marks.length cm)) ∧ W.cell? ⟨bb, 0, none⟩ = some (.int .i64 A.seats.length) ∧ W.cell? ⟨bb, 1, none⟩ = some (.int .i64 A.readers) ∧ W.cell? ⟨bb, 2, none⟩ = some (.string A.text) ∧ W.cell? ⟨bb, 4, none⟩ = some (.int .i64 A.number) ∧ W.cell? ⟨bb, 5, none⟩ = some (.bool A.closed) ∧ W.cell? ⟨bb, 3, none⟩ = some (.slice bm B.marks.length dm) := fun W h => ⟨⟨cell_below a0 h, cell_below a1 h, cell_below a2 h, cell_below a4 h, cell_below a5 h, cell_below a3 h⟩, cell_below b0 h, cell_below b1 h, cell_below b2 h, cell_below b4 h, cell_below b5 h, cell_below b3 h⟩
  have Kx := Lib.hid kx
  have hx0 : Below w.heap.size w w.drew := (Below.refl _ _).drew
  clear kx
  have E1 := Lib.hid e1
  have HE := Lib.hid hE
  have LA := Lib.hid lA
  have LB := Lib.hid lB
  have HA := Lib.hid hA
  have HB := Lib.hid hB
  clear e1 e2 e3 e4 e5 e6 hE lA lB hA hB hB' hmA hmB okA okB hr1 hr2 hc1 hc2
  go_enter Tryz.func26, Tryz.ntmps26
  go_wp2
  refine wp_region_noPanic ?_
  refine wp_region_held_drew (S := fun W => (W.cell? ⟨ba, 0, none⟩ = some (.int .i64 A.seats.length) ∧ W.cell? ⟨ba, 1, none⟩ = some (.int .i64 A.readers) ∧ W.cell? ⟨ba, 2, none⟩ = some (.string A.text) ∧ W.cell? ⟨ba, 4, none⟩ = some (.int .i64 A.number) ∧ W.cell? ⟨ba, 5, none⟩ = some (.bool A.closed) ∧ W.cell? ⟨ba, 3, none⟩ = some (.slice am A.marks.length cm)) ∧ W.cell? ⟨bb, 0, none⟩ = some (.int .i64 A.seats.length) ∧ W.cell? ⟨bb, 1, none⟩ = some (.int .i64 A.readers) ∧ W.cell? ⟨bb, 2, none⟩ = some (.string A.text) ∧ W.cell? ⟨bb, 4, none⟩ = some (.int .i64 A.number) ∧ W.cell? ⟨bb, 5, none⟩ = some (.bool A.closed) ∧ W.cell? ⟨bb, 3, none⟩ = some (.slice bm B.marks.length dm)) (by kernel_rfl) ?_ (fun hHeld => ?_)
  · first | exact Kx.out _ hb1' | exact Kx.out _ hx0
  iterate 62 (first | (refine np_sn ?_; (try simp only [nSO])) | ((first | refine np_n ?_ ?_ ?_ | refine np_t 0 ?_ ?_ ?_); rotate_left 1; (· (intro w hSw; (try dsimp only at hSw); go_simp; all_goals with_reducible rfl)); (try simp only [nSO])))
  first | (refine np_s 62 ?_; (try simp only [nSO])) | (refine np_step (i := 62) rfl (by kernel_rfl) (fun K hK => ?_); rw [if_pos (by rfl)]; go_simp; ((go_at_call 53; refine (HSM.out _ hx0).mono ?_; rintro e w1 ⟨rfl, hb1⟩; have hb1' := hx0.trans (hb1.mono hx0.size))); (try go_wp2_with fail); refine hK.out _ _ ?_ (fun hHeld => ?_); (· (first | exact Kx.out _ hb1' | exact Kx.out _ hx0)); clear hK K; (try simp only [nSO]))
  iterate 2 (first | (refine np_sn ?_; (try simp only [nSO])) | (refine np_n ?_ ?_ ?_; rotate_left 1; (· (intro w hSw; (try dsimp only at hSw); go_simp; all_goals with_reducible rfl)); (try simp only [nSO])))
  refine wpAnyH_done (by kernel_rfl) ?_ _
  refine NoPanic.normal ?_
  go_wp2
  clear b0 b1 b2 b3 b4 b5 a2 a3 a4 a5 HSM hl1 hl2 Kx hHeld hx0
  go_loopw [4, 5, 6, 72, 73, 74, 75, 76, 77, 78, 79, 80, 81, 82, 83, 84, 85, 86, 87, 88, 89, 90, 91, 92, 93, 94, 95, 96, 97, 98, 99, 100, 101, 102, 103, 104, 105, 106, 107, 108, 109, 110, 111, 112, 113, 114, 115, 116, 117, 118, 119, 120, 121, 122, 123, 124] (fun x4 i x6 x72 x73 x74 x75 x76 x77 x78 x79 x80 x81 x82 x83 x84 x85 x86 x87 x88 x89 x90 x91 x92 x93 x94 x95 x96 x97 x98 x99 x100 x101 x102 x103 x104 x105 x106 x107 x108 x109 x110 x111 x112 x113 x114 x115 x116 x117 x118 x119 x120 x121 x122 x123 x124 wr => ∃ k : Nat, i = .int .i64 k ∧ k ≤ A.seats.length ∧ Below w.heap.size w wr ∧ ∀ q, q < k → ∀ S T, A.seats[q]? = some S → B.seats[q]? = some T → S.st = T.st) (fun x4 i x6 x72 x73 x74 x75 x76 x77 x78 x79 x80 x81 x82 x83 x84 x85 x86 x87 x88 x89 x90 x91 x92 x93 x94 x95 x96 x97 x98 x99 x100 x101 x102 x103 x104 x105 x106 x107 x108 x109 x110 x111 x112 x113 x114 x115 x116 x117 x118 x119 x120 x121 x122 x123 x124 wr => A.seats.length - (intOf i).toNat)
  case atStart => exact ⟨0, rfl, by omega, hb1', fun q hq => absurd hq (by omega)⟩
  case round =>
    obtain ⟨k, rfl, hk, hBl, heq⟩ := hrel
    have HQ := Lib.hid heq
    clear heq hb1'
    have hAk := HA.out.below hBl
    have hBk := HB.out.below hBl
    have k0 := hAk.cs.1
    have k1 := hAk.cs.2.1
    have hmono := fun W (h : Below wr.heap.size wr W) => hBl.trans (h.mono hBl.size)
    by_cases hlt : k < A.seats.length
    · have hS := List.getElem?_eq_getElem hlt
      generalize A.seats[k] = S at hS
      have hT := List.getElem?_eq_getElem (l := B.seats) (i := k) (by rw [← E1.out]; exact hlt)
      generalize B.seats[k]'(by rw [← E1.out]; exact hlt) = T at hT
      obtain ⟨gs, cs, g, cp, gb, cb, cur, hSA⟩ := hAk.seatAt hS
      obtain ⟨gs2, cs2, g2, cp2, gb2, cb2, cur2, hSB⟩ := hBk.seatAt hT
      obtain ⟨lS, mS⟩ := LA.out S (List.mem_of_getElem? hS)
      obtain ⟨lT, mT⟩ := LB.out T (List.mem_of_getElem? hT)
      have q6 := hAk.c6 hSA.bv
      have q7 := hAk.c7 hSA.sv
      have p6 := hBk.c6 hSB.bv
      have p7 := hBk.c7 hSB.sv
      rw [← E1.out] at p6 p7
      have qb := hSA.b0
      have pb := hSB.b0
      have qr := hSA.c1
      have pr := hSB.c1
      rw [lS] at qr
      rw [lT] at pr
      have cap1 := hSA.cap
      have cap2 := hSB.cap
      have HSA := Lib.hid hSA
      have HSB := Lib.hid hSB
      have LS := Lib.hid lS
      have LT := Lib.hid lT
      have MS1 := Lib.hid mS
      have MS2 := Lib.hid mT
      clear hSA hSB lS lT mS mT hAk hBk
      go_wp2
      refine wp_region_noPanic ?_
      refine wp_region_held_drew (S := fun W => (W.cell? ⟨ba, 6, none⟩ = some (.slice (some ⟨gb, 0, none⟩) A.seats.length cb) ∧ W.cell? ⟨gb, k, none⟩ = some (.bool S.sub)) ∧ W.cell? ⟨bb, 6, none⟩ = some (.slice (some ⟨gb2, 0, none⟩) A.seats.length cb2) ∧ W.cell? ⟨gb2, k, none⟩ = some (.bool T.sub)) (by kernel_rfl) ?_ (fun hHeld => ?_)
      · exact ⟨⟨q6, qb⟩, p6, pb⟩
      iterate 15 (((first | refine np_n ?_ ?_ ?_ | refine np_t 0 ?_ ?_ ?_); rotate_left 1; (· (intro w hSw; (try dsimp only at hSw); go_simp; all_goals with_reducible rfl)); (try simp only [nSO])))
      refine wpAnyH_done (by kernel_rfl) ?_ _
      refine NoPanic.normal ?_
      have hd : Below w.heap.size w wr.drew := hBl.drew
      cases hsub : (S.sub == T.sub) with
      | false =>
        go_wp2
        go_returns
        refine ⟨⟨false, rfl, by simp, fun h => ?_⟩, hd⟩
        have h3 := congrArg (fun s : MS => s.seats[k]?) h
        have h4 : (A.seats.map (·.st))[k]? = (B.seats.map (·.st))[k]? := h3
        rw [List.getElem?_map, List.getElem?_map, hS, hT] at h4
        have h5 : S.st = T.st := by simpa using h4
        have h6 : S.sub = T.sub := congrArg SeV.sub h5
        rw [h6] at hsub; simp at hsub
      | true =>
        have SUB := Lib.hid hsub
        go_wp2
        clear hsub
        simp only [Bool.not_true]
        go_loopw [4, 6, 95, 96, 97, 98, 99, 100, 101, 102, 103, 104, 105, 106, 107, 108, 109, 110, 111, 112, 113, 114, 115, 116, 117, 118, 119, 120, 121, 122, 123, 124] (fun x4 j x95 x96 x97 x98 x99 x100 x101 x102 x103 x104 x105 x106 x107 x108 x109 x110 x111 x112 x113 x114 x115 x116 x117 x118 x119 x120 x121 x122 x123 x124 wv => ∃ m : Nat, j = .int .i64 m ∧ m ≤ A.readers ∧ Below wr.heap.size wr wv ∧ ∀ q, q < m → ∀ x y, S.sl[q]? = some x → T.sl[q]? = some y → x.s = y.s) (fun x4 j x95 x96 x97 x98 x99 x100 x101 x102 x103 x104 x105 x106 x107 x108 x109 x110 x111 x112 x113 x114 x115 x116 x117 x118 x119 x120 x121 x122 x123 x124 wv => A.readers - (intOf j).toNat)
        case atStart => exact ⟨0, rfl, by omega, (Below.refl _ _).drew, fun q hq => absurd hq (by omega)⟩
        case round =>
          obtain ⟨m, rfl, hm, hBv, heq⟩ := hrel
          have HX := Lib.hid heq
          clear heq
          have v1 := (HA.out.below (hmono _ hBv)).cs.2.1
          by_cases hlm : m < A.readers
          · have hx := List.getElem?_eq_getElem (l := S.sl) (i := m) (by rw [LS.out]; exact hlm)
            generalize S.sl[m]'(by rw [LS.out]; exact hlm) = x at hx
            have hy := List.getElem?_eq_getElem (l := T.sl) (i := m) (by rw [LT.out]; exact hlm)
            generalize T.sl[m]'(by rw [LT.out]; exact hlm) = y at hy
            have hSA := HSA.out.below hBv
            have hSB := HSB.out.below hBv
            have nx := hSA.sn m x hx
            have ny := hSB.sn m y hy
            obtain ⟨av, dv, hxv⟩ := own_slice nx.marks
            obtain ⟨bv, fv, hyv⟩ := own_slice ny.marks
            have mx := nx.marks
            have my := ny.marks
            rw [hxv] at mx
            rw [hyv] at my
            obtain ⟨rx, kx1⟩ := mrow_own rfl mx
            obtain ⟨ry, ky1⟩ := mrow_own rfl my
            obtain ⟨⟨s0, s1, s2, s3⟩, _⟩ := nx.cells
            obtain ⟨⟨t0, t1, t2, t3⟩, _⟩ := ny.cells
            rw [hxv] at s2
            rw [hyv] at t2
            have u7 := (HA.out.below (hmono _ hBv)).c7 hSA.sv
            have z7 := (HB.out.below (hmono _ hBv)).c7 hSB.sv
            rw [← E1.out] at z7
            have ur := hSA.c1
            have zr := hSB.c1
            rw [LS.out] at ur
            rw [LT.out] at zr
            have capx := hSA.cap
            have capy := hSB.cap
            rw [LS.out] at capx
            rw [LT.out] at capy
            have lx := MS1.out x (List.mem_of_getElem? hx)
            have ly := MS2.out y (List.mem_of_getElem? hy)
            have HSN := Lib.hid (fun W (h : Below wr.heap.size wr W) => rsnap_any x.s y.s av bv dv fv W (rx.on h) (ry.on h) kx1 ky1 (by omega) (by omega))
            have kx : ∀ W, Below wr.heap.size wr W → ((W.cell? ⟨ba, 7, none⟩ = some (.slice (some ⟨gs, 0, none⟩) A.seats.length cs) ∧ W.cell? ⟨gs, k, none⟩ = some (.slice (some ⟨g, 0, none⟩) A.readers cp)) ∧ W.cell? ⟨bb, 7, none⟩ = some (.slice (some ⟨gs2, 0, none⟩) A.seats.length cs2) ∧ W.cell? ⟨gs2, k, none⟩ = some (.slice (some ⟨g2, 0, none⟩) A.readers cp2)) ∧
                (W.cell? ⟨g, m * 4, none⟩ = some (.bool x.s.held) ∧ W.cell? ⟨g, m * 4 + 1, none⟩ = some (.string x.s.text) ∧ W.cell? ⟨g, m * 4 + 2, none⟩ = some (.slice av x.s.marks.length dv) ∧ W.cell? ⟨g, m * 4 + 3, none⟩ = some (.int .i64 x.s.cursor)) ∧
                W.cell? ⟨g2, m * 4, none⟩ = some (.bool y.s.held) ∧ W.cell? ⟨g2, m * 4 + 1, none⟩ = some (.string y.s.text) ∧ W.cell? ⟨g2, m * 4 + 2, none⟩ = some (.slice bv y.s.marks.length fv) ∧ W.cell? ⟨g2, m * 4 + 3, none⟩ = some (.int .i64 y.s.cursor) := fun W h =>
              ⟨⟨⟨cell_below u7 h, cell_below ur h⟩, cell_below z7 h, cell_below zr h⟩, ⟨cell_below s0 h, cell_below s1 h, cell_below s2 h, cell_below s3 h⟩, cell_below t0 h, cell_below t1 h, cell_below t2 h, cell_below t3 h⟩
            have Kx := Lib.hid kx
            have hv0 : Below wr.heap.size wr wr.drew := (Below.refl _ _).drew
            clear kx hSA hSB nx ny mx my rx ry hxv hyv s0 s1 s2 s3 t0 t1 t2 t3 u7 z7 ur zr q6 q7 p6 p7 qb pb qr pr
            go_wp2
            refine wp_region_noPanic ?_
            refine wp_region_held_drew (S := fun W => ((W.cell? ⟨ba, 7, none⟩ = some (.slice (some ⟨gs, 0, none⟩) A.seats.length cs) ∧ W.cell? ⟨gs, k, none⟩ = some (.slice (some ⟨g, 0, none⟩) A.readers cp)) ∧ W.cell? ⟨bb, 7, none⟩ = some (.slice (some ⟨gs2, 0, none⟩) A.seats.length cs2) ∧ W.cell? ⟨gs2, k, none⟩ = some (.slice (some ⟨g2, 0, none⟩) A.readers cp2)) ∧ (W.cell? ⟨g, m * 4, none⟩ = some (.bool x.s.held) ∧ W.cell? ⟨g, m * 4 + 1, none⟩ = some (.string x.s.text) ∧ W.cell? ⟨g, m * 4 + 2, none⟩ = some (.slice av x.s.marks.length dv) ∧ W.cell? ⟨g, m * 4 + 3, none⟩ = some (.int .i64 x.s.cursor)) ∧ W.cell? ⟨g2, m * 4, none⟩ = some (.bool y.s.held) ∧ W.cell? ⟨g2, m * 4 + 1, none⟩ = some (.string y.s.text) ∧ W.cell? ⟨g2, m * 4 + 2, none⟩ = some (.slice bv y.s.marks.length fv) ∧ W.cell? ⟨g2, m * 4 + 3, none⟩ = some (.int .i64 y.s.cursor)) (by kernel_rfl) ?_ (fun hHeld => ?_)
            · first | exact Kx.out _ hb5' | exact Kx.out _ hv0
            iterate 20 (((first | refine np_n ?_ ?_ ?_ | refine np_t 0 ?_ ?_ ?_); rotate_left 1; (· (intro w hSw; (try dsimp only at hSw); go_simp; all_goals with_reducible rfl)); (try simp only [nSO])))
            (refine np_step (i := 20) rfl (by kernel_rfl) (fun K hK => ?_); rw [if_pos (by rfl)]; go_simp; ((go_at_call 62; refine (HSN.out _ hv0).mono ?_; rintro e w5 ⟨rfl, hb5⟩; have hb5' := hv0.trans (hb5.mono hv0.size))); (try go_wp2_with fail); refine hK.out _ _ ?_ (fun hHeld => ?_); (· (first | exact Kx.out _ hb5' | exact Kx.out _ hv0)); clear hK K; (try simp only [nSO]))
            (refine np_n ?_ ?_ ?_; rotate_left 1; (· (intro w hSw; (try dsimp only at hSw); go_simp; all_goals with_reducible rfl)); (try simp only [nSO]))
            refine wpAnyH_done (by kernel_rfl) ?_ _
            refine NoPanic.normal ?_
            have hB5 := hBv.trans (hb5'.mono hBv.size)
            cases hsn : snB x.s y.s with
            | false =>
              go_wp2
              go_returns
              refine ⟨⟨false, rfl, by simp, fun h => ?_⟩, hmono _ hB5⟩
              have h3 := congrArg (fun s : MS => s.seats[k]?) h
              have h4 : (A.seats.map (·.st))[k]? = (B.seats.map (·.st))[k]? := h3
              rw [List.getElem?_map, List.getElem?_map, hS, hT] at h4
              have h5 : S.st = T.st := by simpa using h4
              have h6 : S.sl.map (·.s) = T.sl.map (·.s) := congrArg SeV.slots h5
              have h7 := congrArg (fun l => l[m]?) h6
              rw [List.getElem?_map, List.getElem?_map, hx, hy] at h7
              have h8 : x.s = y.s := by simpa using h7
              rw [(snB_iff x.s y.s).2 h8] at hsn; cases hsn
            | true =>
              have hxy := (snB_iff x.s y.s).1 hsn
              have HXY := Lib.hid hxy
              clear hxy
              go_wp2
              go_roundw
              case rel => exact ⟨m + 1, by go_num, by omega, hB5, fun q hq x' y' h1 h2 => (by
                by_cases hqm : q = m
                · subst hqm; rw [hx] at h1; rw [hy] at h2; injection h1 with h1; injection h2 with h2; subst h1; subst h2; exact HXY.out
                · exact HX.out q (by omega) x' y' h1 h2)⟩
              case measure => simp [intOf]; omega
          · obtain rfl : m = A.readers := by omega
            have hst : S.st = T.st := by
              have h1 : S.sub = T.sub := by simpa using SUB.out
              have h2 : S.sl.map (·.s) = T.sl.map (·.s) := map_ext_get (by rw [LS.out, LT.out]) (fun q x y h1 h2 => HX.out q (by have := (List.getElem?_eq_some_iff.1 h1).1; rw [LS.out] at this; exact this) x y h1 h2)
              unfold SeM.st; rw [h1, h2]
            have HST := Lib.hid hst
            clear hst
            have hBw := hmono _ hBv
            go_wp2
            go_roundw
            case rel => exact ⟨k + 1, by go_num, by omega, hBw, fun q hq S' T' h1 h2 => (by
              by_cases hqk : q = k
              · subst hqk; rw [hS] at h1; rw [hT] at h2; injection h1 with h1; injection h2 with h2; subst h1; subst h2; exact HST.out
              · exact HQ.out q (by omega) S' T' h1 h2)⟩
            case measure => simp [intOf]; omega
    · obtain rfl : k = A.seats.length := by omega
      go_wp2
      go_returns
      exact ⟨⟨true, rfl, fun _ => HE.out (map_ext_get E1.out (fun q S T h1 h2 => HQ.out q (List.getElem?_eq_some_iff.1 h1).1 S T h1 h2)), fun _ => rfl⟩, hBl⟩
theorem rstate_any (ba bb : Nat) (A B : RM) (w : World) (hA : RdAt w ba A) (hB : RdAt w bb B) {K J : Int} (okA : MSok A.st K) (okB : MSok B.st J) :
    Calls Tryz.prog 26 #[.pointer (some ⟨ba, 0, none⟩), .pointer (some ⟨bb, 0, none⟩)] w fun e w' => (∃ x, e = .returned (.bool x) ∧ (x = true ↔ A.st = B.st)) ∧ Below w.heap.size w w' := by
  by_cases h : A.seats.length = B.seats.length ∧ A.readers = B.readers ∧ A.text = B.text ∧ A.number = B.number ∧ A.closed = B.closed ∧ A.marks = B.marks
  · obtain ⟨e1, e2, e3, e4, e5, e6⟩ := h
    exact rstate_eq ba bb A B w hA hB okA okB e1 e2 e3 e4 e5 e6
  · refine (rstate_ne ba bb A B w hA hB okA okB h).mono ?_
    rintro e w' ⟨rfl, hb⟩
    exact ⟨⟨false, rfl, by simp, fun hs => absurd (rst_parts hs) h⟩, hb⟩
end Go.Proofs.YtlealeecmmpckaaGreat
