/- HistoryMatches: the walk. -/
import Derived.Test.YtjinnlmmlbmodaaHrH
namespace Go.Proofs.Ytjinnlmmlbmodaa
open Go.RowKit Go.Lib Go.Shelf
open KitI (iv IRow own_below infoI eqi_any)
attribute [local go_sem, local simp] callL_0 callL_1 callL_2 callL_3 callL_4 callL_5 callL_6 callL_7 callL_8 callL_9 callL_10 callL_11 callL_12 callL_13 callL_14 callL_15 callL_16 callL_17 callL_18 callL_19 callL_20 callL_21 callL_22 callL_23 callL_24 callL_25 callL_26 resL_0 resL_1 resL_2 resL_3 resL_4 resL_5 resL_6 resL_7 resL_8 resL_9 resL_10 resL_11 resL_12 callG_0 callG_1 callG_2 callG_3 callG_4 callG_5 callG_6 callG_7 callG_8 callG_9 callG_10 callG_11 callG_12 callG_13 callG_14 callG_15 callG_16 callG_17 callG_18 callG_19 callG_20 callG_21 callG_22 callG_23 callG_24 callG_25 callG_26 resG_0 resG_1 resG_2 resG_3 resG_4 resG_5 resG_6 resG_7 resG_8 resG_9 resG_10 resG_11 resG_12 callL_len resL_len
attribute [local go_sem ↓] loadCall_eq loadRes_eq
attribute [local go_sem] ld_new ld_first ld_second ldr_new st_new

theorem len_of {os L : List CallV} (h : os.map CallV.pure = L) (hl : L.length ≤ 24) : os.length ≤ 1000000 := by
  rw [← List.length_map (f := CallV.pure), h]; omega
theorem eqiS (W : World) (va vb : Value) (zs : List Int) (ha : IRow W va zs) (hb : IRow W vb zs) (hs : zs.length ≤ 1000000) : Calls Try.prog 25 #[va, vb] W fun e w' => e = .returned (.bool true) ∧ Below W.heap.size W w' := by
  have h := eqi_any W va vb zs zs ha hb hs hs
  rwa [decide_eq_true rfl] at h
set_option linter.unusedSimpArgs false in
set_option maxRecDepth 100000 in
set_option maxHeartbeats 4000000 in
theorem matches_any (p : Option Addr) (cap : Nat) (cs : List CallV) (t s : Int) (w : World) (hA : ArgRow w p cs) : Calls Try.prog 18 #[.slice p cs.length cap, .int .i64 t, .int .i64 s] w fun e w' => e = .returned (.bool true) ∧ Below w.heap.size w w' := by
  obtain ⟨k, ec, CK⟩ := ck_two (fewL cs) (few_idem cs)
  have OF := of_two (fewL cs) (few_idem cs) t
  obtain ⟨XP, hXP, PD⟩ := pend_two (fewL cs) (few_idem cs)
  obtain ⟨XE, ge, hXE, EF⟩ := eff_two (fewL cs) (few_idem cs) (few_len cs)
  obtain ⟨XF, gf, hXF, hXFi, PF⟩ := pref_two (fewL cs) (few_idem cs) (few_len cs) s
  have hXP24 : XP.length ≤ 24 := Nat.le_trans hXP (few_len cs)
  have hof24 : ((thF t (fewL cs)).map CallV.pure).length ≤ 24 := by rw [List.length_map]; exact Nat.le_trans (thF_len _ _) (few_len cs)
  have CK' := Lib.hid CK
  have OF' := Lib.hid OF
  have PD' := Lib.hid PD
  have EF' := Lib.hid EF
  have PF' := Lib.hid PF
  clear CK OF PD EF PF hXP hXFi
  go_enter Try.func18, Try.ntmps18
  go_wp2_with fail
  refine (few_h p cap cs w hA).mono ?_
  rintro e w1 ⟨p1, cap1, hs, rfl, hm, hH1, hB1⟩
  have hI : MI w p cs p1 cap1 hs w1 := ⟨hH1, hA.on hB1, hB1⟩
  have Hm := Lib.hid hm
  clear hH1 hB1 hm
  go_wp2
  refine wp_loop (MtI w p cap cs t s p1 cap1 hs) (fun a _ => 2 - (intOf (a.tmps.getD 8 undef)).toNat) ?_ ?_
  · exact MtI.intro 0 rfl (by omega) hI
  · clear hI
    rintro a wr ⟨r, u, rfl, hr, hI⟩
    by_cases hr2 : r < 2
    · have hr2' := hr2
      go_wp2_with fail
      refine ((CK'.out hs p1 cap1 _ Hm.out hI.h).1).mono ?_
      rintro e v0 ⟨rfl, hb⟩
      replace hI := hI.on hb
      clear hb
      go_wp2_with fail
      refine (few_h p cap cs _ hI.a).mono ?_
      rintro e v1 ⟨pf, cf, fs, rfl, hmf, hF, hb⟩
      replace hI := hI.on hb
      clear hb
      go_wp2_with fail
      refine ((CK'.out fs pf cf _ hmf hF).2).mono ?_
      rintro e v2 ⟨rfl, hb⟩
      replace hI := hI.on hb
      clear hb
      clear hF hmf
      have hIa := Lib.hid hI
      have hba := Below.refl v2.heap.size v2
      go_wp2_with fail
      refine ((OF'.out hs p1 cap1 _ Hm.out hI.h).1).mono ?_
      rintro e v3 ⟨vo, rfl, hO, hb⟩
      obtain ⟨po, co, os, rfl, hOR⟩ := OR.of hO (Nat.le_refl _) (Nat.le_refl _)
      replace hI := hI.on hb
      replace hba := hba.trans (hb.mono hba.size)
      clear hb
      clear hO
      have hbm := Below.refl v3.heap.size v3
      go_wp2_with fail
      refine ((PD'.out hs p1 cap1 _ Hm.out hI.h).1).mono ?_
      rintro e v4 ⟨vd, rfl, hD, hb⟩
      replace hI := hI.on hb
      replace hba := hba.trans (hb.mono hba.size)
      replace hOR := hOR.on hb
      replace hbm := hbm.trans (hb.mono hbm.size)
      clear hb
      go_wp2_with fail
      refine ((EF'.out hs p1 cap1 _ Hm.out hI.h).1).mono ?_
      rintro e v5 ⟨vx, rfl, hX, hb⟩
      replace hI := hI.on hb
      replace hba := hba.trans (hb.mono hba.size)
      replace hOR := hOR.on hb
      replace hbm := hbm.trans (hb.mono hbm.size)
      replace hD := hD.on hb
      clear hb
      go_wp2_with fail
      refine (few_h p cap cs _ hI.a).mono ?_
      rintro e v6 ⟨pf, cf, fs, rfl, hmf, hF, hb⟩
      replace hI := hI.on hb
      replace hba := hba.trans (hb.mono hba.size)
      replace hOR := hOR.on hb
      replace hbm := hbm.trans (hb.mono hbm.size)
      replace hD := hD.on hb
      replace hX := hX.on hb
      clear hb
      go_wp2_with fail
      refine ((EF'.out fs pf cf _ hmf hF).2).mono ?_
      rintro e v7 ⟨vy, rfl, hY, hb⟩
      replace hI := hI.on hb
      replace hba := hba.trans (hb.mono hba.size)
      replace hOR := hOR.on hb
      replace hbm := hbm.trans (hb.mono hbm.size)
      replace hD := hD.on hb
      replace hX := hX.on hb
      clear hb
      clear hF hmf
      have hsz := hba.size
      have hM1 := hbm.size
      clear hbm
      go_wp2_with fail
      refine ((PF'.out hs p1 cap1 _ Hm.out hI.h).1).mono ?_
      rintro e v8 ⟨vp, rfl, hP, hb⟩
      obtain ⟨pp, cp, ps, rfl, hPR⟩ := OR.of hP (N0 := v2.heap.size) hsz hsz
      have hq1 : v3.heap.size ≤ v7.heap.size := hM1
      have hq2 := hq1
      replace hI := hI.on hb
      replace hba := hba.trans (hb.mono hba.size)
      replace hOR := hOR.on hb
      replace hD := hD.on hb
      replace hX := hX.on hb
      replace hY := hY.on hb
      clear hb
      clear hP
      go_wp2_with fail
      refine (few_h p cap cs _ hI.a).mono ?_
      rintro e v9 ⟨pf, cf, fs, rfl, hmf, hF, hb⟩
      replace hI := hI.on hb
      replace hba := hba.trans (hb.mono hba.size)
      replace hOR := hOR.on hb
      replace hD := hD.on hb
      replace hX := hX.on hb
      replace hY := hY.on hb
      replace hPR := hPR.on hb
      clear hb
      go_wp2_with fail
      refine ((PF'.out fs pf cf _ hmf hF).2).mono ?_
      rintro e v10 ⟨vq, rfl, hQ, hb⟩
      obtain ⟨pq, cq, qs, rfl, hQR⟩ := OR.of hQ (Nat.le_refl _) (Nat.le_refl _)
      replace hI := hI.on hb
      replace hba := hba.trans (hb.mono hba.size)
      replace hOR := hOR.on hb
      replace hD := hD.on hb
      replace hX := hX.on hb
      replace hY := hY.on hb
      replace hPR := hPR.on hb
      clear hb
      clear hQ hF hmf
      have tk1 : (k == k) = true := by simp
      have tk2 : (k != k) = false := by simp
      have te1 : (ec == ec) = true := by simp
      have te2 : (ec != ec) = false := by simp
      have tg1 : (ge == ge) = true := by simp
      have tg2 : (ge != ge) = false := by simp
      have tf1 : (gf == gf) = true := by simp
      have tf2 : (gf != gf) = false := by simp
      go_wp2_with fail
      refine (few_h p cap cs _ hI.a).mono ?_
      rintro e v11 ⟨pf, cf, fs, rfl, hmf, hF, hb⟩
      replace hI := hI.on hb
      replace hba := hba.trans (hb.mono hba.size)
      replace hOR := hOR.on hb
      replace hD := hD.on hb
      replace hX := hX.on hb
      replace hY := hY.on hb
      replace hPR := hPR.on hb
      replace hQR := hQR.on hb
      clear hb
      go_wp2_with fail
      refine ((OF'.out fs pf cf _ hmf hF).2).mono ?_
      rintro e v12 ⟨vr, rfl, hO, hb⟩
      obtain ⟨pr, cr, rs, rfl, hRR⟩ := OR.of hO (Nat.le_refl _) (Nat.le_refl _)
      replace hI := hI.on hb
      replace hba := hba.trans (hb.mono hba.size)
      replace hOR := hOR.on hb
      replace hD := hD.on hb
      replace hX := hX.on hb
      replace hY := hY.on hb
      replace hPR := hPR.on hb
      replace hQR := hQR.on hb
      clear hb
      clear hO hF hmf
      go_wp2_with fail
      refine (eqcalls_same po pr co cr os rs _ (hOR.says.trans hRR.says.symm) (len_of hOR.says hof24) hOR.row hRR.row (fun c hc => (hOR.del c hc).at) (fun c hc => (hRR.del c hc).at)).mono ?_
      rintro e v13 ⟨rfl, hb⟩
      replace hI := hI.on hb
      replace hba := hba.trans (hb.mono hba.size)
      replace hOR := hOR.on hb
      replace hD := hD.on hb
      replace hX := hX.on hb
      replace hY := hY.on hb
      replace hPR := hPR.on hb
      replace hQR := hQR.on hb
      replace hRR := hRR.on hb
      clear hb
      clear hRR
      go_wp2_with fail
      refine (few_h p cap cs _ hI.a).mono ?_
      rintro e v14 ⟨pf, cf, fs, rfl, hmf, hF, hb⟩
      replace hI := hI.on hb
      replace hba := hba.trans (hb.mono hba.size)
      replace hOR := hOR.on hb
      replace hD := hD.on hb
      replace hX := hX.on hb
      replace hY := hY.on hb
      replace hPR := hPR.on hb
      replace hQR := hQR.on hb
      clear hb
      go_wp2_with fail
      refine ((PD'.out fs pf cf _ hmf hF).2).mono ?_
      rintro e v15 ⟨ve, rfl, hE, hb⟩
      replace hI := hI.on hb
      replace hba := hba.trans (hb.mono hba.size)
      replace hOR := hOR.on hb
      replace hD := hD.on hb
      replace hX := hX.on hb
      replace hY := hY.on hb
      replace hPR := hPR.on hb
      replace hQR := hQR.on hb
      clear hb
      clear hF hmf
      go_wp2_with fail
      refine (eqiS _ vd ve XP hD hE (by omega)).mono ?_
      rintro e v16 ⟨rfl, hb⟩
      replace hI := hI.on hb
      replace hba := hba.trans (hb.mono hba.size)
      replace hOR := hOR.on hb
      replace hD := hD.on hb
      replace hX := hX.on hb
      replace hY := hY.on hb
      replace hPR := hPR.on hb
      replace hQR := hQR.on hb
      replace hE := hE.on hb
      clear hb
      clear hE
      clear hD
      go_wp2_with fail
      refine (eqiS _ vx vy XE hX hY (by omega)).mono ?_
      rintro e v17 ⟨rfl, hb⟩
      replace hI := hI.on hb
      replace hba := hba.trans (hb.mono hba.size)
      replace hOR := hOR.on hb
      replace hX := hX.on hb
      replace hY := hY.on hb
      replace hPR := hPR.on hb
      replace hQR := hQR.on hb
      clear hb
      clear hX hY
      go_wp2_with fail
      refine (eqcalls_same pp pq cp cq ps qs _ (hPR.says.trans hQR.says.symm) (len_of hPR.says hXF) hPR.row hQR.row (fun c hc => (hPR.del c hc).at) (fun c hc => (hQR.del c hc).at)).mono ?_
      rintro e v18 ⟨rfl, hb⟩
      replace hI := hI.on hb
      replace hba := hba.trans (hb.mono hba.size)
      replace hOR := hOR.on hb
      replace hPR := hPR.on hb
      replace hQR := hQR.on hb
      clear hb
      clear hQR
      go_wp2_with fail
      refine (spoil_any hOR (len_of hOR.says hof24)).mono ?_
      rintro e vs ⟨⟨r1, rfl⟩, hbs, hup⟩
      replace hba := hba.trans hbs
      replace hPR := hPR.keep hup hq1 hq2
      clear hOR hbs hup hI
      go_wp2_with fail
      refine (spoil_any hPR (len_of hPR.says hXF)).mono ?_
      rintro e vt ⟨⟨r2, rfl⟩, hbs, _⟩
      replace hba := hba.trans hbs
      clear hPR hbs
      have hI := hIa.out.on hba
      clear hba hIa
      go_wp2_with fail
      refine (few_h p cap cs _ hI.a).mono ?_
      rintro e v19 ⟨pf, cf, fs, rfl, hmf, hF, hb⟩
      replace hI := hI.on hb
      clear hb
      have eqf := eqcalls_same p1 pf cap1 cf hs fs _ (Hm.out.trans hmf.symm) (by have := hI.h.len; omega) hI.h.row hF.row hI.h.dat hF.dat
      go_wp2_with fail
      refine (eqf).mono ?_
      rintro e v20 ⟨rfl, hb⟩
      replace hI := hI.on hb
      clear hb
      clear eqf hF hmf
      have HI := Lib.hid hI
      clear hI
      go_wp2
      exact ⟨MtI.intro (r + 1) rfl (by omega) HI.out, by simp [intOf]; omega⟩
    · have hrr : r = 2 := by omega
      subst hrr
      go_wp2_with fail
      refine (awake_any _).mono ?_
      rintro e w20 ⟨rfl, hb⟩
      have hI20 := hI.on hb
      go_wp2
      go_returns
      exact ⟨rfl, hI20.bl⟩
end Go.Proofs.Ytjinnlmmlbmodaa
