/- LinearFinds: the law returns true for every input, and leaves its arguments as they were. -/
import Derived.Test.YtdeiocppghhfdaaGreatQe
import Derived.Test.YtdeiocppghhfdaaGreatQd
import Derived.Test.YtdeiocppghhfdaaGreatPul
import Derived.Carry
namespace Go.Proofs.YtdeiocppghhfdaaGreat.Lin
set_option linter.unusedVariables false
set_option linter.unusedSimpArgs false
open Go.RowKit Go.Lib Go.Shelf
open Hs
open KitI (iv IRow own_below)
attribute [local go_sem, local simp] Hs.callL_0 Hs.callL_1 Hs.callL_2 Hs.callL_3 Hs.callL_4 Hs.callL_5 Hs.callL_6 Hs.callL_7 Hs.callL_8 Hs.callL_9 Hs.callL_10 Hs.callL_11 Hs.callL_12 Hs.callL_13 Hs.callL_14 Hs.callL_15 Hs.callL_16 Hs.callL_17 Hs.callL_18 Hs.callL_19 Hs.callL_20 Hs.callL_21 Hs.callL_22 Hs.callL_23 Hs.callL_24 Hs.callL_25 Hs.callL_26 Hs.resL_0 Hs.resL_1 Hs.resL_2 Hs.resL_3 Hs.resL_4 Hs.resL_5 Hs.resL_6 Hs.resL_7 Hs.resL_8 Hs.resL_9 Hs.resL_10 Hs.resL_11 Hs.resL_12 Hs.callG_0 Hs.callG_1 Hs.callG_2 Hs.callG_3 Hs.callG_4 Hs.callG_5 Hs.callG_6 Hs.callG_7 Hs.callG_8 Hs.callG_9 Hs.callG_10 Hs.callG_11 Hs.callG_12 Hs.callG_13 Hs.callG_14 Hs.callG_15 Hs.callG_16 Hs.callG_17 Hs.callG_18 Hs.callG_19 Hs.callG_20 Hs.callG_21 Hs.callG_22 Hs.callG_23 Hs.callG_24 Hs.callG_25 Hs.callG_26 Hs.resG_0 Hs.resG_1 Hs.resG_2 Hs.resG_3 Hs.resG_4 Hs.resG_5 Hs.resG_6 Hs.resG_7 Hs.resG_8 Hs.resG_9 Hs.resG_10 Hs.resG_11 Hs.resG_12 Hs.callL_len Hs.resL_len
attribute [local go_sem ↓] Hs.loadCall_eq Hs.loadRes_eq
attribute [local go_sem] Hs.ld_new Hs.ld_first Hs.ld_second Hs.ldr_new Hs.st_new
attribute [local go_sem ↓] loadCfg_eq
attribute [local go_sem, local simp] cfgL_len cfgL_ne
attribute [local irreducible] cfgL
set_option maxRecDepth 100000 in
set_option maxHeartbeats 4000000 in
theorem walkLinearFinds (c : CfgV) (po : Option Addr) (co : Nat) (o : List Int) (p : Option Addr) (cap : Nat) (cs : List CallV) (w : World) (hco : o.length ≤ co) (hI : ArgI w po o) (hA : ArgRow w p cs) :
    Calls Tryz.prog 6 #[.agg (cfgL c).toArray, .slice po o.length co, .slice p cs.length cap] w fun e w' => e = .returned (.bool true) ∧ Below w.heap.size w w' := by
  have hB0 : Below w.heap.size w (w.alloc (.cells (cfgL c).toArray tCfg)) := (Below.refl _ _).alloc (Nat.le_refl _) _
  have hz0 := blk_new w (cfgL c) tCfg
  have hl0 := ld_cfg hz0
  go_enter Tryz.func6, Tryz.ntmps6
  go_wp2_with fail
  refine (small36_l c _).mono ?_
  rintro e w1 ⟨rfl, hb1⟩
  have hz1 := blk_below hz0 hb1 (by simp)
  have hs1 := st_cfg hz1 (by simp [cfgL_len]) (smallC 100 c)
  have hz2 := setRow_heap _ _ _ (cfgL (smallC 100 c)).toArray _ _ hz1
  have hB1 : Below w.heap.size w (w1.setRow w.heap.size (cfgL (smallC 100 c)).toArray) := below_row (hB0.trans (hb1.mono hB0.size)) (Nat.le_refl _) _
  clear hl0 hz0 hb1 hz1
  generalize smallC 100 c = C at *
  go_wp2_with fail
  refine (few36_h 6 (by omega) p cap cs _ (hA.on hB1)).mono ?_
  rintro e w3 ⟨p', cap', hs, rfl, hpure, hrow, -, hb3⟩
  have hL : LawW w w3 C p' cap' hs := ⟨hB1.trans (hb3.mono hB1.size), blk_below hz2 hb3 (Array.getElem?_eq_some_iff.1 hz2).1, hrow⟩
  have hlen : hs.length ≤ 6 := by have := congrArg List.length hpure; rw [List.length_map] at this; have := fewN_len 6 cs; omega
  have hps : ∀ x ∈ hs, x.ps.length ≤ 1000000 := fun x hx => (hrow.dat x hx).1
  have hoks := hrow.ok
  clear hs1 hz2 hB1 hb3 hrow hpure hA
  have hm0 : 0 ≤ min (o.length : Int) 8 := by omega
  have hm1 : min (o.length : Int) 8 ≤ co := by omega
  have hmn : (min (o.length : Int) 8).toNat = (o.take 8).length := by rw [List.length_take]; omega
  have hI3 := (hI.on hL.bl).take 8
  have hld := hL.ld
  have hlw := finds_law C (o.take 8) hs
  obtain ⟨l1, l2, l3, l4, l5⟩ := hlw
  have hF := hL.find
  have hal := find_len C hs
  have hCk := fun W (h : LawW w W C p' cap' hs) => h.check
  have hCn := fun W (h : LawW w W C p' cap' hs) => h.count 50
  generalize (findP C hs).1 = a at *
  generalize (findP C hs).2.1 = fd at *
  generalize (findP C hs).2.2 = er at *
  rw [l1] at hCn
  generalize (countP C 50 hs).1 = n at *
  clear l1
  go_wp2_with fail
  refine hF.mono ?_
  rintro e w4 ⟨aa, qa, rfl, -, hIa, hb⟩
  have hL4 := hL.on hb
  have hI4 := hI3.on hb
  have hld := hL4.ld
  clear hb hF hL hI3
  go_wp2_with fail
  refine (hCk _ hL4).mono ?_
  rintro e w5 ⟨rfl, hb⟩
  have hL5 := hL4.on hb
  have hI5 := hI4.on hb
  have hIa5 := hIa.on hb
  have hld := hL5.ld
  clear hb hCk hL4 hI4 hIa
  go_wp2_with fail
  refine (hCn _ hL5).mono ?_
  rintro e w6 ⟨rfl, hb⟩
  have hL6 := hL5.on hb
  have hI6 := hI5.on hb
  have hIa6 := hIa5.on hb
  have hld := hL6.ld
  clear hb hCn hL5 hI5 hIa5
  have d2 : decide (50 < n) = false := by simp; omega
  have Hv := Lib.hid (And.intro l4 l5)
  have hV := fun W (h : LawW w W C p' cap' hs) (hi : IRd W po (o.take 8)) => h.valid (co := co) (n := min 8 o.length) (by rw [List.length_take]) hi (by rw [List.length_take]; omega)
  have hVa := fun W (h : LawW w W C p' cap' hs) (hi : IRd W aa (a.map fun (x : Nat) => (x : Int))) (ha : a.length ≤ 1000) => h.valid (co := qa) (n := a.length) (by rw [List.length_map]) hi (by rw [List.length_map]; omega)
  clear l3 l4 l5
  by_cases hbad : er ≠ 0 ∨ fd = false
  · obtain ⟨ha, hvv⟩ := Hv.out.1 hbad
    subst ha
    have dv : (validE C (o.take 8) hs != 0) = true := by simpa using hvv
    generalize validE C (o.take 8) hs = vv at *
    clear hVa
    cases fd with
    | true =>
      have d1 : decide (0 < n) = true := by simpa using l2
      have de : (er != 0) = true := by rcases hbad with h | h; simpa using h; cases h
      clear l2 hbad
      go_wp2_with fail
      refine (hV _ hL6 hI6).mono ?_
      rintro e w7 ⟨rfl, hb⟩
      have hL7 := hL6.on hb
      clear hV hb
      go_wp2_with fail
      refine hL7.awake.mono ?_
      rintro e w8 ⟨rfl, hb⟩
      go_wp2_with fail
      go_returns
      exact ⟨rfl, hb⟩
    | false =>
      have d1 : decide (0 < n) = false := by simpa using l2
      clear l2
      by_cases he : er = 0
      · subst he
        clear hbad
        go_wp2_with fail
        refine (hV _ hL6 hI6).mono ?_
        rintro e w7 ⟨rfl, hb⟩
        have hL7 := hL6.on hb
        clear hV hb
        go_wp2_with fail
        refine hL7.awake.mono ?_
        rintro e w8 ⟨rfl, hb⟩
        go_wp2_with fail
        go_returns
        exact ⟨rfl, hb⟩
      · have de : (er != 0) = true := by simpa using he
        clear hbad he
        go_wp2_with fail
        refine (hV _ hL6 hI6).mono ?_
        rintro e w7 ⟨rfl, hb⟩
        have hL7 := hL6.on hb
        clear hV hb
        go_wp2_with fail
        refine hL7.awake.mono ?_
        rintro e w8 ⟨rfl, hb⟩
        go_wp2_with fail
        go_returns
        exact ⟨rfl, hb⟩
  · obtain ⟨rfl, rfl⟩ : er = 0 ∧ fd = true := by
      constructor
      · exact Classical.byContradiction fun h => hbad (.inl h)
      · cases fd
        · exact absurd (.inr rfl) hbad
        · rfl
    have d1 : decide (0 < n) = true := by simpa using l2
    obtain ⟨hva, hvo⟩ := Hv.out.2 rfl rfl
    clear hbad l2
    have hVa6 := hVa _ hL6 hIa6 (by omega)
    rw [hva] at hVa6
    clear hVa hva
    go_wp2_with fail
    refine hVa6.mono ?_
    rintro e w7 ⟨rfl, hb⟩
    have hL7 := hL6.on hb
    have hI7 := hI6.on hb
    have hIa7 := hIa6.on hb
    have hld := hL7.ld
    clear hb hL6 hI6 hIa6 hVa6
    have hV7 := hV _ hL7 hI7
    by_cases hvz : validE C (o.take 8) hs = 0
    · obtain ⟨hl1, hl2⟩ := hvo hvz
      rw [hvz] at hV7
      clear hvo hV hvz
      go_wp2_with fail
      refine hV7.mono ?_
      rintro e w8 ⟨rfl, hb⟩
      have hL8 := hL7.on hb
      have hI8 := hI7.on hb
      have hIa8 := hIa7.on hb
      clear hb hV7 hL7 hI7 hIa7
      have hls := less_any po aa co qa (o.take 8) (a.map fun (x : Nat) => (x : Int)) w8 hI8 hIa8 (by rw [List.length_take]; omega) (by rw [List.length_map]; omega)
      rw [hl1, List.length_take, List.length_map] at hls
      go_wp2_with fail
      refine hls.mono ?_
      rintro e w9 ⟨rfl, hb⟩
      have hL9 := hL8.on hb
      have hI9 := hI8.on hb
      have hIa9 := hIa8.on hb
      clear hb hls hL8 hI8 hIa8
      have hls := less_any aa po qa co (a.map fun (x : Nat) => (x : Int)) (o.take 8) w9 hIa9 hI9 (by rw [List.length_map]; omega) (by rw [List.length_take]; omega)
      rw [List.length_take, List.length_map] at hls
      generalize lessZ (a.map fun (x : Nat) => (x : Int)) (o.take 8) = lz at *
      cases lz with
      | true =>
        have d3 : decide (n < 2) = false := by have := hl2 rfl; simpa using this
        go_wp2_with fail
        refine hls.mono ?_
        rintro e w10 ⟨rfl, hb⟩
        have hL10 := hL9.on hb
        go_wp2_with fail
        refine hL10.awake.mono ?_
        rintro e w11 ⟨rfl, hb⟩
        go_wp2_with fail
        go_returns
        exact ⟨rfl, hb⟩
      | false =>
        go_wp2_with fail
        refine hls.mono ?_
        rintro e w10 ⟨rfl, hb⟩
        have hL10 := hL9.on hb
        go_wp2_with fail
        refine hL10.awake.mono ?_
        rintro e w11 ⟨rfl, hb⟩
        go_wp2_with fail
        go_returns
        exact ⟨rfl, hb⟩
    · have dv : (validE C (o.take 8) hs == 0) = false := by simpa using hvz
      generalize validE C (o.take 8) hs = vv at *
      clear hvo hV hvz
      go_wp2_with fail
      refine hV7.mono ?_
      rintro e w8 ⟨rfl, hb⟩
      have hL8 := hL7.on hb
      go_wp2_with fail
      refine hL8.awake.mono ?_
      rintro e w11 ⟨rfl, hb⟩
      go_wp2_with fail
      go_returns
      exact ⟨rfl, hb⟩
end Go.Proofs.YtdeiocppghhfdaaGreat.Lin
namespace Go.Proofs.YtdeiocppghhfdaaGreat.linearFinds
set_option linter.unusedVariables false
set_option linter.unusedSimpArgs false
open Go.ChangeShapes Go.WideShapes Go.ChangeAt Go.RowKit
open Go.ChangeMaps (open_string shut_string)
open Lin Hs
set_option linter.unusedVariables false

set_option maxRecDepth 100000 in
theorem lifted (os : Os) (started : os.Started) (H : Type) (enc : TypeId × Value → H) :
    ReturnsInHanded {} Tryz.checked os 6 .any (Rows.linearFindsSpec.pre6 enc Tryz.prog Tryz.f6 Rows.linearFindsRow.domain false) (Rows.linearFindsSpec.post enc Tryz.prog Tryz.f6 false true false false) := by
  refine returnsInHanded_of_change_sized (C := Tryz.checked) own started (by kernel_rfl) Tryz.func6
    (ChangeSpec.witness6 (enc := enc) (C := Tryz.checked) false ⟨#[], #[.agg #[.int .i64 0, .int .u64 0, .int .i64 0, .int .i64 0, .int .i64 0, .int .i64 0, .int .i64 0, .string ⟨#[]⟩], .slice none 0 0, .slice none 0 0], []⟩ 8 (by kernel_rfl) (by kernel_rfl) (by kernel_rfl) (by kernel_rfl)) ?_
  intro W base args ds gs before hval0 hW hcnd hsz0 _
  have hval : ∀ (j : Nat) t v, Tryz.f6.params[j]? = some t → args[j]? = some v → Value.okWide Tryz.prog W .any base t v := hval0
  have hW' := hW
  obtain ⟨p, q, hA0, hV, rfl, hfz, hnd⟩ := hW
  have hA : DataW.TrodAll enc Tryz.prog W 0 (fun _ => true) true Tryz.f6.params.toList args.toList ds p := hA0
  rw [Tryz.params6] at hA hval
  obtain ⟨v0, vs0, d0, ds0, p0, q0, hargs, rfl, rfl, h0, r0⟩ := trodAll_cons hA
  obtain ⟨v1, vs1, d1, ds1, p1, q1, rfl, rfl, rfl, h1, r1⟩ := trodAll_cons r0
  obtain ⟨v2, vs2, d2, ds2, p2, q2, rfl, rfl, rfl, h2, r2⟩ := trodAll_cons r1
  obtain ⟨rfl, rfl, rfl⟩ := trodAll_nil r2
  obtain rfl : args = #[v0, v1, v2] := by cases args; simp_all
  obtain ⟨rfl, rfl⟩ := trodVars_none hV
  obtain ⟨c0, rfl⟩ := open_cfg (hval 0 24 v0 rfl rfl) h0
  obtain ⟨q1, c1, l1, rfl, u1, w1⟩ := open_ints (hval 1 28 v1 rfl rfl) h1
  obtain ⟨q2, c2, l2, rfl, w2⟩ := open_calls (hval 2 25 v2 rfl rfl) h2
  clear hA0 hval0
  (try simp only [List.append_nil, List.nil_append] at hW')
  refine (walkLinearFinds c0 q1 c1 l1 q2 c2 l2 W u1 w1 w2).mono fun e W' ⟨he, hg⟩ => ?_
  subst he
  have hlt0 : ∀ x ∈ p0, x.block < W.heap.size := fun x hx => hW'.lt x (by simp [hx])
  have hlt1 : ∀ x ∈ p1, x.block < W.heap.size := fun x hx => hW'.lt x (by simp [hx])
  have hlt2 : ∀ x ∈ p2, x.block < W.heap.size := fun x hx => hW'.lt x (by simp [hx])
  exact ⟨_, rfl, post_of_below (pa := (p0 ++ (p1 ++ (p2 ++ [])))) (pv := []) hW' (fun _ _ _ => (trodAll_cons_mk (shut_bool Tryz.underlying4 _) trodAll_mk0)) (fun sp hsp => (trodAll_cons_mk (WideElems.Trod_stays (by kernel_rfl) (by kernel_rfl) (of_decide_eq_true (by kernel_rfl)) h0 (fun x hx => hg.same (hlt0 x hx)) (fun x hx => hsp x (by simp [hx]))) (trodAll_cons_mk (WideElems.Trod_stays (by kernel_rfl) (by kernel_rfl) (of_decide_eq_true (by kernel_rfl)) h1 (fun x hx => hg.same (hlt1 x hx)) (fun x hx => hsp x (by simp [hx]))) (trodAll_cons_mk (WideElems.Trod_stays (by kernel_rfl) (by kernel_rfl) (of_decide_eq_true (by kernel_rfl)) h2 (fun x hx => hg.same (hlt2 x hx)) (fun x hx => hsp x (by simp [hx]))) trodAll_mk0)))) (fun _ _ => rfl) (by simp)
    hg (ok_one (by kernel_rfl) rfl (okWide_bool_mk Tryz.underlying4 _))⟩

set_option maxHeartbeats 8000000 in
theorem facts : joinedFacts Tryz.prog 6 Tryz.f6 Rows.linearFindsSpec Rows.linearFindsRow = true := by
  unfold joinedFacts
  simp only [Bool.and_eq_true]
  repeat' apply And.intro
  all_goals (as_aux_lemma => kernel_rfl)
theorem proved : Rows.LinearFindsSaid :=
  OpenClaim.holds_of_wide 6 Tryz.f6 rfl rfl rfl rfl rfl rfl rfl ⟨rfl, rfl, rfl, rfl, rfl⟩ rfl rfl rfl rfl rfl (by kernel_rfl) Tryz.func6 facts
    (of_decide_eq_true (by kernel_rfl)) (by unfold Func.isWrapper; first | (rw [if_pos (by decide +kernel)]; kernel_rfl) | (rw [if_neg (by decide +kernel)]; exact ⟨rfl, rfl⟩))
    (fun os started H enc _ => lifted os started H enc)
#print axioms proved
end Go.Proofs.YtdeiocppghhfdaaGreat.linearFinds
