/- Texts, one behind another: LiC LiD. -/
import Derived.Test.YtdeiocppghhfdaaGreatPug
import Derived.Test.YtdeiocppghhfdaaGreatQb
namespace Go.Proofs.YtdeiocppghhfdaaGreat.Lin
set_option linter.unusedVariables false
set_option linter.unusedSimpArgs false
open Go.RowKit Go.Lib Go.Shelf
open Hs
open KitI (iv own_below)
attribute [local go_sem, local simp] Hs.callL_0 Hs.callL_1 Hs.callL_2 Hs.callL_3 Hs.callL_4 Hs.callL_5 Hs.callL_6 Hs.callL_7 Hs.callL_8 Hs.callL_9 Hs.callL_10 Hs.callL_11 Hs.callL_12 Hs.callL_13 Hs.callL_14 Hs.callL_15 Hs.callL_16 Hs.callL_17 Hs.callL_18 Hs.callL_19 Hs.callL_20 Hs.callL_21 Hs.callL_22 Hs.callL_23 Hs.callL_24 Hs.callL_25 Hs.callL_26 Hs.resL_0 Hs.resL_1 Hs.resL_2 Hs.resL_3 Hs.resL_4 Hs.resL_5 Hs.resL_6 Hs.resL_7 Hs.resL_8 Hs.resL_9 Hs.resL_10 Hs.resL_11 Hs.resL_12 Hs.callG_0 Hs.callG_1 Hs.callG_2 Hs.callG_3 Hs.callG_4 Hs.callG_5 Hs.callG_6 Hs.callG_7 Hs.callG_8 Hs.callG_9 Hs.callG_10 Hs.callG_11 Hs.callG_12 Hs.callG_13 Hs.callG_14 Hs.callG_15 Hs.callG_16 Hs.callG_17 Hs.callG_18 Hs.callG_19 Hs.callG_20 Hs.callG_21 Hs.callG_22 Hs.callG_23 Hs.callG_24 Hs.callG_25 Hs.callG_26 Hs.resG_0 Hs.resG_1 Hs.resG_2 Hs.resG_3 Hs.resG_4 Hs.resG_5 Hs.resG_6 Hs.resG_7 Hs.resG_8 Hs.resG_9 Hs.resG_10 Hs.resG_11 Hs.resG_12 Hs.callL_len Hs.resL_len
attribute [local go_sem ↓] Hs.loadCall_eq Hs.loadRes_eq
attribute [local go_sem] Hs.ld_new Hs.ld_first Hs.ld_second Hs.ldr_new Hs.st_new
theorem sum_min (f : Nat → Nat) (m a : Nat) : ∀ l : List Nat, min (a + (l.map fun y => min (f y) m).sum) m = min (a + (l.map f).sum) m
  | [] => rfl
  | x :: l => by
    have h1 := sum_min f m a l
    simp only [List.map_cons, List.sum_cons]
    omega
theorem grown_below {W W' : World} {row : Option Nat} (h : Below W.heap.size W W') : W.grownBy W' row := ⟨h.os, h.tape, h.output, h.size, fun k hk _ => h.block k hk⟩
theorem grown_refl (W : World) (row : Option Nat) : W.grownBy W row := ⟨rfl, rfl, rfl, Nat.le_refl _, fun _ _ _ => rfl⟩
theorem grown_trans {A B C : World} {row : Option Nat} (h : A.grownBy B row) (k : B.grownBy C row) : A.grownBy C row := ⟨k.os.trans h.os, k.tape.trans h.tape, k.output.trans h.output, Nat.le_trans h.size k.size, fun j hj hne => (k.block j (Nat.lt_of_lt_of_le hj h.size) hne).trans (h.block j hj hne)⟩
def SeenPr (cs : List CallV) (most : Nat) (u : Int) (k : ByteArray) (v : Value) : Prop := ∀ (x : Nat) (st : MS), (x : Int) = u → MSok st 100000 → k = strOf (keyL st) → v = .int .i64 (min (CC cs st x) most : Nat)
abbrev countFn : FuncId := 69
def countV (n0 s : Nat) : Value := .func (.func countFn) #[] #[.pointer (some ⟨s + 2, 0, none⟩), .pointer (some ⟨s + 1, 0, none⟩), .pointer (some ⟨n0 + 2, 0, none⟩), .pointer (some ⟨s + 3, 0, none⟩), .pointer (some ⟨n0 + 1, 0, none⟩)]
structure CE (n0 s : Nat) (w0 : World) (p : Option Addr) (cap : Nat) (cs : List CallV) (most nm : Nat) (W : World) : Prop where
  bel : Below n0 w0 W
  le : s + 4 ≤ W.heap.size
  cm : W.cell? ⟨n0 + 1, 0, none⟩ = some (.int .i64 most)
  cl : W.cell? ⟨n0 + 2, 0, none⟩ = some (.slice p cs.length cap)
  mp : MapP W 3 s nm (SeenPr cs most)
  ca : W.cell? ⟨s + 1, 0, none⟩ = some (.int .i64 (allB cs cs.length : Nat))
  cd : W.cell? ⟨s + 2, 0, none⟩ = some (.map (some s))
  cf : W.cell? ⟨s + 3, 0, none⟩ = some (countV n0 s)
section
variable {n0 s : Nat} {w0 : World} {p : Option Addr} {cap : Nat} {cs : List CallV} {most nm nm' : Nat} {W W' : World}
theorem CE.step (h : CE n0 s w0 p cap cs most nm W) (hg : W.grownBy W' (some s)) (hs : n0 + 3 ≤ s) (hm : MapP W' 3 s nm' (SeenPr cs most)) : CE n0 s w0 p cap cs most nm' W' := by
  have hc : ∀ j o, j < s + 4 → j ≠ s → W'.cell? ⟨j, o, none⟩ = W.cell? ⟨j, o, none⟩ := fun j o h1 h2 => World.cell?_of_block (a := ⟨j, o, none⟩) (hg.block j (by have := h.le; omega) (fun e => h2 (Option.some.inj e)))
  refine ⟨h.bel.trans ⟨hg.os, hg.tape, hg.output, hg.size, fun k hk => hg.block k (by have := h.le; omega) (fun e => by injection e with e; omega)⟩, Nat.le_trans h.le hg.size, ?_, ?_, hm, ?_, ?_, ?_⟩
  · rw [hc _ _ (by omega) (by omega)]; exact h.cm
  · rw [hc _ _ (by omega) (by omega)]; exact h.cl
  · rw [hc _ _ (by omega) (by omega)]; exact h.ca
  · rw [hc _ _ (by omega) (by omega)]; exact h.cd
  · rw [hc _ _ (by omega) (by omega)]; exact h.cf
theorem CE.on (h : CE n0 s w0 p cap cs most nm W) (hb : Below W.heap.size W W') (hs : n0 + 3 ≤ s) : CE n0 s w0 p cap cs most nm W' := h.step (grown_below hb) hs (h.mp.keep (hb.block _ h.mp.lt))
theorem CE.blk (h : CE n0 s w0 p cap cs most nm W) (hg : W.grownBy W' (some s)) {j : Nat} {c : Array Value} {T : TypeId} {r : Nat × Nat} (hj : W.heap[j]? = some (.cells c T r)) : W'.heap[j]? = some (.cells c T r) := by
  refine (hg.block j (Array.getElem?_eq_some_iff.1 hj).1 fun e => ?_).trans hj
  injection e with e
  subst e
  obtain ⟨es, ck, hm, _⟩ := h.mp
  rw [hm] at hj; cases hj
theorem CE.row (h : CE n0 s w0 p cap cs most nm W) (hg : W.grownBy W' (some s)) {base sz n : Nat} {e : TypeId} {x : Value} {xs : List Value} (ho : W.ownsRow base e sz x n xs) : W'.ownsRow base e sz x n xs := by
  refine ⟨ho.1, ?_⟩
  rcases ho.2 with hn | ⟨g, cap, cur, rfl, hB, hc, rest⟩
  · exact .inl hn
  · exact .inr ⟨g, cap, cur, rfl, hB, h.blk hg hc, rest⟩
theorem CE.model (h : CE n0 s w0 p cap cs most nm W) (hg : W.grownBy W' (some s)) {b : Nat} {M : MM} (hM : MdAt W b M) : MdAt W' b M :=
  ⟨h.blk hg hM.blk, h.row hg hM.marks, h.row hg hM.seats, fun S hS => h.row hg (hM.slots S hS), fun S hS x hx => h.row hg (hM.smarks S hS x hx), hM.some_, hM.nodup⟩
end
def psum (cs : List CallV) (most : Nat) (st : MS) (u j : Nat) : Nat := (if fullB cs u then 1 else 0) + ((List.range j).map fun y => min (tryC cs.length (nx cs) (rdyB cs) (fullB cs) st u y) most).sum
theorem psum_step (cs : List CallV) (most : Nat) (st : MS) (u j : Nat) : psum cs most st u (j + 1) = psum cs most st u j + min (tryC cs.length (nx cs) (rdyB cs) (fullB cs) st u j) most := by
  unfold psum; rw [List.range_succ, List.map_append, List.sum_append]; simp; omega
theorem psum_le (cs : List CallV) (most : Nat) (st : MS) (u : Nat) : ∀ j, psum cs most st u j ≤ 1 + j * most
  | 0 => by unfold psum; simp; split <;> omega
  | j + 1 => by have := psum_le cs most st u j; rw [psum_step, Nat.succ_mul]; omega
theorem psum_all (cs : List CallV) (most : Nat) (st : MS) (u : Nat) : min (psum cs most st u cs.length) most = min (CC cs st u) most := by
  unfold psum; rw [sum_min, ← C_eq]
def CPost (n0 s : Nat) (w0 : World) (p : Option Addr) (cap : Nat) (cs : List CallV) (most nm k : Nat) (st : MS) (u : Nat) (W : World) (e : Ending) (W' : World) : Prop :=
  e = .returned (.int .i64 (min (CC cs st u) most : Nat)) ∧ ∃ nm', nm' ≤ nm + 11 ^ k ∧ CE n0 s w0 p cap cs most nm' W' ∧ W.grownBy W' (some s)
def CCall (n0 s : Nat) (w0 : World) (p : Option Addr) (cap : Nat) (cs : List CallV) (most k : Nat) : Prop :=
  ∀ (W : World) (b : Nat) (M : MM) (st : MS) (u nm : Nat) (K : Int), MdAt W b M → M.st = st → MSok st K → K + k ≤ 100000 → fr cs.length u ≤ k → u < 2 ^ 10 → CE n0 s w0 p cap cs most nm W → nm + 11 ^ k ≤ 11 ^ 12 → k ≤ 10 →
    Calls Tryz.prog countFn #[.pointer (some ⟨b, 0, none⟩), .int .i64 u, .pointer (some ⟨s + 2, 0, none⟩), .pointer (some ⟨s + 1, 0, none⟩), .pointer (some ⟨n0 + 2, 0, none⟩), .pointer (some ⟨s + 3, 0, none⟩), .pointer (some ⟨n0 + 1, 0, none⟩)] W (CPost n0 s w0 p cap cs most nm k st u W)
def CRel (n0 s : Nat) (w0 : World) (p : Option Addr) (cap : Nat) (cs : List CallV) (most nm k : Nat) (st : MS) (u : Nat) (w2 : World) (x i : Value) (wr : World) : Prop :=
  ∃ j nm' : Nat, i = .int .i64 j ∧ x = .int .i64 (psum cs most st u j : Nat) ∧ j ≤ cs.length ∧ nm' ≤ nm + j * k ∧ CE n0 s w0 p cap cs most nm' wr ∧ w2.grownBy wr (some s)
theorem crel_next {n0 s : Nat} {w0 : World} {p : Option Addr} {cap : Nat} {cs : List CallV} {most nm k : Nat} {st : MS} {u : Nat} {w2 wr : World} {j nm' : Nat} {x : Value} (hE : CE n0 s w0 p cap cs most nm' wr) (hk : w2.grownBy wr (some s))
    (hx : x = .int .i64 ((psum cs most st u j : Nat) + (min (tryC cs.length (nx cs) (rdyB cs) (fullB cs) st u j) most : Nat) : Int)) (hj : j < cs.length) (hn : nm' ≤ nm + (j + 1) * k) :
    CRel n0 s w0 p cap cs most nm k st u w2 x (.int .i64 ((j : Int) + 1)) wr :=
  ⟨j + 1, nm', by go_num, by rw [hx, psum_step]; simp, by omega, hn, hE, hk⟩
set_option maxRecDepth 100000 in
set_option maxHeartbeats 8000000 in
theorem count_step {n0 s : Nat} {w0 : World} {p : Option Addr} {cap : Nat} {cs : List CallV} {most k : Nat} (hs : n0 + 3 ≤ s) (hC : ∀ W, Below n0 w0 W → CRow W p cap cs) (hl : cs.length ≤ 10) (hmost : most ≤ 1000000) (hok : ∀ c ∈ cs, c.Ok) (hd : ∀ c ∈ cs, c.ps.length ≤ 1000000)
    (ih : ∀ j, j < k → CCall n0 s w0 p cap cs most j) : CCall n0 s w0 p cap cs most k := by
  intro W b M st u nm K hM hst hMok hK hfr hu hE hnm hk10
  subst hst
  obtain ⟨X, hX1, hX2⟩ : ∃ X, (∀ j, k = j + 1 → X = 11 ^ j) ∧ 10 * X + 1 ≤ 11 ^ k := by
    cases k with
    | zero => exact ⟨0, fun j h => by omega, by decide⟩
    | succ k => exact ⟨11 ^ k, fun j h => by cases h; rfl, by have : 0 < 11 ^ k := Nat.pow_pos (by omega); rw [Nat.pow_succ]; omega⟩
  have hfm := full_mask cs u
  have hal := allB_lt cs cs.length 10 hl
  have hand := bits_and u (allB cs cs.length) (by omega) (by omega)
  have hbool : (bits .and .i64 (u : Int) (allB cs cs.length : Nat) == ((allB cs cs.length : Nat) : Int)) = fullB cs u := by
    rw [hand, ← hfm, Bool.eq_iff_iff]; simp; omega
  have hwf := wf_nat (u := u) (by omega)
  have hkey := key_any b M W K hM hMok
  have hp0 : psum cs most M.st u 0 = if fullB cs u then 1 else 0 := rfl
  clear hand hfm
  generalize hf : fullB cs u = f at hbool hp0
  cases f with
  | true =>
    go_enter Tryz.func69, Tryz.ntmps69
    go_wp2_with (first | (go_at_call 64; refine hkey.mono ?_; rintro e w1 ⟨rfl, hb1⟩; have hb2 : Below W.heap.size W (w1.alloc (.cells #[.int .i64 u, .string (strOf (keyL M.st))] 105)) := hb1.alloc hb1.size _; have hE2 := hE.on hb2 hs; have c2 := hE2.cd; have c3 := hE2.cl; have c4 := hE2.ca; have hM2 := hM.below hb2; have hk2 : W.grownBy _ (some s) := grown_below hb2) | (at_lookup; refine wpList_look_int _ rfl _ _ 116 rfl 3 Tryz.underlying116 Tryz.underlying3 (by kernel_rfl) rfl hE2.mp u (strOf (keyL M.st)) rfl hwf (key_size M.st hMok) ?_; intro y cc hy))
    · have hyt : y = true := by assumption
      have h1 : Value.int .i64 cc = .int .i64 (min (CC cs M.st u) most : Nat) := hy hyt u M.st rfl (hMok.mono (by omega)) rfl
      go_returns
      refine ⟨by show Ending.returned (.int .i64 cc) = _; rw [h1], nm, Nat.le_add_right _ _, hE2, hk2⟩
    · skip
      obtain rfl : y = false := by first | assumption | (cases y <;> simp_all)
      clear hy hkey hbool c2 c3 c4 hM hE
      have hzz := heap_alloc_new w1 (.cells #[.int .i64 (u : Int), .string (strOf (keyL M.st))] 105)
      generalize w1.alloc (.cells #[.int .i64 (u : Int), .string (strOf (keyL M.st))] 105) = w2 at *
      generalize w1.heap.size = z at *
      go_loopw [13, 36] (fun x i wr => CRel n0 s w0 p cap cs most nm X M.st u w2 x i wr) (fun x i wr => cs.length - (intOf i).toNat)
      case atStart => exact ⟨0, nm, rfl, by rw [hp0]; rfl, by omega, by omega, hE2, grown_refl _ _⟩
      case round =>
        obtain ⟨j, nm', rfl, rfl, hj, hnm', hE3, hk3⟩ := hrel
        by_cases hlt : j < cs.length
        · have hnm1 : nm' ≤ nm + (j + 1) * X := by rw [Nat.succ_mul]; omega
          have hbit := shr_one u j (by omega)
          have c3 := hE3.cl
          cases hub : u.testBit j with
          | true =>
            rw [hub] at hbit
            simp only [if_true] at hbit
            have ht : tryC cs.length (nx cs) (rdyB cs) (fullB cs) M.st u j = 0 := by unfold tryC cand; rw [hub]; rfl
            go_wp2
            go_roundw
            case rel => exact crel_next hE3 hk3 (by rw [ht]; (try simp)) hlt hnm1
            case measure => simp [intOf]; omega
          | false =>
            rw [hub] at hbit
            simp only [Bool.false_eq_true, if_false] at hbit
            have hrd := fun W (h : Below n0 w0 W) => ready_any p cap cs u j W (hC W h) (by omega) (by omega) hlt
            generalize hr : rdyB cs u j = r at hrd
            cases r with
            | false =>
              have ht : tryC cs.length (nx cs) (rdyB cs) (fullB cs) M.st u j = 0 := by unfold tryC cand; rw [hub, hr]; rfl
              go_wp2_with (go_at_call 65; refine (hrd _ hE3.bel).mono ?_; rintro e w3 ⟨rfl, hb3⟩)
              have hk3' := grown_trans hk3 (grown_below hb3)
              have hE3' := hE3.on hb3 hs
              go_roundw
              case rel => exact crel_next hE3' hk3' (by rw [ht]; (try simp)) hlt hnm1
              case measure => simp [intOf]; omega
            | true =>
              have hcand : cand (rdyB cs) u j = true := by unfold cand; rw [hub, hr]; rfl
              have hfr2 := fr_or hlt hub
              obtain ⟨k', rfl⟩ : ∃ k', k = k' + 1 := ⟨k - 1, by omega⟩
              have hXe := hX1 k' rfl
              have hM3 := hE2.model hk3 hM2
              obtain ⟨bq, off, rfl, hcap, _, _⟩ := crow_at (hC w0 (Below.refl _ _)) (by omega)
              have hld := fun W (h : Below n0 w0 W) => (crow_get (hC W h)).load (getC_some hlt)
              have hcm : getC cs j ∈ cs := List.mem_of_getElem? (getC_some hlt)
              have hcok := hok _ hcm
              have hcd := hd _ hcm
              have hnx : ∀ st, nx cs st j = nextS st (getC cs j) := fun _ => rfl
              generalize getC cs j = c at *
              cases hn : nextS M.st c with
              | none =>
                have ht : tryC cs.length (nx cs) (rdyB cs) (fullB cs) M.st u j = 0 := by unfold tryC; rw [if_pos hcand, hnx, hn]
                go_wp2_with (first | (go_at_call 65; refine (hrd _ hE3.bel).mono ?_; rintro e w3 ⟨rfl, hb3⟩; have hk3' := hk3.trans (grown_below hb3); have hE3' := hE3.on hb3 hs; have hM3' := hM3.below hb3; have c3' := hE3'.cl; have ld3 := hld _ hE3'.bel) | (go_at_call 66; refine (next_any b M c _ K hM3' hMok (by omega) hcok hcd).mono ?_; rintro e w4 ⟨b4, M4, he, hR4, hst4⟩; rw [hn] at he hst4; subst he))
                have hE4 := hE3'.on hR4.bl hs
                have hk4 := grown_trans hk3' (grown_below hR4.bl)
                go_roundw
                case rel => exact crel_next hE4 hk4 (by rw [ht]; (try simp)) hlt hnm1
                case measure => simp [intOf]; omega
              | some t =>
                have ht : tryC cs.length (nx cs) (rdyB cs) (fullB cs) M.st u j = CC cs t (u ||| 2 ^ j) := by unfold tryC; rw [if_pos hcand, hnx, hn]
                have hor : bits .or .i64 (u : Int) (IntKind.i64.wrap (2 ^ j)) = ((u ||| 2 ^ j : Nat) : Int) := by
                  rw [sh_w (by omega)]
                  exact bits_or u (2 ^ j) (by omega) (Nat.pow_lt_pow_right (by omega) (by omega))
                have hu2 : u ||| 2 ^ j < 2 ^ 10 := Nat.or_lt_two_pow hu (Nat.pow_lt_pow_right (by omega) (by omega))
                have htok := next_ok hMok hcok hn
                have hps := psum_le cs most M.st u j
                have hjm : j * most ≤ 10 * 1000000 := Nat.mul_le_mul (by omega) hmost
                obtain ⟨g, hg⟩ : ∃ g, g = min (CC cs t (u ||| 2 ^ j)) most := ⟨_, rfl⟩
                have hgm : g ≤ most := by omega
                have hadd : IntKind.i64.wrap ((psum cs most M.st u j : Nat) + (g : Int)) = (psum cs most M.st u j : Nat) + (g : Int) := by rw [IntKind.wrap_i64]; omega
                have Hg := Lib.hid hg
                clear hg
                have Hps := Lib.hid hps
                clear hps
                go_wp2_with (first | (go_at_call 65; refine (hrd _ hE3.bel).mono ?_; rintro e w3 ⟨rfl, hb3⟩; have hk3' := hk3.trans (grown_below hb3); have hE3' := hE3.on hb3 hs; have hM3' := hM3.below hb3; have c3' := hE3'.cl; have ld3 := hld _ hE3'.bel) | (go_at_call 66; refine (next_any b M c _ K hM3' hMok (by omega) hcok hcd).mono ?_; rintro e w4 ⟨b4, M4, he, hR4, hst4⟩; rw [hn] at he hst4; subst he))
                have hE4 := hE3'.on hR4.bl hs
                have hk4 := grown_trans hk3' (grown_below hR4.bl)
                have hbd : Below w4.heap.size w4 w4.drew := (Below.refl _ _).drew
                have hE4d := hE4.on hbd hs
                have hih := ih k' (by omega) w4.drew b4 M4 t (u ||| 2 ^ j) nm' (K + 1) (hR4.at_.below hbd) (hst4 t rfl) htok (by omega) (by omega) hu2 hE4d (by rw [Nat.pow_succ] at hnm; have := Nat.mul_le_mul_right X (show j ≤ 9 by omega); omega) (by omega)
                clear ih
                refine wp_region_noPanic ?_
                refine wp_region_held_drew (S := fun W => W.cell? ⟨s + 3, 0, none⟩ = some (.func (.func 69) #[] #[.pointer (some ⟨s + 2, 0, none⟩), .pointer (some ⟨s + 1, 0, none⟩), .pointer (some ⟨n0 + 2, 0, none⟩), .pointer (some ⟨s + 3, 0, none⟩), .pointer (some ⟨n0 + 1, 0, none⟩)])) (by kernel_rfl) ?_ (fun hHeld => ?_)
                · first | exact hE4.cf | exact hE4d.cf | exact hE7.cf
                iterate 7 (first | (refine np_sn ?_; (try simp only [nSO])) | ((first | refine np_n ?_ ?_ ?_ | refine np_t 0 ?_ ?_ ?_); rotate_left 1; (· (intro w hSw; (try dsimp only at hSw); go_simp; all_goals with_reducible rfl)); (try simp only [nSO])))
                first | (refine np_s 7 ?_; (try simp only [nSO])) | (refine np_step (i := 7) rfl (by kernel_rfl) (fun K hK => ?_); rw [if_pos (by rfl)]; go_simp; ((go_at_call 69; refine hih.mono ?_; rintro e w7 ⟨he, nm7, hn7, hE7, hk7⟩; rw [← Hg.out] at he; subst he)); (try go_wp2_with fail); refine hK.out _ _ ?_ (fun hHeld => ?_); (· (first | exact hE4.cf | exact hE4d.cf | exact hE7.cf)); clear hK K; (try simp only [nSO]))
                iterate 2 (first | (refine np_sn ?_; (try simp only [nSO])) | (refine np_n ?_ ?_ ?_; rotate_left 1; (· (intro w hSw; (try dsimp only at hSw); go_simp; all_goals with_reducible rfl)); (try simp only [nSO])))
                refine wpAnyH_done (by kernel_rfl) ?_ _
                refine NoPanic.normal ?_
                have hnm8 : nm7 ≤ nm + (j + 1) * X := by rw [Nat.succ_mul]; omega
                have hk8 := grown_trans hk4 (grown_trans (grown_below hbd) hk7)
                go_wp2
                go_roundw
                case rel => exact crel_next hE7 hk8 (by rw [ht, ← Hg.out]) hlt hnm8
                case measure => simp [intOf]; omega
        · have hke : j = cs.length := by omega
          subst hke
          have hlx := Nat.mul_le_mul_right X hl
          have hall := psum_all cs most M.st u
          have hmn : min ((psum cs most M.st u cs.length : Nat) : Int) (most : Int) = ((min (CC cs M.st u) most : Nat) : Int) := by rw [← hall]; omega
          have hle : min (CC cs M.st u) most ≤ most := by omega
          have hPr : SeenPr cs most u (strOf (keyL M.st)) (.int .i64 (min (CC cs M.st u) most : Nat)) := fun x st hx hst hk => by
            have e := (key_iff hMok hst (by omega) (by omega)).1 hk
            subst e
            have e2 : x = u := by omega
            rw [e2]
          have hzb := hE2.blk hk3 hzz
          have e0 : wr.cell? ⟨z, 0, none⟩ = some (.int .i64 u) := blk_cell (L := [.int .i64 u, .string (strOf (keyL M.st))]) hzb 0
          have e1 : wr.cell? ⟨z, 1, none⟩ = some (.string (strOf (keyL M.st))) := blk_cell (L := [.int .i64 u, .string (strOf (keyL M.st))]) hzb 1
          have c3 := hE3.cd
          have c5 := hE3.cm
          have hwf2 := wf_nat (u := min (CC cs M.st u) most) (by omega)
          generalize hg0 : min (CC cs M.st u) most = g at *
          have Hg0 := Lib.hid hg0
          clear hg0
          generalize psum cs most M.st u cs.length = q at *
          go_wp2_with (at_mapUpdate; refine wpList_store_st _ rfl _ _ _ 116 rfl 3 Tryz.underlying116 rfl hE3.mp (by unfold maxLen; omega) u (strOf (keyL M.st)) (.int .i64 (g : Nat)) rfl rfl hwf (key_size M.st hMok) (plainElem_int Tryz.underlying3 hwf2) hPr ?_; intro w9 hm9 hg9)
          go_returns
          refine ⟨by rw [Hg0.out]; rfl, _, ?_, hE3.step hg9 hs hm9, grown_trans hk2 (grown_trans hk3 hg9)⟩
          omega
  | false =>
    go_enter Tryz.func69, Tryz.ntmps69
    go_wp2_with (first | (go_at_call 64; refine hkey.mono ?_; rintro e w1 ⟨rfl, hb1⟩; have hb2 : Below W.heap.size W (w1.alloc (.cells #[.int .i64 u, .string (strOf (keyL M.st))] 105)) := hb1.alloc hb1.size _; have hE2 := hE.on hb2 hs; have c2 := hE2.cd; have c3 := hE2.cl; have c4 := hE2.ca; have hM2 := hM.below hb2; have hk2 : W.grownBy _ (some s) := grown_below hb2) | (at_lookup; refine wpList_look_int _ rfl _ _ 116 rfl 3 Tryz.underlying116 Tryz.underlying3 (by kernel_rfl) rfl hE2.mp u (strOf (keyL M.st)) rfl hwf (key_size M.st hMok) ?_; intro y cc hy))
    · have hyt : y = true := by assumption
      have h1 : Value.int .i64 cc = .int .i64 (min (CC cs M.st u) most : Nat) := hy hyt u M.st rfl (hMok.mono (by omega)) rfl
      go_returns
      refine ⟨by show Ending.returned (.int .i64 cc) = _; rw [h1], nm, Nat.le_add_right _ _, hE2, hk2⟩
    · skip
      obtain rfl : y = false := by first | assumption | (cases y <;> simp_all)
      clear hy hkey hbool c2 c3 c4 hM hE
      have hzz := heap_alloc_new w1 (.cells #[.int .i64 (u : Int), .string (strOf (keyL M.st))] 105)
      generalize w1.alloc (.cells #[.int .i64 (u : Int), .string (strOf (keyL M.st))] 105) = w2 at *
      generalize w1.heap.size = z at *
      go_loopw [13, 36] (fun x i wr => CRel n0 s w0 p cap cs most nm X M.st u w2 x i wr) (fun x i wr => cs.length - (intOf i).toNat)
      case atStart => exact ⟨0, nm, rfl, by rw [hp0]; rfl, by omega, by omega, hE2, grown_refl _ _⟩
      case round =>
        obtain ⟨j, nm', rfl, rfl, hj, hnm', hE3, hk3⟩ := hrel
        by_cases hlt : j < cs.length
        · have hnm1 : nm' ≤ nm + (j + 1) * X := by rw [Nat.succ_mul]; omega
          have hbit := shr_one u j (by omega)
          have c3 := hE3.cl
          cases hub : u.testBit j with
          | true =>
            rw [hub] at hbit
            simp only [if_true] at hbit
            have ht : tryC cs.length (nx cs) (rdyB cs) (fullB cs) M.st u j = 0 := by unfold tryC cand; rw [hub]; rfl
            go_wp2
            go_roundw
            case rel => exact crel_next hE3 hk3 (by rw [ht]; (try simp)) hlt hnm1
            case measure => simp [intOf]; omega
          | false =>
            rw [hub] at hbit
            simp only [Bool.false_eq_true, if_false] at hbit
            have hrd := fun W (h : Below n0 w0 W) => ready_any p cap cs u j W (hC W h) (by omega) (by omega) hlt
            generalize hr : rdyB cs u j = r at hrd
            cases r with
            | false =>
              have ht : tryC cs.length (nx cs) (rdyB cs) (fullB cs) M.st u j = 0 := by unfold tryC cand; rw [hub, hr]; rfl
              go_wp2_with (go_at_call 65; refine (hrd _ hE3.bel).mono ?_; rintro e w3 ⟨rfl, hb3⟩)
              have hk3' := grown_trans hk3 (grown_below hb3)
              have hE3' := hE3.on hb3 hs
              go_roundw
              case rel => exact crel_next hE3' hk3' (by rw [ht]; (try simp)) hlt hnm1
              case measure => simp [intOf]; omega
            | true =>
              have hcand : cand (rdyB cs) u j = true := by unfold cand; rw [hub, hr]; rfl
              have hfr2 := fr_or hlt hub
              obtain ⟨k', rfl⟩ : ∃ k', k = k' + 1 := ⟨k - 1, by omega⟩
              have hXe := hX1 k' rfl
              have hM3 := hE2.model hk3 hM2
              obtain ⟨bq, off, rfl, hcap, _, _⟩ := crow_at (hC w0 (Below.refl _ _)) (by omega)
              have hld := fun W (h : Below n0 w0 W) => (crow_get (hC W h)).load (getC_some hlt)
              have hcm : getC cs j ∈ cs := List.mem_of_getElem? (getC_some hlt)
              have hcok := hok _ hcm
              have hcd := hd _ hcm
              have hnx : ∀ st, nx cs st j = nextS st (getC cs j) := fun _ => rfl
              generalize getC cs j = c at *
              cases hn : nextS M.st c with
              | none =>
                have ht : tryC cs.length (nx cs) (rdyB cs) (fullB cs) M.st u j = 0 := by unfold tryC; rw [if_pos hcand, hnx, hn]
                go_wp2_with (first | (go_at_call 65; refine (hrd _ hE3.bel).mono ?_; rintro e w3 ⟨rfl, hb3⟩; have hk3' := hk3.trans (grown_below hb3); have hE3' := hE3.on hb3 hs; have hM3' := hM3.below hb3; have c3' := hE3'.cl; have ld3 := hld _ hE3'.bel) | (go_at_call 66; refine (next_any b M c _ K hM3' hMok (by omega) hcok hcd).mono ?_; rintro e w4 ⟨b4, M4, he, hR4, hst4⟩; rw [hn] at he hst4; subst he))
                have hE4 := hE3'.on hR4.bl hs
                have hk4 := grown_trans hk3' (grown_below hR4.bl)
                go_roundw
                case rel => exact crel_next hE4 hk4 (by rw [ht]; (try simp)) hlt hnm1
                case measure => simp [intOf]; omega
              | some t =>
                have ht : tryC cs.length (nx cs) (rdyB cs) (fullB cs) M.st u j = CC cs t (u ||| 2 ^ j) := by unfold tryC; rw [if_pos hcand, hnx, hn]
                have hor : bits .or .i64 (u : Int) (IntKind.i64.wrap (2 ^ j)) = ((u ||| 2 ^ j : Nat) : Int) := by
                  rw [sh_w (by omega)]
                  exact bits_or u (2 ^ j) (by omega) (Nat.pow_lt_pow_right (by omega) (by omega))
                have hu2 : u ||| 2 ^ j < 2 ^ 10 := Nat.or_lt_two_pow hu (Nat.pow_lt_pow_right (by omega) (by omega))
                have htok := next_ok hMok hcok hn
                have hps := psum_le cs most M.st u j
                have hjm : j * most ≤ 10 * 1000000 := Nat.mul_le_mul (by omega) hmost
                obtain ⟨g, hg⟩ : ∃ g, g = min (CC cs t (u ||| 2 ^ j)) most := ⟨_, rfl⟩
                have hgm : g ≤ most := by omega
                have hadd : IntKind.i64.wrap ((psum cs most M.st u j : Nat) + (g : Int)) = (psum cs most M.st u j : Nat) + (g : Int) := by rw [IntKind.wrap_i64]; omega
                have Hg := Lib.hid hg
                clear hg
                have Hps := Lib.hid hps
                clear hps
                go_wp2_with (first | (go_at_call 65; refine (hrd _ hE3.bel).mono ?_; rintro e w3 ⟨rfl, hb3⟩; have hk3' := hk3.trans (grown_below hb3); have hE3' := hE3.on hb3 hs; have hM3' := hM3.below hb3; have c3' := hE3'.cl; have ld3 := hld _ hE3'.bel) | (go_at_call 66; refine (next_any b M c _ K hM3' hMok (by omega) hcok hcd).mono ?_; rintro e w4 ⟨b4, M4, he, hR4, hst4⟩; rw [hn] at he hst4; subst he))
                have hE4 := hE3'.on hR4.bl hs
                have hk4 := grown_trans hk3' (grown_below hR4.bl)
                have hbd : Below w4.heap.size w4 w4.drew := (Below.refl _ _).drew
                have hE4d := hE4.on hbd hs
                have hih := ih k' (by omega) w4.drew b4 M4 t (u ||| 2 ^ j) nm' (K + 1) (hR4.at_.below hbd) (hst4 t rfl) htok (by omega) (by omega) hu2 hE4d (by rw [Nat.pow_succ] at hnm; have := Nat.mul_le_mul_right X (show j ≤ 9 by omega); omega) (by omega)
                clear ih
                refine wp_region_noPanic ?_
                refine wp_region_held_drew (S := fun W => W.cell? ⟨s + 3, 0, none⟩ = some (.func (.func 69) #[] #[.pointer (some ⟨s + 2, 0, none⟩), .pointer (some ⟨s + 1, 0, none⟩), .pointer (some ⟨n0 + 2, 0, none⟩), .pointer (some ⟨s + 3, 0, none⟩), .pointer (some ⟨n0 + 1, 0, none⟩)])) (by kernel_rfl) ?_ (fun hHeld => ?_)
                · first | exact hE4.cf | exact hE4d.cf | exact hE7.cf
                iterate 7 (first | (refine np_sn ?_; (try simp only [nSO])) | ((first | refine np_n ?_ ?_ ?_ | refine np_t 0 ?_ ?_ ?_); rotate_left 1; (· (intro w hSw; (try dsimp only at hSw); go_simp; all_goals with_reducible rfl)); (try simp only [nSO])))
                first | (refine np_s 7 ?_; (try simp only [nSO])) | (refine np_step (i := 7) rfl (by kernel_rfl) (fun K hK => ?_); rw [if_pos (by rfl)]; go_simp; ((go_at_call 69; refine hih.mono ?_; rintro e w7 ⟨he, nm7, hn7, hE7, hk7⟩; rw [← Hg.out] at he; subst he)); (try go_wp2_with fail); refine hK.out _ _ ?_ (fun hHeld => ?_); (· (first | exact hE4.cf | exact hE4d.cf | exact hE7.cf)); clear hK K; (try simp only [nSO]))
                iterate 2 (first | (refine np_sn ?_; (try simp only [nSO])) | (refine np_n ?_ ?_ ?_; rotate_left 1; (· (intro w hSw; (try dsimp only at hSw); go_simp; all_goals with_reducible rfl)); (try simp only [nSO])))
                refine wpAnyH_done (by kernel_rfl) ?_ _
                refine NoPanic.normal ?_
                have hnm8 : nm7 ≤ nm + (j + 1) * X := by rw [Nat.succ_mul]; omega
                have hk8 := grown_trans hk4 (grown_trans (grown_below hbd) hk7)
                go_wp2
                go_roundw
                case rel => exact crel_next hE7 hk8 (by rw [ht, ← Hg.out]) hlt hnm8
                case measure => simp [intOf]; omega
        · have hke : j = cs.length := by omega
          subst hke
          have hlx := Nat.mul_le_mul_right X hl
          have hall := psum_all cs most M.st u
          have hmn : min ((psum cs most M.st u cs.length : Nat) : Int) (most : Int) = ((min (CC cs M.st u) most : Nat) : Int) := by rw [← hall]; omega
          have hle : min (CC cs M.st u) most ≤ most := by omega
          have hPr : SeenPr cs most u (strOf (keyL M.st)) (.int .i64 (min (CC cs M.st u) most : Nat)) := fun x st hx hst hk => by
            have e := (key_iff hMok hst (by omega) (by omega)).1 hk
            subst e
            have e2 : x = u := by omega
            rw [e2]
          have hzb := hE2.blk hk3 hzz
          have e0 : wr.cell? ⟨z, 0, none⟩ = some (.int .i64 u) := blk_cell (L := [.int .i64 u, .string (strOf (keyL M.st))]) hzb 0
          have e1 : wr.cell? ⟨z, 1, none⟩ = some (.string (strOf (keyL M.st))) := blk_cell (L := [.int .i64 u, .string (strOf (keyL M.st))]) hzb 1
          have c3 := hE3.cd
          have c5 := hE3.cm
          have hwf2 := wf_nat (u := min (CC cs M.st u) most) (by omega)
          generalize hg0 : min (CC cs M.st u) most = g at *
          have Hg0 := Lib.hid hg0
          clear hg0
          generalize psum cs most M.st u cs.length = q at *
          go_wp2_with (at_mapUpdate; refine wpList_store_st _ rfl _ _ _ 116 rfl 3 Tryz.underlying116 rfl hE3.mp (by unfold maxLen; omega) u (strOf (keyL M.st)) (.int .i64 (g : Nat)) rfl rfl hwf (key_size M.st hMok) (plainElem_int Tryz.underlying3 hwf2) hPr ?_; intro w9 hm9 hg9)
          go_returns
          refine ⟨by rw [Hg0.out]; rfl, _, ?_, hE3.step hg9 hs hm9, grown_trans hk2 (grown_trans hk3 hg9)⟩
          omega
theorem count_fn {n0 s : Nat} {w0 : World} {p : Option Addr} {cap : Nat} {cs : List CallV} {most : Nat} (hs : n0 + 3 ≤ s) (hC : ∀ W, Below n0 w0 W → CRow W p cap cs) (hl : cs.length ≤ 10) (hmost : most ≤ 1000000) (hok : ∀ c ∈ cs, c.Ok) (hd : ∀ c ∈ cs, c.ps.length ≤ 1000000) :
    ∀ k, CCall n0 s w0 p cap cs most k := by
  intro k
  induction k using Nat.strongRecOn with
  | ind k ih => exact count_step hs hC hl hmost hok hd ih
end Go.Proofs.YtdeiocppghhfdaaGreat.Lin
namespace Go.Proofs.YtdeiocppghhfdaaGreat.Lin
set_option linter.unusedVariables false
set_option linter.unusedSimpArgs false
open Go.RowKit Go.Lib Go.Shelf
open Hs
open KitI (iv own_below)
attribute [local go_sem, local simp] Hs.callL_0 Hs.callL_1 Hs.callL_2 Hs.callL_3 Hs.callL_4 Hs.callL_5 Hs.callL_6 Hs.callL_7 Hs.callL_8 Hs.callL_9 Hs.callL_10 Hs.callL_11 Hs.callL_12 Hs.callL_13 Hs.callL_14 Hs.callL_15 Hs.callL_16 Hs.callL_17 Hs.callL_18 Hs.callL_19 Hs.callL_20 Hs.callL_21 Hs.callL_22 Hs.callL_23 Hs.callL_24 Hs.callL_25 Hs.callL_26 Hs.resL_0 Hs.resL_1 Hs.resL_2 Hs.resL_3 Hs.resL_4 Hs.resL_5 Hs.resL_6 Hs.resL_7 Hs.resL_8 Hs.resL_9 Hs.resL_10 Hs.resL_11 Hs.resL_12 Hs.callG_0 Hs.callG_1 Hs.callG_2 Hs.callG_3 Hs.callG_4 Hs.callG_5 Hs.callG_6 Hs.callG_7 Hs.callG_8 Hs.callG_9 Hs.callG_10 Hs.callG_11 Hs.callG_12 Hs.callG_13 Hs.callG_14 Hs.callG_15 Hs.callG_16 Hs.callG_17 Hs.callG_18 Hs.callG_19 Hs.callG_20 Hs.callG_21 Hs.callG_22 Hs.callG_23 Hs.callG_24 Hs.callG_25 Hs.callG_26 Hs.resG_0 Hs.resG_1 Hs.resG_2 Hs.resG_3 Hs.resG_4 Hs.resG_5 Hs.resG_6 Hs.resG_7 Hs.resG_8 Hs.resG_9 Hs.resG_10 Hs.resG_11 Hs.resG_12 Hs.callL_len Hs.resL_len
attribute [local go_sem ↓] Hs.loadCall_eq Hs.loadRes_eq
attribute [local go_sem] Hs.ld_new Hs.ld_first Hs.ld_second Hs.ldr_new Hs.st_new
theorem ce_start {n0 most : Nat} {w0 w2 : World} {p : Option Addr} {cap : Nat} {cs : List CallV} (hB : Below n0 w0 w2) (hm : w2.heap[n0 + 1]? = some (.cells #[.int .i64 most] 3 (0, 0))) (hl : w2.heap[n0 + 1 + 1]? = some (.cells #[.slice p cs.length cap] 25 (0, 0))) (hn : n0 + 3 ≤ w2.heap.size) :
    CE n0 w2.heap.size w0 p cap cs most 0 ((((w2.alloc (.map #[] 0)).alloc (.cells #[.int .i64 (allB cs cs.length : Nat)] 3)).alloc (.cells #[.map (some w2.heap.size)] 116)).alloc (.cells #[(.func (.func countFn) #[] #[.pointer (some ⟨w2.heap.size + 1 + 1, 0, none⟩), .pointer (some ⟨w2.heap.size + 1, 0, none⟩), .pointer (some ⟨n0 + 1 + 1, 0, none⟩), .pointer (some ⟨w2.heap.size + 1 + 1 + 1, 0, none⟩), .pointer (some ⟨n0 + 1, 0, none⟩)])] 117)) := by
  have h1 := blk_old (blk_old (blk_old hm (.map #[] 0)) (.cells #[.int .i64 (allB cs cs.length : Nat)] 3)) (.cells #[.map (some w2.heap.size)] 116)
  have h2 := blk_old (blk_old (blk_old hl (.map #[] 0)) (.cells #[.int .i64 (allB cs cs.length : Nat)] 3)) (.cells #[.map (some w2.heap.size)] 116)
  have h3 := blk_old (blk_old (blk_new (w2.alloc (.map #[] 0)) [.int .i64 (allB cs cs.length : Nat)] 3) (.cells #[.map (some w2.heap.size)] 116)) (.cells #[(.func (.func countFn) #[] #[.pointer (some ⟨w2.heap.size + 1 + 1, 0, none⟩), .pointer (some ⟨w2.heap.size + 1, 0, none⟩), .pointer (some ⟨n0 + 1 + 1, 0, none⟩), .pointer (some ⟨w2.heap.size + 1 + 1 + 1, 0, none⟩), .pointer (some ⟨n0 + 1, 0, none⟩)])] 117)
  have h4 := blk_old (blk_new ((w2.alloc (.map #[] 0)).alloc (.cells #[.int .i64 (allB cs cs.length : Nat)] 3)) [.map (some w2.heap.size)] 116) (.cells #[(.func (.func countFn) #[] #[.pointer (some ⟨w2.heap.size + 1 + 1, 0, none⟩), .pointer (some ⟨w2.heap.size + 1, 0, none⟩), .pointer (some ⟨n0 + 1 + 1, 0, none⟩), .pointer (some ⟨w2.heap.size + 1 + 1 + 1, 0, none⟩), .pointer (some ⟨n0 + 1, 0, none⟩)])] 117)
  have h5 := blk_new (((w2.alloc (.map #[] 0)).alloc (.cells #[.int .i64 (allB cs cs.length : Nat)] 3)).alloc (.cells #[.map (some w2.heap.size)] 116)) [(.func (.func countFn) #[] #[.pointer (some ⟨w2.heap.size + 1 + 1, 0, none⟩), .pointer (some ⟨w2.heap.size + 1, 0, none⟩), .pointer (some ⟨n0 + 1 + 1, 0, none⟩), .pointer (some ⟨w2.heap.size + 1 + 1 + 1, 0, none⟩), .pointer (some ⟨n0 + 1, 0, none⟩)])] 117
  have hmp := blk_old (blk_old (blk_old (MapKept.heap_alloc w2 (.map #[] 0)).1 (.cells #[.int .i64 (allB cs cs.length : Nat)] 3)) (.cells #[.map (some w2.heap.size)] 116)) (.cells #[(.func (.func countFn) #[] #[.pointer (some ⟨w2.heap.size + 1 + 1, 0, none⟩), .pointer (some ⟨w2.heap.size + 1, 0, none⟩), .pointer (some ⟨n0 + 1 + 1, 0, none⟩), .pointer (some ⟨w2.heap.size + 1 + 1 + 1, 0, none⟩), .pointer (some ⟨n0 + 1, 0, none⟩)])] 117)
  simp only [World.size_alloc] at h3 h4 h5
  refine ⟨(((hB.alloc (by omega) _).alloc (by simp only [World.size_alloc]; omega) _).alloc (by simp only [World.size_alloc]; omega) _).alloc (by simp only [World.size_alloc]; omega) _, by simp only [World.size_alloc]; omega, blk_cell (L := [.int .i64 most]) (blk_old h1 _) 0, blk_cell (L := [.slice p cs.length cap]) (blk_old h2 _) 0, ?_, blk_cell (L := [.int .i64 (allB cs cs.length : Nat)]) h3 0, blk_cell (L := [.map (some w2.heap.size)]) h4 0, blk_cell (L := [(.func (.func countFn) #[] #[.pointer (some ⟨w2.heap.size + 1 + 1, 0, none⟩), .pointer (some ⟨w2.heap.size + 1, 0, none⟩), .pointer (some ⟨n0 + 1 + 1, 0, none⟩), .pointer (some ⟨w2.heap.size + 1 + 1 + 1, 0, none⟩), .pointer (some ⟨n0 + 1, 0, none⟩)])]) h5 0⟩
  exact (MapP.made w2 3 (SeenPr cs most)).keep (by rw [hmp]; exact (MapKept.heap_alloc w2 (.map #[] 0)).1.symm)
theorem count_call {n0 b most : Nat} {w0 w2 : World} {p : Option Addr} {cap : Nat} {cs : List CallV} {c : CfgV} {M : MM} (hB : Below n0 w0 w2) (hm : w2.heap[n0 + 1]? = some (.cells #[.int .i64 most] 3 (0, 0))) (hl : w2.heap[n0 + 1 + 1]? = some (.cells #[.slice p cs.length cap] 25 (0, 0))) (hn : n0 + 3 ≤ w2.heap.size) (hmost : most ≤ 1000000)
    (hC : ∀ W, Below n0 w0 W → CRow W p cap cs) (hle : cs.length ≤ 10) (hok : ∀ c ∈ cs, c.Ok) (hd : ∀ c ∈ cs, c.ps.length ≤ 1000000) (hM : MdAt w2 b M) (hst : M.st = newS c) (hc : cfgE c = 0) :
    Calls Tryz.prog countFn #[.pointer (some ⟨b, 0, none⟩), .int .i64 0, .pointer (some ⟨w2.heap.size + 1 + 1, 0, none⟩), .pointer (some ⟨w2.heap.size + 1, 0, none⟩), .pointer (some ⟨n0 + 1 + 1, 0, none⟩), .pointer (some ⟨w2.heap.size + 1 + 1 + 1, 0, none⟩), .pointer (some ⟨n0 + 1, 0, none⟩)] ((((w2.alloc (.map #[] 0)).alloc (.cells #[.int .i64 (allB cs cs.length : Nat)] 3)).alloc (.cells #[.map (some w2.heap.size)] 116)).alloc (.cells #[(.func (.func countFn) #[] #[.pointer (some ⟨w2.heap.size + 1 + 1, 0, none⟩), .pointer (some ⟨w2.heap.size + 1, 0, none⟩), .pointer (some ⟨n0 + 1 + 1, 0, none⟩), .pointer (some ⟨w2.heap.size + 1 + 1 + 1, 0, none⟩), .pointer (some ⟨n0 + 1, 0, none⟩)])] 117))
      fun e W' => e = .returned (.int .i64 (min (CC cs (newS c) 0) most : Nat)) ∧ Below n0 w0 W' := by
  have hE := ce_start hB hm hl hn
  have hk : Below w2.heap.size w2 ((((w2.alloc (.map #[] 0)).alloc (.cells #[.int .i64 (allB cs cs.length : Nat)] 3)).alloc (.cells #[.map (some w2.heap.size)] 116)).alloc (.cells #[(.func (.func countFn) #[] #[.pointer (some ⟨w2.heap.size + 1 + 1, 0, none⟩), .pointer (some ⟨w2.heap.size + 1, 0, none⟩), .pointer (some ⟨n0 + 1 + 1, 0, none⟩), .pointer (some ⟨w2.heap.size + 1 + 1 + 1, 0, none⟩), .pointer (some ⟨n0 + 1, 0, none⟩)])] 117)) := ((((Below.refl _ w2).alloc (Nat.le_refl _) _).alloc (by simp only [World.size_alloc]; omega) _).alloc (by simp only [World.size_alloc]; omega) _).alloc (by simp only [World.size_alloc]; omega) _
  have h := count_fn (n0 := n0) (s := w2.heap.size) hn hC hle hmost hok hd cs.length _ b M (newS c) 0 0 0 (hM.below hk) hst (newS_ok hc) (by omega) (by unfold fr; exact Nat.le_trans (List.length_filter_le _ _) (by simp)) (by decide) hE (by have : 11 ^ cs.length ≤ 11 ^ 10 := Nat.pow_le_pow_right (by omega) hle; have : (11 : Nat) ^ 10 ≤ 11 ^ 12 := (by decide); omega) hle
  refine h.mono ?_
  rintro e W' ⟨he, nm', _, hE', _⟩
  exact ⟨he, hE'.bel⟩
set_option maxRecDepth 100000 in
set_option maxHeartbeats 4000000 in
theorem count_any (c : CfgV) (most : Int) (p : Option Addr) (cap : Nat) (cs : List CallV) (w : World) (hC : CRow w p cap cs) (hs : cs.length ≤ 1000) (hok : ∀ x ∈ cs, x.Ok) (hd : ∀ x ∈ cs, x.ps.length ≤ 1000000) :
    Calls Tryz.prog 21 #[c.v, .int .i64 most, .slice p cs.length cap] w fun e w' => e = .returned (.tuple #[.int .i64 (countP c most cs).1, .int .i64 (countP c most cs).2]) ∧ Below w.heap.size w w' := by
  have hB0 : Below w.heap.size w (((w.alloc (.cells #[.int .i64 c.slots, .int .u64 c.gens, .int .i64 c.clients, .int .i64 c.readers, .int .i64 c.queue, .int .i64 c.batch, .int .i64 c.feed, .string c.text] 24)).alloc (.cells #[.int .i64 most] 3)).alloc (.cells #[.slice p cs.length cap] 25)) := (((Below.refl w.heap.size w).alloc (Nat.le_refl _) _).alloc (by simp) _).alloc (by simp; omega) _
  have hm0 := blk_old (blk_new (w.alloc (.cells #[.int .i64 c.slots, .int .u64 c.gens, .int .i64 c.clients, .int .i64 c.readers, .int .i64 c.queue, .int .i64 c.batch, .int .i64 c.feed, .string c.text] 24)) [.int .i64 most] 3) (.cells #[.slice p cs.length cap] 25)
  have hl0 := blk_new ((w.alloc (.cells #[.int .i64 c.slots, .int .u64 c.gens, .int .i64 c.clients, .int .i64 c.readers, .int .i64 c.queue, .int .i64 c.batch, .int .i64 c.feed, .string c.text] 24)).alloc (.cells #[.int .i64 most] 3)) [.slice p cs.length cap] 25
  rw [World.size_alloc] at hm0
  rw [World.size_alloc, World.size_alloc] at hl0
  have hsz0 : (((w.alloc (.cells #[.int .i64 c.slots, .int .u64 c.gens, .int .i64 c.clients, .int .i64 c.readers, .int .i64 c.queue, .int .i64 c.batch, .int .i64 c.feed, .string c.text] 24)).alloc (.cells #[.int .i64 most] 3)).alloc (.cells #[.slice p cs.length cap] 25)).heap.size = w.heap.size + 3 := by simp
  by_cases h0 : startE c cs = 0
  · have hst := start_ok (hC.on hB0) hs hok h0
    have hmm := @run_makeMap Tryz.prog
    obtain ⟨h00, _, hle⟩ := start_len h0
    have hcp : countP c most cs = if most < 1 ∨ 1000000 < most then (0, 2) else (min (CC cs (newS c) 0 : Int) most, 0) := by unfold countP; rw [if_neg (by rw [h0]; simp)]
    unfold CfgV.v at *
    by_cases hq1 : most < 1
    · rw [if_pos (.inl hq1)] at hcp
      have hd1 : decide (most < 1) = true := by simpa using hq1
      go_enter Tryz.func21, Tryz.ntmps21
      go_wp2_with (go_at_call 61; refine hst.mono ?_; rintro e w1 ⟨b, M, rfl, hR, hM⟩; have hm1 := blk_below hm0 hR.bl (by omega); have hl1 := blk_below hl0 hR.bl (by omega); have hB1 : Below w.heap.size w w1 := hB0.trans (hR.bl.mono (by omega)); have e1 : w1.cell? ⟨w.heap.size + 1, 0, none⟩ = some (.int .i64 _) := blk_cell (L := [_]) hm1 0; have e2 : w1.cell? ⟨w.heap.size + 1 + 1, 0, none⟩ = some (.slice p cs.length cap) := blk_cell (L := [.slice p cs.length cap]) hl1 0)
      go_returns
      exact ⟨by rw [hcp]; rfl, hB1⟩
    · have hd1 : decide (most < 1) = false := by simpa using hq1
      by_cases hm2 : 1000000 < most
      · rw [if_pos (.inr hm2)] at hcp
        have hd2 : decide (1000000 < most) = true := by simpa using hm2
        go_enter Tryz.func21, Tryz.ntmps21
        go_wp2_with (go_at_call 61; refine hst.mono ?_; rintro e w1 ⟨b, M, rfl, hR, hM⟩; have hm1 := blk_below hm0 hR.bl (by omega); have hl1 := blk_below hl0 hR.bl (by omega); have hB1 : Below w.heap.size w w1 := hB0.trans (hR.bl.mono (by omega)); have e1 : w1.cell? ⟨w.heap.size + 1, 0, none⟩ = some (.int .i64 _) := blk_cell (L := [_]) hm1 0; have e2 : w1.cell? ⟨w.heap.size + 1 + 1, 0, none⟩ = some (.slice p cs.length cap) := blk_cell (L := [.slice p cs.length cap]) hl1 0)
        go_returns
        exact ⟨by rw [hcp]; rfl, hB1⟩
      · rw [if_neg (by omega)] at hcp
        have hd2 : decide (1000000 < most) = false := by simpa using hm2
        obtain ⟨n, rfl⟩ : ∃ n : Nat, most = n := ⟨most.toNat, by omega⟩
        have hmost : n ≤ 1000000 := by omega
        obtain ⟨g, hg⟩ : ∃ g, min (CC cs (newS c) 0) n = g := ⟨_, rfl⟩
        have Hg := Lib.hid hg
        have hcp2 : countP c n cs = ((g : Int), 0) := by rw [hcp, ← hg]; simp; omega
        clear hg hcp
        go_enter Tryz.func21, Tryz.ntmps21
        go_wp2_with (first | (go_at_call 61; refine hst.mono ?_; rintro e w1 ⟨b, M, rfl, hR, hM⟩; have hm1 := blk_below hm0 hR.bl (by omega); have hl1 := blk_below hl0 hR.bl (by omega); have hB1 : Below w.heap.size w w1 := hB0.trans (hR.bl.mono (by omega)); have e1 : w1.cell? ⟨w.heap.size + 1, 0, none⟩ = some (.int .i64 _) := blk_cell (L := [_]) hm1 0; have e2 : w1.cell? ⟨w.heap.size + 1 + 1, 0, none⟩ = some (.slice p cs.length cap) := blk_cell (L := [.slice p cs.length cap]) hl1 0) | (go_at_call 62; refine (answered_any p cap cs _ (hC.on hB1) (by omega)).mono ?_; rintro e w2 ⟨rfl, hb2⟩) | (go_at_call 69; have hs1 := hR.bl.size; refine (count_call (hB1.trans (hb2.mono hB1.size)) (blk_below hm1 hb2 (by omega)) (blk_below hl1 hb2 (by omega)) (by have := hb2.size; omega) hmost (fun W h => hC.on h) hle hok hd (hR.at_.below hb2) hM h00).mono ?_; rintro e w9 ⟨he, hB9⟩; rw [Hg.out] at he; subst he))
        go_returns
        exact ⟨by rw [hcp2]; rfl, hB9⟩
  · have hst := start_no (hC.on hB0) hs hok h0
    have hf : countP c most cs = (0, startE c cs) := by unfold countP; rw [if_pos h0]
    have hd : (startE c cs != 0) = true := by simpa using h0
    generalize startE c cs = sE at *
    unfold CfgV.v at *
    go_enter Tryz.func21, Tryz.ntmps21
    go_wp2_with (go_at_call 61; refine hst.mono ?_; rintro e w1 ⟨rfl, hb1⟩)
    go_returns
    exact ⟨by rw [hf]; rfl, hB0.trans (hb1.mono (by omega))⟩
end Go.Proofs.YtdeiocppghhfdaaGreat.Lin
