/- LinearWitness: the law returns true for every input, and leaves its arguments as they were. -/
import Derived.Test.YtdeiocppghhfdaaGreatPhg
import Derived.Test.YtdeiocppghhfdaaGreatQe
import Derived.Test.YtdeiocppghhfdaaGreatQf
import Derived.Test.YtdeiocppghhfdaaGreatPma
import Derived.Test.YtdeiocppghhfdaaGreatPul
import Derived.Carry
namespace Go.Proofs.YtdeiocppghhfdaaGreat.Hs
set_option linter.unusedVariables false
set_option linter.unusedSimpArgs false
set_option maxRecDepth 100000
set_option maxHeartbeats 8000000
open Go.RowKit Go.Lib Go.Shelf
def many (s : Int) (cs : List CallV) : Nat := (cs.filter fun c => decide (c.invoked ≤ s)).length
end Go.Proofs.YtdeiocppghhfdaaGreat.Hs
namespace Go.Proofs.YtdeiocppghhfdaaGreat.Lin
set_option linter.unusedVariables false
set_option linter.unusedSimpArgs false
set_option maxRecDepth 100000
set_option maxHeartbeats 8000000
open Go.RowKit Go.Lib Go.Shelf
open Hs
theorem start_zero {c : CfgV} {L : List CallV} (h1 : cfgE c = 0) (h2 : (checkP L).2 = 0) (h3 : L.length ≤ 10) : startE c L = 0 := by
  unfold startE
  rw [if_neg (by rw [h1]; simp), if_neg (by rw [h2]; simp), if_neg (by omega)]
theorem nextS_pend {st : MS} {c : CallV} (h : c.answered < 0) : nextS st c = some (doS st c.thread (opV c)).2 := by unfold nextS; rw [if_pos h]
theorem full_mk {L : List CallV} {u : Nat} (h : ∀ j, j < L.length → 0 ≤ (getC L j).answered → u.testBit j = true) : fullB L u = true := by
  unfold fullB
  rw [List.all_eq_true]
  intro j hj
  by_cases ha : (getC L j).answered < 0
  · simp [ha]
  · rw [h j (List.mem_range.1 hj) (by omega)]; rfl
end Go.Proofs.YtdeiocppghhfdaaGreat.Lin
namespace Go.Proofs.YtdeiocppghhfdaaGreat.Lin
set_option linter.unusedVariables false
set_option linter.unusedSimpArgs false
set_option maxRecDepth 100000
set_option maxHeartbeats 8000000
open Hs
theorem accO_next {cs : List CallV} {st : MS} {i : Nat} (ha : ¬ (getC cs i).answered < 0) (h : (accO cs st i).1 = true) : nx cs st i = some (accO cs st i).2 := by
  show nextS st (getC cs i) = _
  unfold nextS
  rw [if_neg ha]
  exact if_pos h
theorem acc_true {st : MS} {c : Int} {q : OpV} {r : ResV} {i : ItV} (h : (accS st c q r i).1 = true) : (sameB r i (doS st c q).1 = true ∧ (accS st c q r i).2 = (doS st c q).2) ∨ (sameB r i (doS st c q).1 = false ∧ accB st c q r i = true ∧ (accS st c q r i).2 = st) := by
  unfold accS at h ⊢
  cases hs : sameB r i (doS st c q).1 with
  | true => rw [if_pos rfl]; exact .inl ⟨rfl, rfl⟩
  | false =>
    rw [hs] at h
    simp only [Bool.false_eq_true, if_false] at h ⊢
    exact .inr ⟨trivial, h, trivial⟩
theorem sameB_err {r s : ResV} {i : ItV} (h : sameB r i s = true) : r.err = s.err := by rw [(sameB_eq h).1]
theorem pend_same {st : MS} {c : Int} {q : OpV} {r : ResV} {i : ItV} (h : (accS st c q r i).1 = true) (h6 : r.err ≠ 6) (h14 : r.err ≠ 14) : (accS st c q r i).2 = (doS st c q).2 := by
  rcases acc_true h with ⟨_, h2⟩ | ⟨_, hb, h2⟩
  · exact h2
  · rw [h2]
    unfold Go.Proofs.YtdeiocppghhfdaaGreat.accB at hb
    split at hb
    · cases hb
    · split at hb
      · simp only [Bool.and_eq_true, beq_iff_eq] at hb
        exact (do_fail (by rw [hb.1.1]; decide)).symm
      · split at hb
        · simp only [Bool.or_eq_true, Bool.and_eq_true] at hb
          rcases hb with hb | hb
          · exact absurd (sameB_err hb.1) h6
          · exact absurd (sameB_err hb.1) h14
        · split at hb
          · simp only [Bool.and_eq_true] at hb
            exact absurd (sameB_err hb.1) h14
          · cases hb
def kpQ (cs : List CallV) (i : Nat) : Bool := decide (0 ≤ (getC cs i).answered) || (decide ((getC cs i).err ≠ 6) && decide ((getC cs i).err ≠ 14))
theorem play_run {cs : List CallV} : ∀ (o : List Nat) (st : MS), playE cs st o = none → (runO cs st ((o.filter (kpQ cs)).map fun (n : Nat) => (n : Int))).isSome = true
  | [], st, _ => rfl
  | i :: r, st, h => by
    unfold playE at h
    cases ha : (accO cs st i).1 with
    | false => rw [ha] at h; cases h
    | true =>
      rw [ha, if_pos rfl] at h
      have ih := play_run r _ h
      cases hk : kpQ cs i with
      | true =>
        rw [List.filter_cons_of_pos hk, List.map_cons]
        show ((nx cs st ((i : Int)).toNat).bind fun t => runO cs t _).isSome = true
        have hn : nx cs st ((i : Int)).toNat = some (accO cs st i).2 := by
          rw [Int.toNat_natCast]
          by_cases hp : (getC cs i).answered < 0
          · show nextS st (getC cs i) = _
            rw [nextS_pend hp]
            have hk2 : (getC cs i).err ≠ 6 ∧ (getC cs i).err ≠ 14 := by
              unfold kpQ at hk
              have : decide (0 ≤ (getC cs i).answered) = false := by simpa using hp
              rw [this, Bool.false_or, Bool.and_eq_true, decide_eq_true_eq, decide_eq_true_eq] at hk
              exact hk
            congr 1
            exact (pend_same ha hk2.1 hk2.2).symm
          · exact accO_next hp ha
        rw [hn]
        exact ih
      | false =>
        rw [List.filter_cons_of_neg (by rw [hk]; simp)]
        have he : (getC cs i).err ≠ 0 := by
          unfold kpQ at hk
          intro h0
          rw [h0] at hk
          simp at hk
        have hst : (accO cs st i).2 = st := acc_keep (.inr he)
        rw [hst] at ih
        exact ih
theorem back_rdy {cs : List CallV} {o : List Nat} (h0 : (checkP cs).2 = 0) (hl : ∀ i ∈ o, i < cs.length) (hb : NoBack cs o) (hc : ∀ i ∈ o, ∀ j, j < cs.length → befB (getC cs j) (getC cs i) = true → j ∈ o) : ∀ k i, o[k]? = some i → rdyB cs (mk 0 (o.take k)) i = true := by
  intro k j hk
  obtain ⟨hlt, hkj⟩ := List.getElem?_eq_some_iff.1 hk
  have hjo : j ∈ o := by rw [← hkj]; exact List.getElem_mem ..
  unfold rdyB
  rw [List.all_eq_true]
  intro i hil
  have hil := List.mem_range.1 hil
  rw [mk_bit, Nat.zero_testBit, Bool.false_or]
  cases hbb : befB (getC cs i) (getC cs j) with
  | false => simp
  | true =>
    have hio : i ∈ o := hc j hjo i hil hbb
    obtain ⟨m, hm, hmi⟩ := List.getElem_of_mem hio
    have hmk : m < k := by
      rcases Nat.lt_trichotomy m k with h | h | h
      · exact h
      · exfalso
        subst h
        rw [hmi] at hkj
        subst hkj
        rw [bef_self h0 hil] at hbb
        cases hbb
      · exfalso
        have := List.pairwise_iff_getElem.1 hb k m hlt hm h
        rw [hmi, hkj, hbb] at this
        cases this
    have : i ∈ o.take k := by
      rw [List.mem_take_iff_getElem]
      exact ⟨m, by omega, hmi⟩
    simp [this]
theorem perf_parts {c : CfgV} {cs : List CallV} {E : List Nat} (h : (perfE c cs E).2 = 0) : cfgE c = 0 ∧ (checkP cs).2 = 0 ∧ playE cs (newS c) (ordW cs E) = none := by
  unfold perfE at h
  split at h
  · rename_i h1; exact absurd h h1
  · split at h
    · rename_i h1 h2; exact absurd h h2
    · split at h
      · cases h
      · rename_i h1 h2 _ h3
        exact ⟨by simpa using h1, by simpa using h2, h3⟩
theorem witness_lin {c : CfgV} {cs : List CallV} {E : List Nat} (hE : EffIs cs E) (hl : cs.length ≤ 10) (h : (perfE c cs E).2 = 0) : validE c (((ordW cs E).filter (kpQ cs)).map fun (n : Nat) => (n : Int)) cs = 0 := by
  obtain ⟨h1, h0, h3⟩ := perf_parts h
  refine (valid_chain (start_zero h1 h0 hl) _).2 ⟨_, rfl, (chain_run _).2 ⟨fun i hi => ((ord_in hE).1 (List.mem_filter.1 hi).1).1, (ord_nodup hE).filter _, fun i _ => Nat.zero_testBit i, ?_, play_run _ _ h3, ?_⟩⟩
  · refine back_rdy h0 (fun i hi => ((ord_in hE).1 (List.mem_filter.1 hi).1).1) ((ord_back h0 hE).filter _) fun i hi j hj hb => ?_
    obtain ⟨hi1, _⟩ := List.mem_filter.1 hi
    obtain ⟨hi2, hi3⟩ := (ord_in hE).1 hi1
    have ht := bef_took h0 hj hi2 hi3 hb
    refine List.mem_filter.2 ⟨(ord_in hE).2 ⟨hj, ht.1⟩, ?_⟩
    unfold kpQ
    unfold befB at hb
    simp only [Bool.and_eq_true, decide_eq_true_eq] at hb
    simp [hb.1]
  · refine full_mk fun j hj ha => ?_
    rw [mk_bit, Nat.zero_testBit, Bool.false_or, List.contains_iff_mem]
    have hf := formed_answered (good_formed h0 (getC_some hj)) ha
    refine List.mem_filter.2 ⟨(ord_in hE).2 ⟨hj, hf.1⟩, ?_⟩
    unfold kpQ
    simp [ha]
end Go.Proofs.YtdeiocppghhfdaaGreat.Lin
namespace Go.Proofs.YtdeiocppghhfdaaGreat.Lin
set_option linter.unusedVariables false
set_option linter.unusedSimpArgs false
set_option maxRecDepth 100000
set_option maxHeartbeats 8000000
open Go.RowKit Go.Lib Go.Shelf
open Hs
open KitI (iv IRow own_below infoI)
attribute [local go_sem, local simp] Hs.callL_0 Hs.callL_1 Hs.callL_2 Hs.callL_3 Hs.callL_4 Hs.callL_5 Hs.callL_6 Hs.callL_7 Hs.callL_8 Hs.callL_9 Hs.callL_10 Hs.callL_11 Hs.callL_12 Hs.callL_13 Hs.callL_14 Hs.callL_15 Hs.callL_16 Hs.callL_17 Hs.callL_18 Hs.callL_19 Hs.callL_20 Hs.callL_21 Hs.callL_22 Hs.callL_23 Hs.callL_24 Hs.callL_25 Hs.callL_26 Hs.resL_0 Hs.resL_1 Hs.resL_2 Hs.resL_3 Hs.resL_4 Hs.resL_5 Hs.resL_6 Hs.resL_7 Hs.resL_8 Hs.resL_9 Hs.resL_10 Hs.resL_11 Hs.resL_12 Hs.callG_0 Hs.callG_1 Hs.callG_2 Hs.callG_3 Hs.callG_4 Hs.callG_5 Hs.callG_6 Hs.callG_7 Hs.callG_8 Hs.callG_9 Hs.callG_10 Hs.callG_11 Hs.callG_12 Hs.callG_13 Hs.callG_14 Hs.callG_15 Hs.callG_16 Hs.callG_17 Hs.callG_18 Hs.callG_19 Hs.callG_20 Hs.callG_21 Hs.callG_22 Hs.callG_23 Hs.callG_24 Hs.callG_25 Hs.callG_26 Hs.resG_0 Hs.resG_1 Hs.resG_2 Hs.resG_3 Hs.resG_4 Hs.resG_5 Hs.resG_6 Hs.resG_7 Hs.resG_8 Hs.resG_9 Hs.resG_10 Hs.resG_11 Hs.resG_12 Hs.callL_len Hs.resL_len
attribute [local go_sem ↓] Hs.loadCall_eq Hs.loadRes_eq
attribute [local go_sem] Hs.ld_new Hs.ld_first Hs.ld_second Hs.ldr_new Hs.st_new
def insE (cs : List CallV) (i : Nat) : List Nat → List Nat
  | [] => [i]
  | j :: r => if lexB cs i j then i :: j :: r else j :: insE cs i r
def effC (cs : List CallV) : List Nat := (places tookQ cs 0).foldr (insE cs) []
theorem insE_perm (cs : List CallV) (i : Nat) : ∀ l : List Nat, (insE cs i l).Perm (i :: l)
  | [] => List.Perm.refl _
  | j :: r => by
    unfold insE
    split
    · exact List.Perm.refl _
    · exact ((insE_perm cs i r).cons j).trans (List.Perm.swap i j r)
theorem lex_trans {cs : List CallV} {a b c : Nat} (h1 : lexB cs b a = false) (h2 : lexB cs c b = false) : lexB cs c a = false := by
  unfold lexB at *
  simp only [decide_eq_false_iff_not] at *
  omega
theorem insE_sorted (cs : List CallV) (i : Nat) : ∀ l : List Nat, l.Pairwise (fun a b => lexB cs b a = false) → (insE cs i l).Pairwise fun a b => lexB cs b a = false
  | [], _ => List.pairwise_singleton _ _
  | j :: r, h => by
    obtain ⟨h1, h2⟩ := List.pairwise_cons.1 h
    unfold insE
    split
    · rename_i hl
      refine List.pairwise_cons.2 ⟨fun b hb => ?_, h⟩
      rcases List.mem_cons.1 hb with rfl | hb
      · exact lex_asymm hl
      · exact lex_trans (lex_asymm hl) (h1 b hb)
    · rename_i hl
      refine List.pairwise_cons.2 ⟨fun b hb => ?_, insE_sorted cs i r h2⟩
      rcases List.mem_cons.1 ((insE_perm cs i r).mem_iff.1 hb) with rfl | hb
      · simpa using hl
      · exact h1 b hb
theorem effC_perm (cs : List CallV) : (effC cs).Perm (places tookQ cs 0) := by
  unfold effC
  generalize places tookQ cs 0 = l
  induction l with
  | nil => exact List.Perm.refl _
  | cons a l ih => exact (insE_perm cs a _).trans (ih.cons a)
theorem effC_sorted (cs : List CallV) : (effC cs).Pairwise fun a b => lexB cs b a = false := by
  unfold effC
  generalize places tookQ cs 0 = l
  induction l with
  | nil => exact List.Pairwise.nil
  | cons a l ih => exact insE_sorted cs a _ ih
theorem effC_of {cs : List CallV} {E : List Nat} (h : EffIs cs E) : effC cs = E := by
  refine ((effC_perm cs).trans h.1.symm).eq_of_pairwise (le := fun a b => lexB cs b a = false) (fun a b ha hb h1 h2 => ?_) (effC_sorted cs) (h.2.imp fun hl => lex_asymm hl)
  have ha' := ((effC_perm cs).trans h.1.symm).mem_iff.1 ha
  rcases Nat.lt_trichotomy (E.idxOf a) (E.idxOf b) with h3 | h3 | h3
  · have := pair_at h.2 ha' hb h3
    rw [h2] at this; cases this
  · have e1 := List.getElem_idxOf (List.idxOf_lt_length_iff.2 ha')
    have e2 := List.getElem_idxOf (List.idxOf_lt_length_iff.2 hb)
    rw [← e1, ← e2]
    congr 1
  · have := pair_at h.2 hb ha' h3
    rw [h1] at this; cases this
def perfC (c : CfgV) (cs : List CallV) : Int × Int := perfE c cs (effC cs)
theorem perf_cfg {c : CfgV} {cs : List CallV} (h : cfgE c ≠ 0) (E : List Nat) : perfE c cs E = (0, cfgE c) := by unfold perfE; rw [if_pos h]
theorem perf_chk {c : CfgV} {cs : List CallV} (h1 : cfgE c = 0) (h : (checkP cs).2 ≠ 0) (E : List Nat) : perfE c cs E = checkP cs := by unfold perfE; rw [if_neg (by rw [h1]; simp), if_pos h]
theorem each_check (m n : Nat) (hm : m ≤ n) : EachC m n 82 #[] (fun _ _ => True) where
  ent := enters_of Tryz.func82 (by kernel_rfl) rfl
  keep := fun _ _ _ _ _ => trivial
  call := fun W b M K l hn _ _ _ _ => by
    go_enter Tryz.func82, Tryz.ntmps82
    go_wp2
    go_end0
    exact ⟨rfl, trivial, FrT.refl _ _ _⟩
theorem witcheck_any (c : CfgV) (p : Option Addr) (cap : Nat) (cs : List CallV) (w : World) (hC : CRow w p cap cs) (hs : cs.length ≤ 1000) (hok : ∀ x ∈ cs, x.Ok) (hd : ∀ x ∈ cs, x.ps.length ≤ 1000000) :
    Calls Tryz.prog 38 #[c.v, .slice p cs.length cap] w fun e w' => e = .returned (.tuple #[.int .i64 (perfC c cs).1, .int .i64 (perfC c cs).2]) ∧ Below w.heap.size w w' := by
  have hB0 : Below w.heap.size w (w.alloc (.cells #[.int .i64 c.slots, .int .u64 c.gens, .int .i64 c.clients, .int .i64 c.readers, .int .i64 c.queue, .int .i64 c.batch, .int .i64 c.feed, .string c.text] 24)) := (Below.refl w.heap.size w).alloc (Nat.le_refl _) _
  have hpf := perform_any w.heap.size c p cap cs 82 #[] (fun _ _ => True) (w.alloc (.cells #[.int .i64 c.slots, .int .u64 c.gens, .int .i64 c.clients, .int .i64 c.readers, .int .i64 c.queue, .int .i64 c.batch, .int .i64 c.feed, .string c.text] 24)) hB0.size (fun W hb => hC.on (hB0.trans hb)) (each_check _ _ hB0.size) trivial hs hok hd
  have hfin : ∀ e w', PerfPost w.heap.size (w.alloc (.cells #[.int .i64 c.slots, .int .u64 c.gens, .int .i64 c.clients, .int .i64 c.readers, .int .i64 c.queue, .int .i64 c.batch, .int .i64 c.feed, .string c.text] 24)) c cs (fun _ _ => True) e w' → ∃ v, e = .returned (.tuple #[v, .int .i64 (perfC c cs).1, .int .i64 (perfC c cs).2]) ∧ Below w.heap.size w w' := by
    rintro e w' (⟨h1, rfl, _, hb⟩ | ⟨h1, h2, rfl, _, hb⟩ | ⟨h1, h2, E, b, M, v, hE, rfl, _, hb, _⟩)
    · exact ⟨_, by unfold perfC; rw [perf_cfg h1], hB0.trans hb⟩
    · exact ⟨_, by unfold perfC; rw [perf_chk h1 h2], hB0.trans hb⟩
    · exact ⟨_, by unfold perfC; rw [effC_of hE], hB0.trans hb⟩
  have hpf2 := hpf.mono hfin
  clear hpf hfin
  generalize (perfC c cs).1 = x1 at *
  generalize (perfC c cs).2 = x2 at *
  unfold CfgV.v at *
  go_enter Tryz.func38, Tryz.ntmps38
  go_wp2_with (go_at_call 81; refine hpf2.mono ?_; rintro e w1 ⟨v, rfl, hb1⟩)
  go_returns
  exact ⟨rfl, hb1⟩
section
variable {w W : World} {c : CfgV} {p : Option Addr} {cap : Nat} {cs : List CallV}
theorem LawW.wcheck (h : LawW w W c p cap cs) : Calls Tryz.prog 38 #[.agg (cfgL c).toArray, .slice p cs.length cap] W fun e W' => e = .returned (.tuple #[.int .i64 (perfC c cs).1, .int .i64 (perfC c cs).2]) ∧ Below W.heap.size W W' :=
  witcheck_any c p cap cs W h.row.row (by have := h.row.len; omega) h.row.ok h.ps
theorem LawW.worder (h : LawW w W c p cap cs) : Calls Tryz.prog 36 #[.slice p cs.length cap] W (OrdPost W cs) :=
  order_any p cap cs W h.row.row (by have := h.row.len; omega) h.row.ok
end
end Go.Proofs.YtdeiocppghhfdaaGreat.Lin
namespace Go.Proofs.YtdeiocppghhfdaaGreat.Lin
set_option linter.unusedVariables false
set_option linter.unusedSimpArgs false
set_option maxRecDepth 100000
set_option maxHeartbeats 8000000
open Go.RowKit Go.Lib Go.Shelf
open Hs
open KitI (iv IRow own_below infoI)
attribute [local go_sem, local simp] Hs.callL_0 Hs.callL_1 Hs.callL_2 Hs.callL_3 Hs.callL_4 Hs.callL_5 Hs.callL_6 Hs.callL_7 Hs.callL_8 Hs.callL_9 Hs.callL_10 Hs.callL_11 Hs.callL_12 Hs.callL_13 Hs.callL_14 Hs.callL_15 Hs.callL_16 Hs.callL_17 Hs.callL_18 Hs.callL_19 Hs.callL_20 Hs.callL_21 Hs.callL_22 Hs.callL_23 Hs.callL_24 Hs.callL_25 Hs.callL_26 Hs.resL_0 Hs.resL_1 Hs.resL_2 Hs.resL_3 Hs.resL_4 Hs.resL_5 Hs.resL_6 Hs.resL_7 Hs.resL_8 Hs.resL_9 Hs.resL_10 Hs.resL_11 Hs.resL_12 Hs.callG_0 Hs.callG_1 Hs.callG_2 Hs.callG_3 Hs.callG_4 Hs.callG_5 Hs.callG_6 Hs.callG_7 Hs.callG_8 Hs.callG_9 Hs.callG_10 Hs.callG_11 Hs.callG_12 Hs.callG_13 Hs.callG_14 Hs.callG_15 Hs.callG_16 Hs.callG_17 Hs.callG_18 Hs.callG_19 Hs.callG_20 Hs.callG_21 Hs.callG_22 Hs.callG_23 Hs.callG_24 Hs.callG_25 Hs.callG_26 Hs.resG_0 Hs.resG_1 Hs.resG_2 Hs.resG_3 Hs.resG_4 Hs.resG_5 Hs.resG_6 Hs.resG_7 Hs.resG_8 Hs.resG_9 Hs.resG_10 Hs.resG_11 Hs.resG_12 Hs.callL_len Hs.resL_len
attribute [local go_sem ↓] Hs.loadCall_eq Hs.loadRes_eq
attribute [local go_sem] Hs.ld_new Hs.ld_first Hs.ld_second Hs.ldr_new Hs.st_new
attribute [local go_sem ↓] loadCfg_eq
attribute [local go_sem, local simp] cfgL_len cfgL_ne
attribute [local irreducible] cfgL
def LwRel (cs : List CallV) (o : List Nat) (base : Nat) (w : World) (v i : Value) (wr : World) : Prop :=
  ∃ k : Nat, i = .int .i64 k ∧ k ≤ o.length ∧ Below w.heap.size w wr ∧ wr.ownsRow base tInt 1 v ((o.take k).filter (kpQ cs)).length (((o.take k).filter (kpQ cs)).map nv)
theorem kp_step {cs : List CallV} {o : List Nat} {k i : Nat} (h : o[k]? = some i) : (o.take (k + 1)).filter (kpQ cs) = (o.take k).filter (kpQ cs) ++ if kpQ cs i then [i] else [] := by
  rw [List.take_add_one, h, Option.toList_some, List.filter_append]
  congr 1
  cases hk : kpQ cs i <;> simp [hk]
theorem walkLinearWitness (c : CfgV) (p : Option Addr) (cap : Nat) (cs : List CallV) (w : World) (hA : ArgRow w p cs) :
    Calls Tryz.prog 12 #[.agg (cfgL c).toArray, .slice p cs.length cap] w fun e w' => e = .returned (.bool true) ∧ Below w.heap.size w w' := by
  obtain ⟨i0, hi, hz0, hz1, hz2⟩ := info_parts infoI
  have hB0 : Below w.heap.size w (w.alloc (.cells (cfgL c).toArray tCfg)) := (Below.refl _ _).alloc (Nat.le_refl _) _
  have hz0' := blk_new w (cfgL c) tCfg
  have hl0 := ld_cfg hz0'
  go_enter Tryz.func12, Tryz.ntmps12
  go_wp2_with fail
  refine (small36_l c _).mono ?_
  rintro e w1 ⟨rfl, hb1⟩
  have hz1' := blk_below hz0' hb1 (by simp)
  have hs1 := st_cfg hz1' (by simp [cfgL_len]) (smallC 100 c)
  have hz2' := setRow_heap _ _ _ (cfgL (smallC 100 c)).toArray _ _ hz1'
  have hB1 : Below w.heap.size w (w1.setRow w.heap.size (cfgL (smallC 100 c)).toArray) := below_row (hB0.trans (hb1.mono hB0.size)) (Nat.le_refl _) _
  clear hl0 hz0' hb1 hz1'
  generalize smallC 100 c = C at *
  go_wp2_with fail
  refine (few36_h 10 (by omega) p cap cs _ (hA.on hB1)).mono ?_
  rintro e w3 ⟨p', cap', hs, rfl, hpure, hrow, -, hb3⟩
  have hL : LawW w w3 C p' cap' hs := ⟨hB1.trans (hb3.mono hB1.size), blk_below hz2' hb3 (Array.getElem?_eq_some_iff.1 hz2').1, hrow⟩
  have hlen : hs.length ≤ 10 := by have := congrArg List.length hpure; rw [List.length_map] at this; have := fewN_len 10 cs; omega
  clear hs1 hz2' hB1 hb3 hrow hpure hA
  have hld := hL.ld
  have hck := hL.wcheck
  have hlw := fun E (hE : EffIs hs E) (h : (perfC C hs).2 = 0) => witness_lin hE hlen (c := C) (by unfold perfC at h; rw [effC_of hE] at h; exact h)
  have h0 := fun (h : (perfC C hs).2 = 0) => (perf_parts (c := C) (cs := hs) h).2.1
  generalize (perfC C hs).1 = x1 at *
  generalize (perfC C hs).2 = x2 at *
  go_wp2_with fail
  refine hck.mono ?_
  rintro e w4 ⟨rfl, hb⟩
  have hL4 := hL.on hb
  have hld := hL4.ld
  clear hck hb hL
  by_cases hx : x2 = 0
  · subst hx
    have h00 := h0 rfl
    have hlw2 := fun E hE => hlw E hE rfl
    clear h0 hlw
    have hor := hL4.worder
    go_wp2_with fail
    refine hor.mono ?_
    rintro e w5 (⟨h22, _, _⟩ | ⟨_, v, E, hE, rfl, hO, hb⟩)
    · exact absurd (h00.symm.trans h22) (by decide)
    · obtain ⟨ao, qo, rfl⟩ := own_slice hO
      have hI5 : IRd w5 ao ((ordW hs E).map fun (x : Nat) => (x : Int)) := IRd.of (irow_own hO rfl)
      have hL5 := hL4.on hb
      have hlw := hlw2 E hE
      have hol : (ordW hs E).length ≤ 24 := by rw [ord_len hE]; have := eff_len hE; omega
      have hoi : ∀ i ∈ ordW hs E, i < hs.length := fun i hi => ((ord_in hE).1 hi).1
      clear hor hb hL4 hO
      generalize ordW hs E = o at *
      have Hlw := Lib.hid hlw
      clear hlw
      obtain ⟨base, hbase⟩ : ∃ base, w5.heap.size = base := ⟨_, rfl⟩
      go_wp2_with fail
      go_loopw [10, 11, 12] (fun v i x12 wr => LwRel hs o base w5 v i wr) (fun v i x12 wr => o.length - (intOf i).toNat)
      case atStart => exact ⟨0, rfl, by omega, Below.refl _ _, World.ownsRow_nil _ _ _ _⟩
      case round =>
        obtain ⟨k, rfl, hk, hB, hOw⟩ := hrel
        by_cases hlt : k < o.length
        · obtain ⟨i, hio⟩ : ∃ i, o[k]? = some i := ⟨_, List.getElem?_eq_getElem hlt⟩
          have hic := hoi i (List.mem_of_getElem? hio)
          obtain ⟨bo, oo, rfl, hcc⟩ := irow_at hI5 (by rw [List.length_map]; omega)
          have hck := hcc wr hB k _ (cast_at hio)
          obtain ⟨bq, off, rfl, hcap, hbq, hA⟩ := crow_at (hL5.on hB).row.row (by omega)
          have hld := hA.load (getC_some hic)
          have hst := kp_step (cs := hs) hio
          have hkq : kpQ hs i = (decide (0 ≤ (getC hs i).answered) || (decide ((getC hs i).err ≠ 6) && decide ((getC hs i).err ≠ 14))) := rfl
          have hfl := List.length_filter_le (kpQ hs) (o.take k)
          rw [List.length_take] at hfl
          have h0b : Below wr.heap.size wr (wr.alloc (.cells (callL (getC hs i)).toArray 56)) := (Below.refl _ _).alloc (Nat.le_refl _) _
          have hB2 := hB.trans (h0b.mono hB.size)
          have hO2 := own_below hOw h0b
          have hck2 : (wr.alloc (.cells (callL (getC hs i)).toArray 56)).cell? ⟨bo, oo + k, none⟩ = some (.int .i64 (i : Int)) := hcc _ hB2 k _ (cast_at hio)
          generalize getC hs i = q at *
          have Hst := Lib.hid hst
          have Hkq := Lib.hid hkq
          clear hst hkq hcc hA hOw
          by_cases ha : 0 ≤ q.answered
          · have e1 : decide (0 ≤ q.answered) = true := by simpa using ha
            have hkp : kpQ hs i = true := by rw [Hkq.out, e1]; rfl
            clear ha
            have hst2 : (o.take (k + 1)).filter (kpQ hs) = (o.take k).filter (kpQ hs) ++ [i] := by rw [Hst.out, if_pos hkp]
            have Hst2 := Lib.hid hst2
            clear hst2 hkp
            go_wp2_with (at_builtin; (refine wpList_append_own _ rfl _ _ 28 rfl base tInt i0 (.int .i64 0) 1 8 Tryz.underlying28 hi hz0 hz1 hz2 rfl (by decide) _ _ _ rfl (hO2.alloc _) ⟨_, 0, none⟩ 1 1 [.int .i64 (i : Int)] rfl rfl (cell_one_new1 _ _ _ _) (by simp [Value.oneCell']) (by unfold maxLen; omega) (by omega) (by have := hB.size; simp; omega) ?_); intro v5 w5 hO5 hg5 _)
            have hB6 := (hB2.alloc hB2.size (.cells #[.int .i64 (i : Int)] tInt)).grown hg5 (by have := hB.size; simp; omega) (fun k hk => by have := (hO2.lt k hk).1; omega)
            go_roundw
            case rel => exact ⟨k + 1, by go_num, by omega, hB6, by rw [Hst2.out, List.length_append, List.map_append]; exact hO5⟩
            case measure => simp [intOf]; omega
          · have e1 : decide (0 ≤ q.answered) = false := by simpa using ha
            by_cases h6 : q.err = 6
            · have e2 : (q.err != 6) = false := by simpa using h6
              have hkp : kpQ hs i = false := by rw [Hkq.out, e1]; simp [h6]
              clear ha h6
              have hst2 : (o.take (k + 1)).filter (kpQ hs) = (o.take k).filter (kpQ hs) := by rw [Hst.out, if_neg (by rw [hkp]; simp)]; exact List.append_nil _
              have Hst2 := Lib.hid hst2
              clear hst2 hkp
              go_wp2_with fail
              go_roundw
              case rel => exact ⟨k + 1, by go_num, by omega, hB2, by rw [Hst2.out]; exact hO2⟩
              case measure => simp [intOf]; omega
            · have e2 : (q.err != 6) = true := by simpa using h6
              by_cases h14 : q.err = 14
              · have e3 : (q.err != 14) = false := by simpa using h14
                have hkp : kpQ hs i = false := by rw [Hkq.out, e1]; simp [h14]
                clear ha h6 h14
                have hst2 : (o.take (k + 1)).filter (kpQ hs) = (o.take k).filter (kpQ hs) := by rw [Hst.out, if_neg (by rw [hkp]; simp)]; exact List.append_nil _
                have Hst2 := Lib.hid hst2
                clear hst2 hkp
                go_wp2_with fail
                go_roundw
                case rel => exact ⟨k + 1, by go_num, by omega, hB2, by rw [Hst2.out]; exact hO2⟩
                case measure => simp [intOf]; omega
              · have e3 : (q.err != 14) = true := by simpa using h14
                have hkp : kpQ hs i = true := by rw [Hkq.out, e1]; simp [h6, h14]
                clear ha h6 h14
                have hst2 : (o.take (k + 1)).filter (kpQ hs) = (o.take k).filter (kpQ hs) ++ [i] := by rw [Hst.out, if_pos hkp]
                have Hst2 := Lib.hid hst2
                clear hst2 hkp
                go_wp2_with (at_builtin; (refine wpList_append_own _ rfl _ _ 28 rfl base tInt i0 (.int .i64 0) 1 8 Tryz.underlying28 hi hz0 hz1 hz2 rfl (by decide) _ _ _ rfl (hO2.alloc _) ⟨_, 0, none⟩ 1 1 [.int .i64 (i : Int)] rfl rfl (cell_one_new1 _ _ _ _) (by simp [Value.oneCell']) (by unfold maxLen; omega) (by omega) (by have := hB.size; simp; omega) ?_); intro v5 w5 hO5 hg5 _)
                have hB6 := (hB2.alloc hB2.size (.cells #[.int .i64 (i : Int)] tInt)).grown hg5 (by have := hB.size; simp; omega) (fun k hk => by have := (hO2.lt k hk).1; omega)
                go_roundw
                case rel => exact ⟨k + 1, by go_num, by omega, hB6, by rw [Hst2.out, List.length_append, List.map_append]; exact hO5⟩
                case measure => simp [intOf]; omega
        · have hke : k = o.length := by omega
          subst hke
          rw [List.take_length] at hOw
          have hL6 := hL5.on hB
          have hld := hL6.ld
          obtain ⟨av, qv, rfl⟩ := own_slice hOw
          have hIv : IRd wr av ((o.filter (kpQ hs)).map fun (x : Nat) => (x : Int)) := IRd.of (irow_own hOw rfl)
          have hfl := List.length_filter_le (kpQ hs) o
          have hV := hL6.valid (co := qv) (n := (o.filter (kpQ hs)).length) (by rw [List.length_map]) hIv (by rw [List.length_map]; omega)
          rw [Hlw.out] at hV
          clear hIv hOw hL5 hI5
          go_wp2_with fail
          refine hV.mono ?_
          rintro e w7 ⟨rfl, hb⟩
          have hL7 := hL6.on hb
          go_wp2_with fail
          refine hL7.awake.mono ?_
          rintro e w8 ⟨rfl, hb⟩
          go_wp2_with fail
          go_returns
          exact ⟨rfl, hb⟩
  · have d1 : (x2 != 0) = true := by simpa using hx
    clear hx
    go_wp2_with fail
    refine hL4.awake.mono ?_
    rintro e w8 ⟨rfl, hb⟩
    go_wp2_with fail
    go_returns
    exact ⟨rfl, hb⟩
end Go.Proofs.YtdeiocppghhfdaaGreat.Lin
namespace Go.Proofs.YtdeiocppghhfdaaGreat.linearWitness
set_option linter.unusedVariables false
set_option linter.unusedSimpArgs false
set_option maxRecDepth 100000
set_option maxHeartbeats 8000000
open Go.ChangeShapes Go.WideShapes Go.ChangeAt Go.RowKit
open Go.ChangeMaps (open_string shut_string)
open Lin Hs
set_option linter.unusedVariables false
theorem lifted (os : Os) (started : os.Started) (H : Type) (enc : TypeId × Value → H) :
    ReturnsInHanded {} Tryz.checked os 12 .any (Rows.linearWitnessSpec.pre6 enc Tryz.prog Tryz.f12 Rows.linearWitnessRow.domain false) (Rows.linearWitnessSpec.post enc Tryz.prog Tryz.f12 false true false false) := by
  refine returnsInHanded_of_change_sized (C := Tryz.checked) own started (by kernel_rfl) Tryz.func12
    (ChangeSpec.witness6 (enc := enc) (C := Tryz.checked) false ⟨#[], #[.agg #[.int .i64 0, .int .u64 0, .int .i64 0, .int .i64 0, .int .i64 0, .int .i64 0, .int .i64 0, .string ⟨#[]⟩], .slice none 0 0], []⟩ 8 (by kernel_rfl) (by kernel_rfl) (by kernel_rfl) (by kernel_rfl)) ?_
  intro W base args ds gs before hval0 hW hcnd hsz0 _
  have hval : ∀ (j : Nat) t v, Tryz.f12.params[j]? = some t → args[j]? = some v → Value.okWide Tryz.prog W .any base t v := hval0
  have hW' := hW
  obtain ⟨p, q, hA0, hV, rfl, hfz, hnd⟩ := hW
  have hA : DataW.TrodAll enc Tryz.prog W 0 (fun _ => true) true Tryz.f12.params.toList args.toList ds p := hA0
  rw [Tryz.params12] at hA hval
  obtain ⟨v0, vs0, d0, ds0, p0, q0, hargs, rfl, rfl, h0, r0⟩ := trodAll_cons hA
  obtain ⟨v1, vs1, d1, ds1, p1, q1, rfl, rfl, rfl, h1, r1⟩ := trodAll_cons r0
  obtain ⟨rfl, rfl, rfl⟩ := trodAll_nil r1
  obtain rfl : args = #[v0, v1] := by cases args; simp_all
  obtain ⟨rfl, rfl⟩ := trodVars_none hV
  obtain ⟨c0, rfl⟩ := open_cfg (hval 0 24 v0 rfl rfl) h0
  obtain ⟨q1, c1, l1, rfl, w1⟩ := open_calls (hval 1 25 v1 rfl rfl) h1
  clear hA0 hval0
  (try simp only [List.append_nil, List.nil_append] at hW')
  refine (walkLinearWitness c0 q1 c1 l1 W w1).mono fun e W' ⟨he, hg⟩ => ?_
  subst he
  have hlt0 : ∀ x ∈ p0, x.block < W.heap.size := fun x hx => hW'.lt x (by simp [hx])
  have hlt1 : ∀ x ∈ p1, x.block < W.heap.size := fun x hx => hW'.lt x (by simp [hx])
  exact ⟨_, rfl, post_of_below (pa := (p0 ++ (p1 ++ []))) (pv := []) hW' (fun _ _ _ => (trodAll_cons_mk (shut_bool Tryz.underlying4 _) trodAll_mk0)) (fun sp hsp => (trodAll_cons_mk (WideElems.Trod_stays (by kernel_rfl) (by kernel_rfl) (of_decide_eq_true (by kernel_rfl)) h0 (fun x hx => hg.same (hlt0 x hx)) (fun x hx => hsp x (by simp [hx]))) (trodAll_cons_mk (WideElems.Trod_stays (by kernel_rfl) (by kernel_rfl) (of_decide_eq_true (by kernel_rfl)) h1 (fun x hx => hg.same (hlt1 x hx)) (fun x hx => hsp x (by simp [hx]))) trodAll_mk0))) (fun _ _ => rfl) (by simp)
    hg (ok_one (by kernel_rfl) rfl (okWide_bool_mk Tryz.underlying4 _))⟩
theorem facts : joinedFacts Tryz.prog 12 Tryz.f12 Rows.linearWitnessSpec Rows.linearWitnessRow = true := by
  unfold joinedFacts
  simp only [Bool.and_eq_true]
  repeat' apply And.intro
  all_goals (as_aux_lemma => kernel_rfl)
theorem proved : Rows.LinearWitnessSaid :=
  OpenClaim.holds_of_wide 12 Tryz.f12 rfl rfl rfl rfl rfl rfl rfl ⟨rfl, rfl, rfl, rfl, rfl⟩ rfl rfl rfl rfl rfl (by kernel_rfl) Tryz.func12 facts
    (of_decide_eq_true (by kernel_rfl)) (by unfold Func.isWrapper; first | (rw [if_pos (by decide +kernel)]; kernel_rfl) | (rw [if_neg (by decide +kernel)]; exact ⟨rfl, rfl⟩))
    (fun os started H enc _ => lifted os started H enc)
#print axioms proved
end Go.Proofs.YtdeiocppghhfdaaGreat.linearWitness
