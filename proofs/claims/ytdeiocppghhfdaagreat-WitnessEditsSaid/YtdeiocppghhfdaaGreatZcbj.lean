/- Texts, one behind another. -/
import Derived.Test.YtdeiocppghhfdaaGreatZcaa
import Derived.Test.YtdeiocppghhfdaaGreatZcbi
import Derived.Laws.EntriesVeiled
import Derived.Deep.RegionLaw
import Derived.RangeFuncNested
import Derived.RangeFuncBound
import Derived.RangeFuncCalls
import Derived.RangeFuncLeaves
import Derived.RangeFuncFrom
import Derived.Shelf.Abstract
import Derived.Shelf.RegionOpen
import Derived.OwnWalkIn
import Derived.TacticsInMore
import Derived.LoopNIn
import Derived.LoopIn
set_option linter.unusedVariables false
set_option linter.unusedSimpArgs false
set_option maxRecDepth 100000
set_option maxHeartbeats 8000000
namespace Go.Proofs.YtdeiocppghhfdaaGreat.Lin
open Go.RowKit Go.Lib Go.Shelf
open Hs
open KitI (iv IRow own_below infoI)
attribute [local go_sem, local simp] Hs.callL_0 Hs.callL_1 Hs.callL_2 Hs.callL_3 Hs.callL_4 Hs.callL_5 Hs.callL_6 Hs.callL_7 Hs.callL_8 Hs.callL_9 Hs.callL_10 Hs.callL_11 Hs.callL_12 Hs.callL_13 Hs.callL_14 Hs.callL_15 Hs.callL_16 Hs.callL_17 Hs.callL_18 Hs.callL_19 Hs.callL_20 Hs.callL_21 Hs.callL_22 Hs.callL_23 Hs.callL_24 Hs.callL_25 Hs.callL_26 Hs.resL_0 Hs.resL_1 Hs.resL_2 Hs.resL_3 Hs.resL_4 Hs.resL_5 Hs.resL_6 Hs.resL_7 Hs.resL_8 Hs.resL_9 Hs.resL_10 Hs.resL_11 Hs.resL_12 Hs.callG_0 Hs.callG_1 Hs.callG_2 Hs.callG_3 Hs.callG_4 Hs.callG_5 Hs.callG_6 Hs.callG_7 Hs.callG_8 Hs.callG_9 Hs.callG_10 Hs.callG_11 Hs.callG_12 Hs.callG_13 Hs.callG_14 Hs.callG_15 Hs.callG_16 Hs.callG_17 Hs.callG_18 Hs.callG_19 Hs.callG_20 Hs.callG_21 Hs.callG_22 Hs.callG_23 Hs.callG_24 Hs.callG_25 Hs.callG_26 Hs.resG_0 Hs.resG_1 Hs.resG_2 Hs.resG_3 Hs.resG_4 Hs.resG_5 Hs.resG_6 Hs.resG_7 Hs.resG_8 Hs.resG_9 Hs.resG_10 Hs.resG_11 Hs.resG_12 Hs.callL_len Hs.resL_len
attribute [local go_sem ↓] Hs.loadCall_eq Hs.loadRes_eq
attribute [local go_sem] Hs.ld_new Hs.ld_first Hs.ld_second Hs.ldr_new Hs.st_new
abbrev tPm : TypeId := 81
def ptrOf (l : List (Nat × MS)) : Value := match l.getLast? with | none => .pointer none | some x => .pointer (some ⟨x.1, 0, none⟩)
theorem ptr_snoc (l : List (Nat × MS)) (x : Nat × MS) : ptrOf (l ++ [x]) = .pointer (some ⟨x.1, 0, none⟩) := by unfold ptrOf; simp
theorem frt_box {W : World} {B m : Nat} {v : Value} {T : TypeId} {cs : Array Value} (hb : W.heap[B]? = some (.cells cs T (0, 0))) (hT : ETy T) (hm : m ≤ B) (v' : Value) : FrT ETy m W (W.setCell ⟨B, 0, none⟩ v') := by
 refine ⟨(Below.refl m W).setCell (p := ⟨B, 0, none⟩) hm v', fun k c T2 r hk h2 => ?_⟩
 by_cases e : k = B
 ·subst e
  rw [hb] at hk
  injection hk with hk
  injection hk with _ hk _
  subst hk
  exact absurd hT h2
 ·exact (setCell_ne _ _ _ _ e).trans hk
theorem each_final (m n B : Nat) (hm : m ≤ B) (hB : B < n) : EachC m n 84 #[.pointer (some ⟨B, 0, none⟩)] (fun l W => W.heap[B]? = some (.cells #[ptrOf l] tPm (0, 0))) where
 ent := enters_of Tryz.func84 (by kernel_rfl) rfl
 keep := fun l W W' h hf => (hf.bl.block B hB).trans h
 call := fun W b M K l hn h _ _ _ => by
  have c0 : W.cell? ⟨B, 0, none⟩ = some (ptrOf l) := blk_cell (L := [ptrOf l]) h 0
  have f0 : W.frozen? ⟨B, 0, none⟩ = false := blk_frozen (L := [ptrOf l]) h 0
  have h2 := blk_set (L := [ptrOf l]) h 0 (.pointer (some ⟨b, 0, none⟩))
  have h3 := frt_box (m := m) (v := ptrOf l) h (.inr (.inr rfl)) hm (.pointer (some ⟨b, 0, none⟩))
  go_enter Tryz.func84, Tryz.ntmps84
  go_wp2
  go_end0
  exact ⟨rfl, by rw [ptr_snoc]; exact h2, h3⟩
def FinPost (w : World) (c : CfgV) (cs : List CallV) (e : Ending) (w' : World) : Prop :=
 ((perfC c cs).2 ≠ 0 ∧ e = .returned (.tuple #[.string ⟨#[]⟩, .slice none 0 0, .int .i64 0, .int .i64 (perfC c cs).2]) ∧ Below w.heap.size w w') ∨
 ((perfC c cs).2 = 0 ∧ ∃ v, e = .returned (.tuple #[.string (lastC c cs).text, v, .int .i64 (lastC c cs).number, .int .i64 0]) ∧ MOwn w' w.heap.size v (lastC c cs).marks ∧ Below w.heap.size w w')
theorem playL_ne (cs : List CallV) (st : MS) (o : List Nat) : playL cs st o ≠ [] := by cases o <;> simp [playL]
theorem ptr_play (cs : List CallV) (st : MS) (o : List Nat) (b : Nat) : ptrOf ((playL cs st o).map fun s => (b, s)) = .pointer (some ⟨b, 0, none⟩) := by
 unfold ptrOf
 rw [List.getLast?_map]
 cases h : (playL cs st o).getLast? with
 | none => exact absurd (List.getLast?_eq_none_iff.1 h) (playL_ne cs st o)
 | some x => rfl
theorem final_any (c : CfgV) (p : Option Addr) (cap : Nat) (cs : List CallV) (w : World) (hC : CRow w p cap cs) (hs : cs.length ≤ 1000) (hok : ∀ x ∈ cs, x.Ok) (hd : ∀ x ∈ cs, x.ps.length ≤ 1000000) :
  Calls Tryz.prog 40 #[c.v, .slice p cs.length cap] w (FinPost w c cs) := by
 have hB1 : Below w.heap.size w ((w.alloc (.cells #[.int .i64 c.slots, .int .u64 c.gens, .int .i64 c.clients, .int .i64 c.readers, .int .i64 c.queue, .int .i64 c.batch, .int .i64 c.feed, .string c.text] 24)).alloc (.cells #[.pointer none] tPm)) := below2 _ _ _
 have hbx : ((w.alloc (.cells #[.int .i64 c.slots, .int .u64 c.gens, .int .i64 c.clients, .int .i64 c.readers, .int .i64 c.queue, .int .i64 c.batch, .int .i64 c.feed, .string c.text] 24)).alloc (.cells #[.pointer none] tPm)).heap[w.heap.size + 1]? = some (.cells #[.pointer none] tPm (0, 0)) := by
  have := heap_alloc_new (w.alloc (.cells #[.int .i64 c.slots, .int .u64 c.gens, .int .i64 c.clients, .int .i64 c.readers, .int .i64 c.queue, .int .i64 c.batch, .int .i64 c.feed, .string c.text] 24)) (.cells #[.pointer none] tPm)
  rwa [World.size_alloc] at this
 have hpf := perform_any w.heap.size c p cap cs 84 #[.pointer (some ⟨w.heap.size + 1, 0, none⟩)] (fun l W => W.heap[w.heap.size + 1]? = some (.cells #[ptrOf l] tPm (0, 0))) _ hB1.size (fun W hb => hC.on (hB1.trans hb)) (each_final _ _ _ (by omega) (by simp)) hbx hs hok (ps_big hd)
 have hfin : ∀ e w', PerfPost w.heap.size ((w.alloc (.cells #[.int .i64 c.slots, .int .u64 c.gens, .int .i64 c.clients, .int .i64 c.readers, .int .i64 c.queue, .int .i64 c.batch, .int .i64 c.feed, .string c.text] 24)).alloc (.cells #[.pointer none] tPm)) c cs (fun l W => W.heap[w.heap.size + 1]? = some (.cells #[ptrOf l] tPm (0, 0))) e w' →
   ∃ v, e = .returned (.tuple #[v, .int .i64 (perfC c cs).1, .int .i64 (perfC c cs).2]) ∧ Below w.heap.size w w' ∧ ((perfC c cs).2 = 0 → ∃ b M, MdAt w' b M ∧ MSok M.st 100000 ∧ M.st = lastC c cs ∧ w'.heap[w.heap.size + 1]? = some (.cells #[.pointer (some ⟨b, 0, none⟩)] tPm (0, 0))) := by
  rintro e w' (⟨h1, rfl, _, hb⟩ | ⟨h1, h2, rfl, _, hb⟩ | ⟨h1, h2, E, b, M, v, hE, rfl, hI, hb, hM, hok, h3⟩)
  ·exact ⟨_, by unfold perfC; rw [perf_cfg h1], hB1.trans hb, fun h => by unfold perfC at h; rw [perf_cfg h1] at h; exact absurd h h1⟩
  ·exact ⟨_, by unfold perfC; rw [perf_chk h1 h2], hB1.trans hb, fun h => by unfold perfC at h; rw [perf_chk h1 h2] at h; exact absurd h h2⟩
  ·refine ⟨_, by unfold perfC; rw [effC_of hE], hB1.trans hb, fun h => ⟨b, M, hM, hok, ?_, ?_⟩⟩
   ·unfold perfC at h
    rw [effC_of hE] at h
    unfold lastC ordC
    rw [effC_of hE]
    exact (h3 h).1
   ·rw [ptr_play] at hI
    exact hI
 have hpf2 := hpf.mono hfin
 clear hpf hfin hbx
 have HP : FinPost w c cs = fun e w' => ((perfC c cs).2 ≠ 0 ∧ e = .returned (.tuple #[.string ⟨#[]⟩, .slice none 0 0, .int .i64 0, .int .i64 (perfC c cs).2]) ∧ Below w.heap.size w w') ∨
  ((perfC c cs).2 = 0 ∧ ∃ v, e = .returned (.tuple #[.string (lastC c cs).text, v, .int .i64 (lastC c cs).number, .int .i64 0]) ∧ MOwn w' w.heap.size v (lastC c cs).marks ∧ Below w.heap.size w w') := rfl
 rw [HP]
 clear HP
 generalize (perfC c cs).1 = x1 at *
 generalize (perfC c cs).2 = x2 at *
 generalize lastC c cs = st at *
 unfold CfgV.v at *
 by_cases hx : x2 = 0
 ·subst hx
  go_enter Tryz.func40, Tryz.ntmps40
  go_wp2_with (go_at_call 81; refine hpf2.mono ?_; rintro e w1 ⟨v, rfl, hb1, hq⟩)
  obtain ⟨b, M, hM, hok2, hst, hbx⟩ := (by first | exact hq rfl | exact hq trivial | exact hq : ∃ b M, MdAt w1 b M ∧ MSok M.st 100000 ∧ M.st = st ∧ w1.heap[w.heap.size + 1]? = some (.cells #[.pointer (some ⟨b, 0, none⟩)] tPm (0, 0)))
  have hS := fun W (hb : Below w1.heap.size w1 W) => (show W.cell? ⟨w.heap.size + 1, 0, none⟩ = some (.pointer (some ⟨b, 0, none⟩)) from blk_cell (L := [.pointer (some ⟨b, 0, none⟩)]) (blk_below hbx hb (Array.getElem?_eq_some_iff.1 hbx).1) 0)
  have hMs := fun W (hb : Below w1.heap.size w1 W) => hM.below hb
  have hd1 : Below w1.heap.size w1 w1.drew := (Below.refl _ _).drew
  have hml : M.marks.length ≤ 1000 := by have := hok2.marks.1; have e : M.st.marks = M.marks := rfl; rw [e] at this; omega
  clear hq hpf2 hM hbx
  refine wp_region_noPanic ?_
  refine wp_region_held_drew (S := fun W => W.cell? ⟨w.heap.size + 1, 0, none⟩ = some (.pointer (some ⟨b, 0, none⟩))) (by kernel_rfl) ?_ (fun hHeld => ?_)
  ·first | exact hS _ (Below.refl _ _) | exact hS _ hd1 | exact hS _ hd2
  ((first | refine np_n ?_ ?_ ?_ | refine np_t 0 ?_ ?_ ?_); rotate_left 1; (· (intro w hSw; (try dsimp only at hSw); go_simp; all_goals with_reducible rfl)); (try simp only [nSO]))
  (refine np_t 2 ?_ ?_ ?_; rotate_left 1; (· (intro w hSw; (try dsimp only at hSw); go_simp; all_goals with_reducible rfl)); (try simp only [nSO]))
  (refine np_t 4 ?_ ?_ ?_; rotate_left 1; (· (intro w hSw; (try dsimp only at hSw); go_simp; all_goals with_reducible rfl)); (try simp only [nSO]))
  (refine np_step (i := 1) rfl (by kernel_rfl) (fun K hK => ?_); rw [if_pos (by rfl)]; go_simp; ((go_at_call 51; refine (text_any b M _ (hMs _ hd1)).mono ?_; rintro e w2 ⟨rfl, rfl⟩)); (try go_wp2_with fail); refine hK.out _ _ ?_ (fun hHeld => ?_); (· (first | exact hS _ (Below.refl _ _) | exact hS _ hd1 | exact hS _ hd2)); clear hK K; (try simp only [nSO]))
  (refine np_step (i := 3) rfl (by kernel_rfl) (fun K hK => ?_); rw [if_pos (by rfl)]; go_simp; ((go_at_call 85; refine (marks_any b M _ (hMs _ hd1) hml).mono ?_; rintro e w2 ⟨vm, rfl, hvm, hb2⟩; have hd2 := hd1.trans hb2)); (try go_wp2_with fail); refine hK.out _ _ ?_ (fun hHeld => ?_); (· (first | exact hS _ (Below.refl _ _) | exact hS _ hd1 | exact hS _ hd2)); clear hK K; (try simp only [nSO]))
  (refine np_step (i := 5) rfl (by kernel_rfl) (fun K hK => ?_); rw [if_pos (by rfl)]; go_simp; ((go_at_call 52; refine (number_any b M _ (hMs _ hd2)).mono ?_; rintro e w3 ⟨rfl, rfl⟩)); (try go_wp2_with fail); refine hK.out _ _ ?_ (fun hHeld => ?_); (· (first | exact hS _ (Below.refl _ _) | exact hS _ hd1 | exact hS _ hd2)); clear hK K; (try simp only [nSO]))
  iterate 4 ((refine np_n ?_ ?_ ?_; rotate_left 1; (· (intro w hSw; (try dsimp only at hSw); go_simp; all_goals with_reducible rfl)); (try simp only [nSO])))
  refine wpAnyH_done (by kernel_rfl) ?_ _
  refine NoPanic.normal ?_
  go_wp2_with fail
  go_returns
  refine .inr ⟨by first | rfl | trivial, vm, ?_, ?_, hb1.trans (hd2.mono hb1.size)⟩
  ·rw [← hst]; rfl
  ·rw [← hst]; exact own_mono (by have := hb1.size; simp; omega) hvm
 ·have d1 : (x2 != 0) = true := by simpa using hx
  go_enter Tryz.func40, Tryz.ntmps40
  go_wp2_with (go_at_call 81; refine hpf2.mono ?_; rintro e w1 ⟨v, rfl, hb1, hq⟩)
  go_returns
  exact .inl ⟨hx, rfl, hb1⟩
end Go.Proofs.YtdeiocppghhfdaaGreat.Lin
namespace Go.Proofs.YtdeiocppghhfdaaGreat.Lin
open Go.RowKit Go.Lib Go.Shelf
open Hs
open KitI (iv IRow own_below infoI)
attribute [local go_sem, local simp] Hs.callL_0 Hs.callL_1 Hs.callL_2 Hs.callL_3 Hs.callL_4 Hs.callL_5 Hs.callL_6 Hs.callL_7 Hs.callL_8 Hs.callL_9 Hs.callL_10 Hs.callL_11 Hs.callL_12 Hs.callL_13 Hs.callL_14 Hs.callL_15 Hs.callL_16 Hs.callL_17 Hs.callL_18 Hs.callL_19 Hs.callL_20 Hs.callL_21 Hs.callL_22 Hs.callL_23 Hs.callL_24 Hs.callL_25 Hs.callL_26 Hs.resL_0 Hs.resL_1 Hs.resL_2 Hs.resL_3 Hs.resL_4 Hs.resL_5 Hs.resL_6 Hs.resL_7 Hs.resL_8 Hs.resL_9 Hs.resL_10 Hs.resL_11 Hs.resL_12 Hs.callG_0 Hs.callG_1 Hs.callG_2 Hs.callG_3 Hs.callG_4 Hs.callG_5 Hs.callG_6 Hs.callG_7 Hs.callG_8 Hs.callG_9 Hs.callG_10 Hs.callG_11 Hs.callG_12 Hs.callG_13 Hs.callG_14 Hs.callG_15 Hs.callG_16 Hs.callG_17 Hs.callG_18 Hs.callG_19 Hs.callG_20 Hs.callG_21 Hs.callG_22 Hs.callG_23 Hs.callG_24 Hs.callG_25 Hs.callG_26 Hs.resG_0 Hs.resG_1 Hs.resG_2 Hs.resG_3 Hs.resG_4 Hs.resG_5 Hs.resG_6 Hs.resG_7 Hs.resG_8 Hs.resG_9 Hs.resG_10 Hs.resG_11 Hs.resG_12 Hs.callL_len Hs.resL_len
attribute [local go_sem ↓] Hs.loadCall_eq Hs.loadRes_eq
attribute [local go_sem] Hs.ld_new Hs.ld_first Hs.ld_second Hs.ldr_new Hs.st_new
abbrev tStr : TypeId := 9
abbrev tStrs : TypeId := 68
theorem infoStr : (Tryz.prog.info? 9).map (fun i => (i.zero, i.size, i.bytes)) = some (some (.string ⟨#[]⟩), 1, 16) := by kernel_rfl
def TxInv (B : Nat) (l : List (Nat × MS)) (W : World) : Prop :=
 ∃ v, W.heap[B]? = some (.cells #[v] tStrs (0, 0)) ∧ W.ownsRow (B + 1) tStr 1 v (textsS (l.map (·.2))).length ((textsS (l.map (·.2))).map Value.string)
theorem texts_snoc (l : List (Nat × MS)) (x : Nat × MS) : textsS ((l ++ [x]).map (·.2)) = txStep (textsS (l.map (·.2))) x.2 := by rw [texts_eq, texts_eq, List.map_append, List.foldl_append]; rfl
theorem texts_len : ∀ (l : List MS) (out : List ByteArray), (l.foldl txStep out).length ≤ out.length + l.length
 | [], out => Nat.le_refl _
 | m :: l, out => by
  have h := texts_len l (txStep out m)
  have h2 : (txStep out m).length ≤ out.length + 1 := by unfold txStep; split <;> simp
  rw [List.foldl_cons, List.length_cons]
  omega
theorem own_keepC {W W' : World} {base sz n : Nat} {e : TypeId} {x : Value} {xs : List Value} (h : W.ownsRow base e sz x n xs) (hk : ∀ k, base ≤ k → W'.heap[k]? = W.heap[k]?) : W'.ownsRow base e sz x n xs := by
 refine ⟨h.1, ?_⟩
 rcases h.2 with hn | ⟨g, cap, cur, rfl, hB, hg, rest⟩
 ·exact .inl hn
 ·exact .inr ⟨g, cap, cur, rfl, hB, (hk g hB).trans hg, rest⟩
theorem frt_grown {A A' : World} {base sz n m : Nat} {v : Value} {xs : List Value} (ho : A.ownsRow base tStr sz v n xs) (hg : A.grownBy A' v.ownBlock) (hm : m ≤ base) (hle : m ≤ A.heap.size) : FrT ETy m A A' := by
 refine ⟨(Below.refl m A).grown hg hle (fun k hk => Nat.le_trans hm (ho.lt k hk).1), fun k c T r hk hT => (hg.block k (Array.getElem?_eq_some_iff.1 hk).1 fun e => ?_).trans hk⟩
 obtain ⟨cs, hc⟩ := own_type ho e.symm
 rw [hk] at hc
 injection hc with hc
 injection hc with _ hc _
 subst hc
 exact hT (.inr (.inl rfl))
theorem texts1_any (m n B : Nat) (hm : m ≤ B) (hB : B < n) (W : World) (b : Nat) (M : MM) (K : Int) (l : List (Nat × MS)) (hn : n ≤ W.heap.size) (h : TxInv B l W) (hM : MdAt W b M) (hok : MSok M.st K) (hl : l.length ≤ 2000) :
  Calls Tryz.prog 89 #[.pointer (some ⟨b, 0, none⟩), .pointer (some ⟨B, 0, none⟩)] W fun e W' => e = .returned (.tuple #[]) ∧ TxInv B (l ++ [(b, M.st)]) W' ∧ FrT ETy m W W' := by
 obtain ⟨i0, hi, hz0, hz1, hz2⟩ := info_parts infoStr
 obtain ⟨v, hbx, hown⟩ := h
 obtain ⟨a, q, rfl⟩ := own_slice hown
 have hsn := texts_snoc l (b, M.st)
 have htl : (textsS (l.map (·.2))).length ≤ 2000 := by
  have := texts_len (l.map (·.2)) []
  rw [← texts_eq] at this
  simp at this
  omega
 have hstp : txStep (textsS (l.map (·.2))) M.st = if M.st.number = ((textsS (l.map (·.2))).length : Int) then textsS (l.map (·.2)) ++ [M.st.text] else textsS (l.map (·.2)) := rfl
 have hnum : M.st.number = M.number := rfl
 have htxt : M.st.text = M.text := rfl
 rw [hstp, hnum, htxt] at hsn
 clear hstp
 have c0 : W.cell? ⟨B, 0, none⟩ = some (.slice a (textsS (l.map (·.2))).length q) := blk_cell (L := [.slice a (textsS (l.map (·.2))).length q]) hbx 0
 have hbW : B < W.heap.size := by omega
 by_cases he : M.number = ((textsS (l.map (·.2))).length : Int)
 ·rw [if_pos he] at hsn
  have de : (M.number == ((textsS (l.map (·.2))).length : Int)) = true := by simpa using he
  have Hsn := Lib.hid hsn
  clear hsn hnum htxt he
  generalize textsS (l.map (·.2)) = X at *
  have cd : W.drew.cell? ⟨B, 0, none⟩ = some (.slice a X.length q) := c0
  have hMd := hM.below (Below.refl W.heap.size W).drew
  have hfr0 : FrT ETy m W W.drew := FrT.below (Below.refl _ _).drew (by omega)
  have hbx0 : W.drew.heap[B]? = some (.cells #[.slice a X.length q] tStrs (0, 0)) := hbx
  have how0 := own_below hown (Below.refl W.heap.size W).drew
  have hsz0 : W.drew.heap.size = W.heap.size := rfl
  go_enter Tryz.func89, Tryz.ntmps89
  go_wp2_with fail
  refine wp_region_noPanic ?_
  refine wp_region_held_drew (S := fun W => W.cell? ⟨B, 0, none⟩ = some (.slice a X.length q)) (by kernel_rfl) ?_ (fun hHeld => ?_)
  ·first | exact c0 | exact cd
  ((first | refine np_n ?_ ?_ ?_ | refine np_t 0 ?_ ?_ ?_); rotate_left 1; (· (intro w hSw; (try dsimp only at hSw); go_simp; all_goals with_reducible rfl)); (try simp only [nSO]))
  (refine np_t 2 ?_ ?_ ?_; rotate_left 1; (· (intro w hSw; (try dsimp only at hSw); go_simp; all_goals with_reducible rfl)); (try simp only [nSO]))
  (refine np_n ?_ ?_ ?_; rotate_left 1; (· (intro w hSw; (try dsimp only at hSw); go_simp; all_goals with_reducible rfl)); (try simp only [nSO]))
  (refine np_step (i := 1) rfl (by kernel_rfl) (fun K hK => ?_); rw [if_pos (by rfl)]; go_simp; ((go_at_call 52; refine (number_any b M _ hMd).mono ?_; rintro e w3 ⟨rfl, rfl⟩)); (try go_wp2_with fail); refine hK.out _ _ ?_ (fun hHeld => ?_); (· (first | exact c0 | exact cd)); clear hK K; (try simp only [nSO]))
  (refine np_t 4 ?_ ?_ ?_; rotate_left 1; (· (intro w hSw; (try dsimp only at hSw); go_simp; all_goals with_reducible rfl)); (try simp only [nSO]))
  refine wpAnyH_done (by kernel_rfl) ?_ _
  refine NoPanic.normal ?_
  clear hHeld
  generalize W.drew = Wd at *
  have hsz1 : B < Wd.heap.size := by omega
  have hszn : n ≤ Wd.heap.size := by omega
  clear hsz0 hn hbW
  go_wp2_with fail
  have cb : (Wd.alloc (.cells #[.string M.text] tStr)).cell? ⟨B, 0, none⟩ = some (.slice a X.length q) := (Lib.cell?_alloc_some _ cd)
  have hb6 : ∀ w6 : World, (Wd.alloc (.cells #[.string M.text] tStr)).drew.grownBy w6 (Value.slice a X.length q).ownBlock → w6.heap[B]? = some (.cells #[.slice a X.length q] tStrs (0, 0)) := fun w6 hg => (hg.block B (by simp; omega) (fun e => by have := (how0.lt B e.symm).1; omega)).trans ((heap_alloc_old _ _ hsz1).trans hbx0)
  go_region_law (first | ((rw [if_pos (by rfl)]; refine wp_append_own _ _ _ tStrs rfl (B + 1) tStr i0 (.string ⟨#[]⟩) 1 16 Tryz.underlying68 hi hz0 hz1 hz2 rfl (by decide) _ X.length (X.map Value.string) rfl (how0.alloc _) ⟨_, 0, none⟩ 1 1 [.string M.text] rfl rfl (cell_one_new _ _ _) (by simp [Value.oneCell']) (by unfold maxLen; omega) (by omega) (by simp; omega) ?_); intro v6 w6 hn6 hg6 _; obtain ⟨a6, q6, rfl⟩ := own_slice hn6; have hbb := hb6 _ hg6; have c66 : w6.cell? ⟨B, 0, none⟩ = some (.slice a X.length q) := blk_cell (L := [.slice a X.length q]) hbb 0; have f66 : w6.frozen? ⟨B, 0, none⟩ = false := blk_frozen (L := [.slice a X.length q]) hbb 0) | (go_simp; go_at_call 51; refine (text_any b M _ (hMd.below (Below.refl _ _).drew)).mono ?_; rintro e w3 ⟨rfl, rfl⟩))
  all_goals (
   go_wp2_with fail
   go_end0
   refine ⟨rfl, ⟨_, blk_set (L := [.slice a X.length q]) hbb 0 _, ?_⟩, ?_⟩
   ·rw [Hsn.out, List.length_append, List.map_append]
    exact own_keepC hn6 (fun k hk => setCell_ne _ _ _ _ (by simp; omega))
   ·exact ((hfr0.trans (FrT.below (m := m) ((Below.refl _ _).alloc (Nat.le_refl _) _).drew (by omega))).trans (frt_grown (how0.alloc _) hg6 (by omega) (by simp; omega))).trans (frt_box (v := .slice a X.length q) hbb (.inl rfl) hm _))
 ·rw [if_neg he] at hsn
  have de : (M.number == ((textsS (l.map (·.2))).length : Int)) = false := by simpa using he
  have Hsn := Lib.hid hsn
  clear hsn hnum htxt he
  generalize textsS (l.map (·.2)) = X at *
  have cd : W.drew.cell? ⟨B, 0, none⟩ = some (.slice a X.length q) := c0
  have hMd := hM.below (Below.refl W.heap.size W).drew
  go_enter Tryz.func89, Tryz.ntmps89
  go_wp2_with fail
  refine wp_region_noPanic ?_
  refine wp_region_held_drew (S := fun W => W.cell? ⟨B, 0, none⟩ = some (.slice a X.length q)) (by kernel_rfl) ?_ (fun hHeld => ?_)
  ·first | exact c0 | exact cd
  ((first | refine np_n ?_ ?_ ?_ | refine np_t 0 ?_ ?_ ?_); rotate_left 1; (· (intro w hSw; (try dsimp only at hSw); go_simp; all_goals with_reducible rfl)); (try simp only [nSO]))
  (refine np_t 2 ?_ ?_ ?_; rotate_left 1; (· (intro w hSw; (try dsimp only at hSw); go_simp; all_goals with_reducible rfl)); (try simp only [nSO]))
  (refine np_n ?_ ?_ ?_; rotate_left 1; (· (intro w hSw; (try dsimp only at hSw); go_simp; all_goals with_reducible rfl)); (try simp only [nSO]))
  (refine np_step (i := 1) rfl (by kernel_rfl) (fun K hK => ?_); rw [if_pos (by rfl)]; go_simp; ((go_at_call 52; refine (number_any b M _ hMd).mono ?_; rintro e w3 ⟨rfl, rfl⟩)); (try go_wp2_with fail); refine hK.out _ _ ?_ (fun hHeld => ?_); (· (first | exact c0 | exact cd)); clear hK K; (try simp only [nSO]))
  (refine np_t 4 ?_ ?_ ?_; rotate_left 1; (· (intro w hSw; (try dsimp only at hSw); go_simp; all_goals with_reducible rfl)); (try simp only [nSO]))
  refine wpAnyH_done (by kernel_rfl) ?_ _
  refine NoPanic.normal ?_
  go_wp2_with fail
  go_end0
  refine ⟨rfl, ⟨_, hbx, ?_⟩, FrT.below (Below.refl _ _).drew (by omega)⟩
  rw [Hsn.out]
  exact own_below hown (Below.refl _ _).drew
theorem each_texts (m n B : Nat) (hm : m ≤ B) (hB : B < n) : EachC m n 89 #[.pointer (some ⟨B, 0, none⟩)] (TxInv B) where
 ent := enters_of Tryz.func89 (by kernel_rfl) rfl
 keep := fun l W W' ⟨v, h1, h2⟩ hf => ⟨v, (hf.bl.block B hB).trans h1, hf.own h2 (by decide)⟩
 call := fun W b M K l hn h hM hok hl => texts1_any m n B hm hB W b M K l hn h hM hok hl
def TxtPost (w : World) (c : CfgV) (cs : List CallV) (e : Ending) (w' : World) : Prop :=
 ((perfC c cs).2 ≠ 0 ∧ e = .returned (.tuple #[.slice none 0 0, .int .i64 (perfC c cs).2]) ∧ Below w.heap.size w w') ∨
 ((perfC c cs).2 = 0 ∧ ∃ v, e = .returned (.tuple #[v, .int .i64 0]) ∧ w'.ownsRow w.heap.size tStr 1 v (textsC c cs).length ((textsC c cs).map Value.string) ∧ Below w.heap.size w w')
theorem texts_any (c : CfgV) (p : Option Addr) (cap : Nat) (cs : List CallV) (w : World) (hC : CRow w p cap cs) (hs : cs.length ≤ 1000) (hok : ∀ x ∈ cs, x.Ok) (hd : ∀ x ∈ cs, x.ps.length ≤ 1000000) :
  Calls Tryz.prog 42 #[c.v, .slice p cs.length cap] w (TxtPost w c cs) := by
 have hB1 : Below w.heap.size w ((w.alloc (.cells #[.int .i64 c.slots, .int .u64 c.gens, .int .i64 c.clients, .int .i64 c.readers, .int .i64 c.queue, .int .i64 c.batch, .int .i64 c.feed, .string c.text] 24)).alloc (.cells #[.slice none 0 0] tStrs)) := below2 _ _ _
 have hbx : TxInv (w.heap.size + 1) [] ((w.alloc (.cells #[.int .i64 c.slots, .int .u64 c.gens, .int .i64 c.clients, .int .i64 c.readers, .int .i64 c.queue, .int .i64 c.batch, .int .i64 c.feed, .string c.text] 24)).alloc (.cells #[.slice none 0 0] tStrs)) := by
  have := heap_alloc_new (w.alloc (.cells #[.int .i64 c.slots, .int .u64 c.gens, .int .i64 c.clients, .int .i64 c.readers, .int .i64 c.queue, .int .i64 c.batch, .int .i64 c.feed, .string c.text] 24)) (.cells #[.slice none 0 0] tStrs)
  rw [World.size_alloc] at this
  exact ⟨_, this, World.ownsRow_nil _ _ _ _⟩
 have hpf := perform_any w.heap.size c p cap cs 89 #[.pointer (some ⟨w.heap.size + 1, 0, none⟩)] (TxInv (w.heap.size + 1)) _ hB1.size (fun W hb => hC.on (hB1.trans hb)) (each_texts _ _ _ (by omega) (by simp)) hbx hs hok (ps_big hd)
 have hfin : ∀ e w', PerfPost w.heap.size ((w.alloc (.cells #[.int .i64 c.slots, .int .u64 c.gens, .int .i64 c.clients, .int .i64 c.readers, .int .i64 c.queue, .int .i64 c.batch, .int .i64 c.feed, .string c.text] 24)).alloc (.cells #[.slice none 0 0] tStrs)) c cs (TxInv (w.heap.size + 1)) e w' →
   ∃ v, e = .returned (.tuple #[v, .int .i64 (perfC c cs).1, .int .i64 (perfC c cs).2]) ∧ Below w.heap.size w w' ∧ ((perfC c cs).2 = 0 → ∃ u, w'.heap[w.heap.size + 1]? = some (.cells #[u] tStrs (0, 0)) ∧ w'.ownsRow (w.heap.size + 2) tStr 1 u (textsC c cs).length ((textsC c cs).map Value.string)) := by
  rintro e w' (⟨h1, rfl, _, hb⟩ | ⟨h1, h2, rfl, _, hb⟩ | ⟨h1, h2, E, b, M, v, hE, rfl, hI, hb, hM, hok, h3⟩)
  ·exact ⟨_, by unfold perfC; rw [perf_cfg h1], hB1.trans hb, fun h => by unfold perfC at h; rw [perf_cfg h1] at h; exact absurd h h1⟩
  ·exact ⟨_, by unfold perfC; rw [perf_chk h1 h2], hB1.trans hb, fun h => by unfold perfC at h; rw [perf_chk h1 h2] at h; exact absurd h h2⟩
  ·refine ⟨_, by unfold perfC; rw [effC_of hE], hB1.trans hb, fun h => ?_⟩
   obtain ⟨u, h4, h5⟩ := hI
   rw [List.map_map] at h5
   have e1 : ((fun x : Nat × MS => x.2) ∘ fun s : MS => (b, s)) = id := rfl
   rw [e1, List.map_id] at h5
   refine ⟨u, h4, ?_⟩
   unfold textsC ordC
   rw [effC_of hE]
   exact h5
 have hpf2 := hpf.mono hfin
 clear hpf hfin hbx
 have HP : TxtPost w c cs = fun e w' => ((perfC c cs).2 ≠ 0 ∧ e = .returned (.tuple #[.slice none 0 0, .int .i64 (perfC c cs).2]) ∧ Below w.heap.size w w') ∨
  ((perfC c cs).2 = 0 ∧ ∃ v, e = .returned (.tuple #[v, .int .i64 0]) ∧ w'.ownsRow w.heap.size tStr 1 v (textsC c cs).length ((textsC c cs).map Value.string) ∧ Below w.heap.size w w') := rfl
 rw [HP]
 clear HP
 generalize (perfC c cs).1 = x1 at *
 generalize (perfC c cs).2 = x2 at *
 generalize textsC c cs = X at *
 unfold CfgV.v at *
 by_cases hx : x2 = 0
 ·subst hx
  go_enter Tryz.func42, Tryz.ntmps42
  go_wp2_with (go_at_call 81; refine hpf2.mono ?_; rintro e w1 ⟨v, rfl, hb1, hq⟩; obtain ⟨u, h4, h5⟩ := hq rfl; have c4 : w1.cell? ⟨w.heap.size + 1, 0, none⟩ = some u := blk_cell (L := [u]) h4 0; clear hq)
  go_returns
  exact .inr ⟨by first | rfl | trivial, u, rfl, own_mono (by omega) h5, hb1⟩
 ·have d1 : (x2 != 0) = true := by simpa using hx
  go_enter Tryz.func42, Tryz.ntmps42
  go_wp2_with (go_at_call 81; refine hpf2.mono ?_; rintro e w1 ⟨v, rfl, hb1, hq⟩)
  go_returns
  exact .inl ⟨hx, rfl, hb1⟩
end Go.Proofs.YtdeiocppghhfdaaGreat.Lin
namespace Go.Proofs.YtdeiocppghhfdaaGreat.Lin
open Go.RowKit Go.Lib Go.Shelf
open Hs
open KitI (iv IRow own_below infoI)
attribute [local go_sem, local simp] Hs.callL_0 Hs.callL_1 Hs.callL_2 Hs.callL_3 Hs.callL_4 Hs.callL_5 Hs.callL_6 Hs.callL_7 Hs.callL_8 Hs.callL_9 Hs.callL_10 Hs.callL_11 Hs.callL_12 Hs.callL_13 Hs.callL_14 Hs.callL_15 Hs.callL_16 Hs.callL_17 Hs.callL_18 Hs.callL_19 Hs.callL_20 Hs.callL_21 Hs.callL_22 Hs.callL_23 Hs.callL_24 Hs.callL_25 Hs.callL_26 Hs.resL_0 Hs.resL_1 Hs.resL_2 Hs.resL_3 Hs.resL_4 Hs.resL_5 Hs.resL_6 Hs.resL_7 Hs.resL_8 Hs.resL_9 Hs.resL_10 Hs.resL_11 Hs.resL_12 Hs.callG_0 Hs.callG_1 Hs.callG_2 Hs.callG_3 Hs.callG_4 Hs.callG_5 Hs.callG_6 Hs.callG_7 Hs.callG_8 Hs.callG_9 Hs.callG_10 Hs.callG_11 Hs.callG_12 Hs.callG_13 Hs.callG_14 Hs.callG_15 Hs.callG_16 Hs.callG_17 Hs.callG_18 Hs.callG_19 Hs.callG_20 Hs.callG_21 Hs.callG_22 Hs.callG_23 Hs.callG_24 Hs.callG_25 Hs.callG_26 Hs.resG_0 Hs.resG_1 Hs.resG_2 Hs.resG_3 Hs.resG_4 Hs.resG_5 Hs.resG_6 Hs.resG_7 Hs.resG_8 Hs.resG_9 Hs.resG_10 Hs.resG_11 Hs.resG_12 Hs.callL_len Hs.resL_len
attribute [local go_sem ↓] Hs.loadCall_eq Hs.loadRes_eq
attribute [local go_sem] Hs.ld_new Hs.ld_first Hs.ld_second Hs.ldr_new Hs.st_new
theorem edits_any (k : Int) (w : World) : Calls Tryz.prog 133 #[.int .u8 k] w fun e w' => e = .returned (.bool (edK k)) ∧ w = w' := by
 unfold edK
 by_cases h1 : 1 ≤ k
 ·have d1 : decide (1 ≤ k) = true := by simpa using h1
  go_enter Tryz.func133, Tryz.ntmps133
  go_wp2
  go_returns
  exact ⟨by first | rfl | (rw [d1]; rfl) | simp [d1], rfl⟩
 ·have d1 : decide (1 ≤ k) = false := by simpa using h1
  go_enter Tryz.func133, Tryz.ntmps133
  go_wp2
  go_returns
  exact ⟨by first | rfl | (rw [d1]; rfl) | simp [d1], rfl⟩
def numQ (s : Int) (c : CallV) : Bool := edK c.okind && decide (0 ≤ c.took) && decide (c.took ≤ s) && decide (c.err = 0)
def numP (s : Int) (cs : List CallV) : Nat := (cs.filter (numQ s)).length
theorem num_step {s : Int} {cs : List CallV} {k : Nat} {c : CallV} (h : cs[k]? = some c) : numP s (cs.take (k + 1)) = numP s (cs.take k) + if numQ s c then 1 else 0 := by
 unfold numP
 rw [List.take_add_one, h, Option.toList_some, List.filter_append, List.length_append]
 congr 1
 cases hq : numQ s c <;> simp [hq]
theorem num_le (s : Int) (cs : List CallV) : numP s cs ≤ cs.length := List.length_filter_le _ _
theorem number_p (s : Int) (p : Option Addr) (cap : Nat) (cs : List CallV) (w : World) (hC : CRow w p cap cs) (hs : cs.length ≤ 1000000) :
  Calls Tryz.prog 109 #[.int .i64 s, .slice p cs.length cap] w fun e w' => e = .returned (.int .i64 (numP s cs)) ∧ Below w.heap.size w w' := by
 go_enter Tryz.func109, Tryz.ntmps109
 go_wp2
 go_loopw [5, 7, 10] (fun n x7 i wr => ∃ k : Nat, n = .int .i64 (numP s (cs.take k)) ∧ i = .int .i64 k ∧ k ≤ cs.length ∧ Below w.heap.size w wr) (fun n x7 i wr => cs.length - (intOf i).toNat)
 case atStart => exact ⟨0, by simp [numP], rfl, by omega, Below.refl _ _⟩
 case round =>
  obtain ⟨k, rfl, rfl, hk, hB⟩ := hrel
  by_cases hlt : k < cs.length
  ·obtain ⟨c, hc⟩ : ∃ c, cs[k]? = some c := ⟨_, List.getElem?_eq_getElem hlt⟩
   obtain ⟨bq, off, rfl, hcap, hbq, hA⟩ := crow_at (hC.on hB) (by omega)
   have hld := hA.load hc
   have hst := num_step (s := s) hc
   have hnl := num_le s (cs.take k)
   rw [List.length_take] at hnl
   have hqd : numQ s c = (edK c.okind && decide (0 ≤ c.took) && decide (c.took ≤ s) && decide (c.err = 0)) := rfl
   have hBa := hB.alloc hB.size (.cells (callL c).toArray 56)
   have Hst := Lib.hid hst
   clear hst hc hA hC
   have hed := fun W => edits_any c.okind W
   generalize edK c.okind = ek at hed hqd
   cases ek with
   | false =>
    have hq : numQ s c = false := by rw [hqd]; rfl
    have hst2 : numP s (cs.take (k + 1)) = numP s (cs.take k) := by rw [Hst.out, hq]; rfl
    have Hst2 := Lib.hid hst2
    clear hst2 hq
    go_wp2_with (go_at_call 133; refine (hed _).mono ?_; rintro e v ⟨rfl, rfl⟩)
    go_roundw
    case rel => exact ⟨k + 1, by rw [Hst2.out], by go_num, by omega, hBa⟩
    case measure => simp [intOf]; omega
   | true =>
    by_cases h1 : 0 ≤ c.took
    ·have d1 : decide (0 ≤ c.took) = true := by simpa using h1
     by_cases h2 : c.took ≤ s
     ·have d2 : decide (c.took ≤ s) = true := by simpa using h2
      by_cases h3 : c.err = 0
      ·have d3 : (c.err == 0) = true := by simpa using h3
       have hq : numQ s c = true := by rw [hqd, d1, d2]; simp [h3]
       have hst2 : numP s (cs.take (k + 1)) = numP s (cs.take k) + 1 := by rw [Hst.out, hq]; rfl
       have Hst2 := Lib.hid hst2
       clear hst2 hq hqd h1 h2 h3
       have hw : IntKind.i64.wrap ((numP s (cs.take k) : Int) + 1) = (numP s (cs.take k) : Int) + 1 := IntWalk.i64_in _ (by omega)
       go_wp2_with (go_at_call 133; refine (hed _).mono ?_; rintro e v ⟨rfl, rfl⟩)
       go_roundw
       case rel => exact ⟨k + 1, by rw [Hst2.out]; push_cast; rfl, by go_num, by omega, hBa⟩
       case measure => simp [intOf]; omega
      ·have d3 : (c.err == 0) = false := by simpa using h3
       have hq : numQ s c = false := by rw [hqd, d1, d2]; simp [h3]
       clear hqd h1 h2 h3
       have hst2 : numP s (cs.take (k + 1)) = numP s (cs.take k) := by rw [Hst.out, hq]; rfl
       have Hst2 := Lib.hid hst2
       clear hst2 hq
       go_wp2_with (go_at_call 133; refine (hed _).mono ?_; rintro e v ⟨rfl, rfl⟩)
       go_roundw
       case rel => exact ⟨k + 1, by rw [Hst2.out], by go_num, by omega, hBa⟩
       case measure => simp [intOf]; omega
     ·have d2 : decide (c.took ≤ s) = false := by simpa using h2
      have hq : numQ s c = false := by rw [hqd, d1, d2]; rfl
      clear hqd h1 h2
      have hst2 : numP s (cs.take (k + 1)) = numP s (cs.take k) := by rw [Hst.out, hq]; rfl
      have Hst2 := Lib.hid hst2
      clear hst2 hq
      go_wp2_with (go_at_call 133; refine (hed _).mono ?_; rintro e v ⟨rfl, rfl⟩)
      go_roundw
      case rel => exact ⟨k + 1, by rw [Hst2.out], by go_num, by omega, hBa⟩
      case measure => simp [intOf]; omega
    ·have d1 : decide (0 ≤ c.took) = false := by simpa using h1
     have hq : numQ s c = false := by rw [hqd, d1]; rfl
     clear hqd h1
     have hst2 : numP s (cs.take (k + 1)) = numP s (cs.take k) := by rw [Hst.out, hq]; rfl
     have Hst2 := Lib.hid hst2
     clear hst2 hq
     go_wp2_with (go_at_call 133; refine (hed _).mono ?_; rintro e v ⟨rfl, rfl⟩)
     go_roundw
     case rel => exact ⟨k + 1, by rw [Hst2.out], by go_num, by omega, hBa⟩
     case measure => simp [intOf]; omega
  ·have hke : k = cs.length := by omega
   subst hke
   rw [List.take_length]
   go_wp2
   go_returns
   exact ⟨rfl, hB⟩
end Go.Proofs.YtdeiocppghhfdaaGreat.Lin
namespace Go.Proofs.YtdeiocppghhfdaaGreat.Lin
open Go.RowKit Go.Shelf
open Hs
attribute [local go_sem] Oper.semAt_some
attribute [local go_sem, local simp] callL_0 callL_1 callL_2 callL_3 callL_4 callL_5 callL_6 callL_7 callL_8 callL_9 callL_10 callL_11 callL_12 callL_13 callL_14 callL_15 callL_16 callL_17 callL_18 callL_19 callL_20 callL_21 callL_22 callL_23 callL_24 callL_25 callL_26 resL_0 resL_1 resL_2 resL_3 resL_4 resL_5 resL_6 resL_7 resL_8 resL_9 resL_10 resL_11 resL_12 callG_0 callG_1 callG_2 callG_3 callG_4 callG_5 callG_6 callG_7 callG_8 callG_9 callG_10 callG_11 callG_12 callG_13 callG_14 callG_15 callG_16 callG_17 callG_18 callG_19 callG_20 callG_21 callG_22 callG_23 callG_24 callG_25 callG_26 resG_0 resG_1 resG_2 resG_3 resG_4 resG_5 resG_6 resG_7 resG_8 resG_9 resG_10 resG_11 resG_12 callL_len resL_len
attribute [local go_sem ↓] loadCall_eq loadRes_eq
attribute [local go_sem] ld_new ld_first ld_second ldr_new st_new
def tkIdx (t : Int) : List CallV → Nat → List Nat
 | [], _ => []
 | c :: cs, k => if c.thread = t ∧ 0 ≤ c.took then k :: tkIdx t cs (k + 1) else tkIdx t cs (k + 1)
theorem tkIdx_step {t : Int} {cs : List CallV} {k : Nat} {c : CallV} (h : cs[k]? = some c) : tkIdx t (cs.drop k) k = if c.thread = t ∧ 0 ≤ c.took then k :: tkIdx t (cs.drop (k + 1)) (k + 1) else tkIdx t (cs.drop (k + 1)) (k + 1) := by
 obtain ⟨hlt, rfl⟩ := List.getElem?_eq_some_iff.1 h
 rw [List.drop_eq_getElem_cons hlt]
 rfl
theorem wof_any (p : Option Addr) (n c : Nat) (t : Int) (w : World) : Calls Tryz.prog 107 #[.int .i64 t, .slice p n c] w fun e w' => e = .returned (.func (.func 158) #[] #[.pointer (some ⟨w.heap.size + 1, 0, none⟩), .pointer (some ⟨w.heap.size, 0, none⟩)]) ∧ (w.alloc (.cells #[.int .i64 t] 3)).alloc (.cells #[.slice p n c] 25) = w' := by
 go_enter Tryz.func107, Tryz.ntmps107
 go_wp2
 go_ret
 exact ⟨rfl, rfl⟩
theorem wof1_in (n : Nat) (hn : 1 ≤ n) (l Bl Bt b off cap : Nat) (q : Nat → Prop) (cs : List CallV) (t : Int) (hs : cs.length ≤ 1000000) (J Jx : List Nat → World → Prop)
  (hY : ∀ pre x W, J pre W → pre.length < cs.length → x < cs.length → YieldAt Fence.wide (n - 1) Tryz.prog l #[.int .i64 (x : Int)] W fun e W' =>
   (e = .returned (.bool true) ∧ J (pre ++ [x]) W' ∧ KeepB q W W') ∨ (e = .returned (.bool false) ∧ Jx (pre ++ [x]) W'))
  (W : World) (hA : ∀ pre X o, J pre X → J pre (X.alloc o)) (hBl : W.cell? ⟨Bl, 0, none⟩ = some (.slice (some ⟨b, off, none⟩) cs.length cap)) (hBt : W.cell? ⟨Bt, 0, none⟩ = some (.int .i64 t)) (hC : CAt W b off cs) (h0 : ∀ k, q k → k < W.heap.size) (h2 : q Bt) (h3 : q b) (hJ : J [] W) :
  CallsIn Fence.wide n Tryz.prog 158 #[.func (.yield l) #[] #[], .pointer (some ⟨Bl, 0, none⟩), .pointer (some ⟨Bt, 0, none⟩)] W (Hs.IterPost (tkIdx t cs 0) J Jx) := by
 refine callsIn_of_wp Tryz.func158 rfl trivial ?_ rfl
 simp only [Tryz.ntmps158, List.size_toArray, List.length_cons, List.length_nil, Nat.reduceAdd, Nat.reduceSub, Array.replicate_succ, Array.replicate_zero, List.push_toArray, List.append_toArray, List.nil_append, List.cons_append]
 gi_wp2
 gi_loopw [8] (fun i wr => ∃ (k : Nat) (pre : List Nat), i = .int .i64 k ∧ k ≤ cs.length ∧ pre ++ tkIdx t (cs.drop k) k = tkIdx t cs 0 ∧ pre.length ≤ k ∧ J pre wr ∧ KeepB q W wr) (fun i wr => cs.length - (intOf i).toNat)
 case atStart => exact ⟨0, [], rfl, by omega, by simp, by simp, hJ, KeepB.refl _ _⟩
 case round =>
  obtain ⟨k, pre, rfl, hk, hp, hlen, hJ', hB⟩ := hrel
  have Hp := Lib.hid hp; clear hp
  by_cases hlt : k < cs.length
  ·obtain ⟨c, hc⟩ : ∃ c, cs[k]? = some c := ⟨_, List.getElem?_eq_getElem hlt⟩
   have hst := tkIdx_step (t := t) hc
   have Hst := Lib.hid hst; clear hst
   have hld := (hC.keep hB h3).load hc
   have hBx := hB.trans (KeepB.alloc (fun k hk => Nat.lt_of_lt_of_le (h0 k hk) hB.size) (.cells (callL c).toArray 56))
   have hct := (hBx.cell (p := ⟨Bt, 0, none⟩) h2).trans hBt
   have hJa := hA pre wr (.cells (callL c).toArray 56) hJ'
   have Hc := Lib.hid hc; clear hc
   by_cases hb : c.thread = t ∧ 0 ≤ c.took
   ·obtain ⟨fn, tmps, assign, body, hy, hR⟩ := hY pre k _ hJa (by omega) hlt
    have hd : (c.thread == t) = true := by simpa using hb.1
    have hd2 : decide (0 ≤ c.took) = true := by simpa using hb.2
    gi_wp2
    refine hR.mono ?_
    rintro e W1 (⟨rfl, hJ1, hk1⟩ | ⟨rfl, hJ1⟩)
    ·gi_wp2
     go_roundw
     case rel => exact ⟨k + 1, pre ++ [k], by go_num, by omega, by rw [← Hp.out, Hst.out, if_pos hb, List.append_assoc]; rfl, by simp; omega, hJ1, hBx.trans hk1⟩
     case measure => simp [intOf]; omega
    ·gi_wp2
     refine bodyPost_ret (results_none rfl _ _ _) rfl ?_
     exact ⟨⟨_, rfl⟩, .inr ⟨pre ++ [k], ⟨tkIdx t (cs.drop (k + 1)) (k + 1), by rw [← Hp.out, Hst.out, if_pos hb, List.append_assoc]; rfl⟩, hJ1⟩⟩
   ·by_cases hb1 : c.thread = t
    ·have hd : (c.thread == t) = true := by simpa using hb1
     have hd2 : decide (0 ≤ c.took) = false := by
      have : ¬ 0 ≤ c.took := fun h => hb ⟨hb1, h⟩
      simpa using this
     gi_wp2
     refine ⟨fun _ h => (by cases h), ?_⟩
     gi_wp2
     go_roundw
     case rel => exact ⟨k + 1, pre, by go_num, by omega, by rw [← Hp.out, Hst.out, if_neg hb], by omega, hJa, hBx⟩
     case measure => simp [intOf]; omega
    ·have hd : (c.thread == t) = false := by simpa using hb1
     gi_wp2
     refine ⟨fun _ h => (by cases h), ?_⟩
     gi_wp2
     go_roundw
     case rel => exact ⟨k + 1, pre, by go_num, by omega, by rw [← Hp.out, Hst.out, if_neg hb], by omega, hJa, hBx⟩
     case measure => simp [intOf]; omega
  ·gi_wp2
   go_end0
   refine ⟨⟨_, rfl⟩, .inl ⟨_, rfl, ?_⟩⟩
   have hkk : k = cs.length := by omega
   rw [← Hp.out, hkk]
   simpa [tkIdx] using hJ'
theorem wof1_nil (n : Nat) (l Bl Bt : Nat) (t : Int) (c : Nat) (J Jx : List Nat → World → Prop)
  (W : World) (hBl : W.cell? ⟨Bl, 0, none⟩ = some (.slice none 0 c)) (hJ : J [] W) :
  CallsIn Fence.wide n Tryz.prog 158 #[.func (.yield l) #[] #[], .pointer (some ⟨Bl, 0, none⟩), .pointer (some ⟨Bt, 0, none⟩)] W (Hs.IterPost (tkIdx t [] 0) J Jx) := by
 refine callsIn_of_wp Tryz.func158 rfl trivial ?_ rfl
 simp only [Tryz.ntmps158, List.size_toArray, List.length_cons, List.length_nil, Nat.reduceAdd, Nat.reduceSub, Array.replicate_succ, Array.replicate_zero, List.push_toArray, List.append_toArray, List.nil_append, List.cons_append]
 gi_wp2
 refine wpIn_loop_once ?_
 gi_wp2
 go_end0
 exact ⟨⟨_, rfl⟩, .inl ⟨_, rfl, hJ⟩⟩
theorem wof_stops (n : Nat) (hn : 1 ≤ n) (Bl Bt cap : Nat) (q : Nat → Prop) (p : Option Addr) (cs : List CallV) (t : Int) (hs : cs.length ≤ 1000000) (w : World) (hBl : w.cell? ⟨Bl, 0, none⟩ = some (.slice p cs.length cap)) (hBt : w.cell? ⟨Bt, 0, none⟩ = some (.int .i64 t))
  (hC : CRow w p cap cs) (h0 : ∀ k, q k → k < w.heap.size) (h1 : Bl < w.heap.size) (h2 : q Bt) (h3 : ∀ b off, p = some ⟨b, off, none⟩ → q b) :
  SeqStopsK Fence.wide n Tryz.prog 158 #[.pointer (some ⟨Bl, 0, none⟩), .pointer (some ⟨Bt, 0, none⟩)] (fun x : InC cs.length => #[Value.int .i64 (x.1 : Int)]) (KeepB q) (fun ys => ys.map (·.1) = tkIdx t cs 0) (fun ys => ys.map (·.1) <+: tkIdx t cs 0) cs.length w := by
 intro l J Jx W hW hAJ hAJx hY hJ
 have hbl := (hW.cell (p := ⟨Bl, 0, none⟩) h1).trans hBl
 have hbt := (hW.cell (p := ⟨Bt, 0, none⟩) (h0 _ h2)).trans hBt
 have key : CallsIn Fence.wide n Tryz.prog 158 #[.func (.yield l) #[] #[], .pointer (some ⟨Bl, 0, none⟩), .pointer (some ⟨Bt, 0, none⟩)] W (Hs.IterPost (tkIdx t cs 0) (fun xs W => ∃ ys : List (InC cs.length), ys.map (·.1) = xs ∧ J ys W) (fun xs W => ∃ ys : List (InC cs.length), ys.map (·.1) = xs ∧ Jx ys W)) := by
  rcases hC with ⟨rfl, rfl, rfl⟩ | ⟨b, off, rfl, hcap, hb, hcat⟩
  ·exact wof1_nil n l Bl Bt t 0 _ _ W hbl ⟨[], rfl, hJ⟩
  ·refine wof1_in n hn l Bl Bt b off cap q cs t hs _ _ ?_ W ?_ hbl hbt (hcat.below hW hb) (fun k hk => Nat.lt_of_lt_of_le (h0 k hk) hW.size) h2 (h3 b off rfl) ⟨[], rfl, hJ⟩
   ·rintro pre x W ⟨ys, rfl, hj⟩ hlen hx
    refine (hY ys ⟨x, hx⟩ W hj (by simpa using hlen)).mono ?_
    rintro e W' (⟨rfl, hj', hk⟩ | ⟨rfl, hj'⟩)
    ·exact .inl ⟨rfl, ⟨_, by simp, hj'⟩, hk⟩
    ·exact .inr ⟨rfl, ⟨_, by simp, hj'⟩⟩
   ·rintro pre X o ⟨ys, rfl, hj⟩
    exact ⟨ys, rfl, hAJ ys X _ none hj (World.grownBy_alloc X o none) (fun r e => by cases e)⟩
 refine key.mono ?_
 rintro e W' ⟨hv, ⟨_, rfl, ys, hy, hj⟩ | ⟨_, hp, ys, rfl, hj⟩⟩
 ·exact ⟨hv, .inl ⟨ys, hy, hj⟩⟩
 ·exact ⟨hv, .inr ⟨ys, hp, hj⟩⟩
theorem wwof_stopsN (N : Nat) (n : Nat) (hn : 1 ≤ n) (Bl Bt cap : Nat) (q : Nat → Prop) (p : Option Addr) (cs : List CallV) (hN : cs.length = N) (t : Int) (hs : N ≤ 1000000) (w : World) (hBl : w.cell? ⟨Bl, 0, none⟩ = some (.slice p N cap)) (hBt : w.cell? ⟨Bt, 0, none⟩ = some (.int .i64 t))
  (hC : CRow w p cap cs) (h0 : ∀ k, q k → k < w.heap.size) (h1 : Bl < w.heap.size) (h2 : q Bt) (h3 : ∀ b off, p = some ⟨b, off, none⟩ → q b) :
  SeqStopsK Fence.wide n Tryz.prog 158 #[.pointer (some ⟨Bl, 0, none⟩), .pointer (some ⟨Bt, 0, none⟩)] (fun x : InC N => #[Value.int .i64 (x.1 : Int)]) (KeepB q) (fun ys => ys.map (·.1) = tkIdx t cs 0) (fun ys => ys.map (·.1) <+: tkIdx t cs 0) N w := by
 subst hN
 exact wof_stops n hn Bl Bt cap q p cs t hs w hBl hBt hC h0 h1 h2 h3
end Go.Proofs.YtdeiocppghhfdaaGreat.Lin
