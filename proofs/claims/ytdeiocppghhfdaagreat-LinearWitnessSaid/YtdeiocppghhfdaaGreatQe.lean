/- Texts, one behind another: LaP LaO Baz LaB. -/
import Derived.Test.YtdeiocppghhfdaaGreatQb
import Derived.Test.YtdeiocppghhfdaaGreatQd
import Derived.Test.YtdeiocppghhfdaaGreatPhg
import Derived.Test.YtdeiocppghhfdaaGreatRows
import Derived.Test.YtdeiocppghhfdaaGreatPua
import Derived.Test.YtdeiocppghhfdaaGreatPul
import Derived.Below
import Derived.ChangeSame
import Derived.WalkKit
import Derived.ProofKit
import Derived.OpenShut
import Derived.ShutString
import Derived.SizedLaws
namespace Go.Proofs.YtdeiocppghhfdaaGreat.Lin
set_option linter.unusedVariables false
set_option linter.unusedSimpArgs false
open Go.RowKit Go.Lib Go.Shelf
open Hs

theorem lessL_irrefl : ∀ a : List Nat, lessL a a = false
  | [] => rfl
  | a :: r => by show (if a = a then lessL r r else _) = false; rw [if_pos rfl]; exact lessL_irrefl r
theorem lessL_asymm : ∀ a b : List Nat, lessL a b = true → lessL b a = false
  | _, [], h => by simp [lessL] at h
  | [], b :: q, _ => rfl
  | a :: r, b :: q, h => by
    have h1 : (if a = b then lessL r q else decide (a < b)) = true := h
    show (if b = a then lessL q r else decide (b < a)) = false
    by_cases he : a = b
    · rw [if_pos he] at h1; rw [if_pos he.symm]; exact lessL_asymm r q h1
    · rw [if_neg he] at h1; rw [if_neg (fun e => he e.symm)]; simp at h1 ⊢; omega
theorem SS_chain {L : List CallV} {st : MS} {a : List Nat} (h : SS L st 0 = some a) : chainC L st 0 a = true := S_chain L.length (by unfold fr; exact Nat.le_trans (List.length_filter_le _ _) (by simp)) h
theorem CC_chain {L : List CallV} {st : MS} (h : 1 ≤ CC L st 0) : ∃ a, chainC L st 0 a = true := C_chain L.length (by unfold fr; exact Nat.le_trans (List.length_filter_le _ _) (by simp)) h
theorem chain_SS {L : List CallV} {st : MS} {r : List Nat} (h : chainC L st 0 r = true) : ∃ a, SS L st 0 = some a ∧ (a = r ∨ lessL a r = true) := chain_S r h
theorem cnt_iff {L : List CallV} {st : MS} : 1 ≤ CC L st 0 ↔ (SS L st 0).isSome = true := by
  constructor
  · intro h
    obtain ⟨a, ha⟩ := CC_chain h
    obtain ⟨b, hb, _⟩ := chain_SS ha
    rw [hb]; rfl
  · intro h
    cases hS : SS L st 0 with
    | none => rw [hS] at h; cases h
    | some a => exact chain_C a (SS_chain hS)
theorem find_err (c : CfgV) (L : List CallV) : (findP c L).2.2 = startE c L := by
  unfold findP
  split
  · rfl
  · rename_i h
    have : startE c L = 0 := by simpa using h
    rw [this]; cases SS L (newS c) 0 <;> rfl
theorem count_err (c : CfgV) (L : List CallV) {m : Int} (h1 : 1 ≤ m) (h2 : m ≤ 1000000) : (countP c m L).2 = startE c L := by
  unfold countP
  split
  · rfl
  · rename_i h
    have h3 : startE c L = 0 := by simpa using h
    rw [if_neg (by omega), h3]
theorem find_no {c : CfgV} {L : List CallV} (h : startE c L ≠ 0) : findP c L = ([], false, startE c L) := by unfold findP; rw [if_pos h]
theorem find_none {c : CfgV} {L : List CallV} (h0 : startE c L = 0) (h : SS L (newS c) 0 = none) : findP c L = ([], false, 0) := by unfold findP; rw [if_neg (by rw [h0]; simp), h]
theorem find_some {c : CfgV} {L : List CallV} {a : List Nat} (h0 : startE c L = 0) (h : SS L (newS c) 0 = some a) : findP c L = (a, true, 0) := by unfold findP; rw [if_neg (by rw [h0]; simp), h]
theorem count_no {c : CfgV} {L : List CallV} (h : startE c L ≠ 0) (m : Int) : countP c m L = (0, startE c L) := by unfold countP; rw [if_pos h]
theorem count_ok {c : CfgV} {L : List CallV} {m : Int} (h0 : startE c L = 0) (h1 : 1 ≤ m) (h2 : m ≤ 1000000) : countP c m L = (min (CC L (newS c) 0 : Int) m, 0) := by unfold countP; rw [if_neg (by rw [h0]; simp), if_neg (by omega)]
theorem valid_no {c : CfgV} {L : List CallV} (h : startE c L ≠ 0) (o : List Int) : validE c o L = startE c L := by unfold validE; rw [if_pos h]
theorem chain_len {α : Type} {n : Nat} {next : α → Nat → Option α} {rdy : Nat → Nat → Bool} {fl : Nat → Bool} : ∀ (o : List Nat) {s : α} {u : Nat}, chain n next rdy fl s u o = true → o.length ≤ fr n u
  | [], _, _, _ => Nat.zero_le _
  | i :: r, s, u, h => by
    unfold chain at h
    simp only [Bool.and_eq_true, decide_eq_true_eq] at h
    obtain ⟨⟨hi, hc⟩, h⟩ := h
    cases hn : next s i with
    | none => rw [hn] at h; cases h
    | some t =>
      rw [hn] at h
      have h1 := chain_len r h
      have h2 := fr_or hi (cand_bit hc)
      rw [List.length_cons]; omega
theorem find_len (c : CfgV) (L : List CallV) : (findP c L).1.length ≤ L.length := by
  unfold findP
  split
  · exact Nat.zero_le _
  · cases hS : SS L (newS c) 0 with
    | none => exact Nat.zero_le _
    | some a =>
      have := chain_len a (SS_chain hS)
      have h2 : fr L.length 0 ≤ L.length := by unfold fr; exact Nat.le_trans (List.length_filter_le _ _) (by simp)
      exact Nat.le_trans this h2
def FindsL (c : CfgV) (o : List Int) (L : List CallV) : Prop :=
  (countP c 50 L).2 = (findP c L).2.2 ∧ (0 < (countP c 50 L).1 ↔ (findP c L).2.1 = true) ∧ (countP c 50 L).1 ≤ 50 ∧
  (((findP c L).2.2 ≠ 0 ∨ (findP c L).2.1 = false) → (findP c L).1 = [] ∧ validE c o L ≠ 0) ∧
  ((findP c L).2.2 = 0 → (findP c L).2.1 = true → validE c ((findP c L).1.map fun (n : Nat) => (n : Int)) L = 0 ∧
    (validE c o L = 0 → lessZ o ((findP c L).1.map fun (n : Nat) => (n : Int)) = false ∧ (lessZ ((findP c L).1.map fun (n : Nat) => (n : Int)) o = true → 2 ≤ (countP c 50 L).1)))
theorem finds_law (c : CfgV) (o : List Int) (L : List CallV) : FindsL c o L := by
  unfold FindsL
  rw [count_err c L (by omega) (by omega), find_err]
  by_cases h0 : startE c L = 0
  · rw [count_ok h0 (by omega) (by omega)]
    cases hS : SS L (newS c) 0 with
    | none =>
      rw [find_none h0 hS]
      have hC : ¬ 1 ≤ CC L (newS c) 0 := fun h => by rw [cnt_iff, hS] at h; cases h
      refine ⟨rfl, ⟨fun h => by simp only at h; omega, fun h => by cases h⟩, by simp only; omega, fun _ => ⟨rfl, fun hv => ?_⟩, fun _ h => by cases h⟩
      obtain ⟨r, _, hr⟩ := (valid_chain h0 o).1 hv
      obtain ⟨b, hb, _⟩ := chain_SS hr
      rw [hb] at hS; cases hS
    | some a =>
      rw [find_some h0 hS]
      have hC : 1 ≤ CC L (newS c) 0 := cnt_iff.2 (by rw [hS]; rfl)
      refine ⟨rfl, ⟨fun _ => rfl, fun _ => by simp only; omega⟩, by simp only; omega, fun h => ?_, fun _ _ => ⟨(valid_chain h0 _).2 ⟨a, rfl, SS_chain hS⟩, fun hv => ?_⟩⟩
      · rcases h with h | h
        · exact absurd h0 h
        · cases h
      · obtain ⟨r, rfl, hr⟩ := (valid_chain h0 o).1 hv
        obtain ⟨b, hb, hl⟩ := chain_SS hr
        rw [hS] at hb; cases hb
        dsimp only
        rw [lessZ_cast, lessZ_cast]
        refine ⟨?_, fun hlt => ?_⟩
        · rcases hl with rfl | hl
          · exact lessL_irrefl _
          · exact lessL_asymm _ _ hl
        · have hne : a ≠ r := fun e => by rw [e, lessL_irrefl] at hlt; cases hlt
          have : 2 ≤ CC L (newS c) 0 := two_C a r (SS_chain hS) hr hne
          omega
  · rw [find_no h0, count_no h0]
    refine ⟨rfl, ⟨fun h => by simp at h, fun h => by cases h⟩, by simp, fun _ => ⟨rfl, by rw [valid_no h0]; exact h0⟩, fun h => absurd h h0⟩
end Go.Proofs.YtdeiocppghhfdaaGreat.Lin
namespace Go.Proofs.YtdeiocppghhfdaaGreat.Lin
set_option linter.unusedVariables false
set_option linter.unusedSimpArgs false
open Go.RowKit Go.WideShapes Go.ChangeShapes Go.Deep
open Hs
open KitI (IRow)
set_option maxRecDepth 100000 in
def ArgI (w : World) (p : Option Addr) (l : List Int) : Prop := l = [] ∨ ∃ b off, p = some ⟨b, off, none⟩ ∧ b < w.heap.size ∧ (∀ j u, l[j]? = some u → w.cell? ⟨b, off + j, none⟩ = some (.int .i64 u)) ∧ l.length < 9223372036854775808 ∧ ∀ x ∈ l, -9223372036854775808 ≤ x ∧ x ≤ 9223372036854775807
set_option maxRecDepth 100000 in
theorem ArgI.on {w w' : World} {p : Option Addr} {l : List Int} (h : ArgI w p l) (hb : Below w.heap.size w w') : ArgI w' p l := by
  rcases h with h | ⟨b, off, h1, h2, h3, h4, h5⟩
  · exact .inl h
  · exact .inr ⟨b, off, h1, Nat.lt_of_lt_of_le h2 hb.size, fun j u hj => (hb.cell (p := ⟨b, off + j, none⟩) h2).trans (h3 j u hj), h4, h5⟩
section
variable {H : Type} {enc : TypeId × Value → H} {w : World} {base : Nat} {spare : Nat → Bool} {held : Bool}
set_option maxRecDepth 100000 in
theorem open_ints {b0 : Nat} {v : Value} {d : DataW H} {ps : List MemPlace} (hval : Value.okWide Tryz.prog w .any b0 28 v) (hd : DataW.Trod enc Tryz.prog w base spare held 28 v d ps) : ∃ (p : Option Addr) (cap : Nat) (l : List Int), v = .slice p l.length cap ∧ l.length ≤ cap ∧ ArgI w p l := by
  obtain ⟨fuel, hf⟩ := hd
  obtain ⟨a0, n0, c0, rfl⟩ := okWide_slice Tryz.underlying28 hval
  rcases open_slice Tryz.underlying28 hf with ⟨h1, _⟩ | ⟨a, len, cap, q, n, D, Pl, h1, hb, hlc, hcap, hq, _, hel⟩
  · simp [Value.cells] at h1
    obtain ⟨rfl, rfl, rfl⟩ := h1
    exact ⟨none, 0, [], rfl, Nat.le_refl _, .inl rfl⟩
  · simp [Value.cells] at h1
    obtain ⟨rfl, rfl, rfl⟩ := h1
    have hc1 : Tryz.prog.cellsOf 3 = 1 := by kernel_rfl
    rw [hc1] at hel
    have hlq : n0 ≤ q := by rw [hq]; split <;> omega
    obtain ⟨l, hl, hQ, hcell⟩ := rows_of (w := w) (base := base) (fun z : Int => [Value.int .i64 z]) 1 (fun _ => rfl) a (fun z => -9223372036854775808 ≤ z ∧ z ≤ 9223372036854775807) n0 (fun i hi => by
      obtain ⟨cs', h1, h2⟩ := hel i (by omega)
      obtain ⟨z, rfl, _, hz⟩ := DataW.trod_int Tryz.underlying3 h2
      exact ⟨z, h1, wf64 hz⟩)
    have hfl : ∀ (l : List Int) (j : Nat) (u : Int), l[j]? = some u → (l.flatMap fun z : Int => [Value.int .i64 z])[j]? = some (.int .i64 u) := by
      intro l j u h
      have e : (l.flatMap fun z : Int => [Value.int .i64 z]) = l.map (Value.int .i64) := (List.map_eq_flatMap ..).symm
      rw [e, List.getElem?_map, h]
      rfl
    refine ⟨_, _, l, by rw [hl], by omega, ?_⟩
    by_cases h0 : l = []
    · exact .inl h0
    · right
      obtain ⟨b, off, spot⟩ := a
      have hpos : 0 < l.length := by
        rcases l with _ | ⟨p, l⟩
        · exact absurd rfl h0
        · simp
      have g0 := hcell 0 _ (hfl l 0 _ (List.getElem?_eq_getElem hpos))
      have hspot : spot = none := by simpa [Addr.add] using World.cell?_spot g0
      subst hspot
      have hblk : b < w.heap.size := by
        have := cell_size g0
        simpa [Addr.add] using this
      have hml : maxLen < 9223372036854775808 := by unfold maxLen; omega
      exact ⟨b, off, rfl, hblk, fun j u hj => by have := hcell j _ (hfl l j u hj); rwa [add_plain] at this, by omega, hQ⟩
end
theorem ArgI.take {w : World} {p : Option Addr} {l : List Int} (h : ArgI w p l) (k : Nat) : IRd w p (l.take k) := by
  rcases h with rfl | ⟨b, off, rfl, h2, h3, _⟩
  · exact .inl (by simp)
  · exact .inr ⟨b, off, rfl, fun j u hj => h3 j u (by rw [List.getElem?_take] at hj; split at hj; exact hj; cases hj)⟩
end Go.Proofs.YtdeiocppghhfdaaGreat.Lin
namespace Go.Proofs.YtdeiocppghhfdaaGreat
set_option linter.unusedVariables false
set_option linter.unusedSimpArgs false
open Go.RowKit Go.WideShapes Go.ChangeShapes


section
variable {H : Type} {enc : TypeId × Value → H} {P : Program}
theorem post_of_below {f : Func} {s : ChangeSpec} {apart fresh handsOn again : Bool} {W W' : World} {args : Array Value} {v : Value} {ds gs : List (DataW H)} {before pa pv : List MemPlace}
    (hW : DataW.Whole enc P f.params.toList s.vars apart W args.toList ds gs before)
    (hres : ∀ (b : Nat) (sp : Nat → Bool) (hd : Bool), DataW.TrodAll enc P W' b sp hd f.resultTypes.toList (v.resultList f.resultTypes.size) (s.fn H (ds ++ gs)).results [])
    (hargs : ∀ sp : Nat → Bool, (∀ p ∈ before, sp p.block = true) → DataW.TrodAll enc P W' 0 sp true f.params.toList args.toList (s.fn H (ds ++ gs)).args pa)
    (hvars : ∀ sp : Nat → Bool, (∀ p ∈ before, sp p.block = true) → DataW.TrodVars enc P W' sp s.vars (s.fn H (ds ++ gs)).vars pv)
    (hps : before = pa ++ pv) (hb : Below W.heap.size W W')
    (hok : ∀ (j : Nat) (t : TypeId) (r : Value), f.resultTypes[j]? = some t → (v.resultList f.resultTypes.size)[j]? = some r → Value.okWide P W' .any 0 t r) :
    s.post enc P f apart fresh handsOn again W args v W' := by
  have hlt : ∀ p ∈ before, p.block < W.heap.size := fun p hp => hW.lt p hp
  have hold : ∀ p ∈ before, (fun b => decide (b < W.heap.size)) p.block = true := fun p hp => by simpa using hlt p hp
  refine ⟨ds, gs, before, [], pa, pv, hW, hres _ _ _, hargs _ hold, hvars _ hold, World.keptBut_mono (fun p hp => ⟨hp, ?_⟩) (hb.frame (· ∈ before)), fun _ => ?_⟩
  · rw [hps, List.mem_append] at hp
    exact Or.inr hp
  · obtain ⟨_, _, _, _, _, hz, hn⟩ := hW
    refine ⟨hok, _, _, ([] ++ pa) ++ pv, ⟨[] ++ pa, pv, trodAll_append (hargs _ (fun _ _ => rfl)) (hres _ _ _), hvars _ (fun _ _ => rfl), rfl, ?_, ?_⟩, ?_⟩
    · intro b off hp
      have hin : MemPlace.cell b off ∈ before := by rw [hps]; simpa using hp
      rw [hb.frozen (hlt _ hin)]
      exact hz b off hin
    · intro ha
      have := hn ha
      rw [hps] at this
      simpa using this
    · intro p hp _
      rw [hps]
      simpa using hp
end
end Go.Proofs.YtdeiocppghhfdaaGreat
namespace Go.Proofs.YtdeiocppghhfdaaGreat.Lin
set_option linter.unusedVariables false
set_option linter.unusedSimpArgs false
open Go.RowKit Go.Lib Go.Shelf
open Hs
open KitI (iv IRow)
abbrev tCfg : TypeId := 24
theorem cfg_v (c : CfgV) : c.v = .agg (cfgL c).toArray := rfl
def loadCfg (v : Value) : Sem Value := Instr.loadAt tCfg v
theorem loadCfg_eq (v : Value) : Instr.loadAt 24 v = loadCfg v := rfl
theorem ld_cfg {W : World} {b : Nat} {c : CfgV} (h : W.heap[b]? = some (.cells (cfgL c).toArray tCfg (0, 0))) : (loadCfg (.pointer (some ⟨b, 0, none⟩))).run Tryz.prog W = .ok (.agg (cfgL c).toArray) W :=
  run_loadAt_mid W b 0 tCfg (cfgL c) _ (blk_range h) Tryz.underlying24 rfl (by kernel_rfl)
theorem cfgL_ne (c : CfgV) : cfgL c ≠ [] := by simp [cfgL]
theorem st_cfg {W : World} {g : Nat} {cs : Array Value} (h : W.heap[g]? = some (.cells cs tCfg (0, 0))) (hs : cs.size = 8) (c : CfgV) : (storeCells ⟨g, 0, none⟩ (cfgL c)).run Tryz.prog W = .ok () (W.setRow g (cfgL c).toArray) := run_st h hs (cfgL c) rfl (by simp [cfgL, Value.oneCell'])
structure LawW (w W : World) (c : CfgV) (p : Option Addr) (cap : Nat) (cs : List CallV) : Prop where
  bl : Below w.heap.size w W
  box : W.heap[w.heap.size]? = some (.cells (cfgL c).toArray tCfg (0, 0))
  row : HRow W p cap cs
theorem LawW.on {w W W' : World} {c : CfgV} {p : Option Addr} {cap : Nat} {cs : List CallV} (h : LawW w W c p cap cs) (hb : Below W.heap.size W W') : LawW w W' c p cap cs :=
  ⟨h.bl.trans (hb.mono h.bl.size), blk_below h.box hb (Array.getElem?_eq_some_iff.1 h.box).1, h.row.on hb⟩
theorem LawW.ld {w W : World} {c : CfgV} {p : Option Addr} {cap : Nat} {cs : List CallV} (h : LawW w W c p cap cs) : (loadCfg (.pointer (some ⟨w.heap.size, 0, none⟩))).run Tryz.prog W = .ok (.agg (cfgL c).toArray) W := ld_cfg h.box
theorem small36_l (c : CfgV) (w : World) : Calls Tryz.prog 17 #[.agg (cfgL c).toArray] w fun e w' => e = .returned (.agg (cfgL (smallC 100 c)).toArray) ∧ Below w.heap.size w w' := small36_any c w
section
variable {w W : World} {c : CfgV} {p : Option Addr} {cap : Nat} {cs : List CallV}
theorem LawW.ps (h : LawW w W c p cap cs) : ∀ x ∈ cs, x.ps.length ≤ 1000000 := fun x hx => (h.row.dat x hx).1
theorem LawW.find (h : LawW w W c p cap cs) : Calls Tryz.prog 19 #[.agg (cfgL c).toArray, .slice p cs.length cap] W fun e W' => ∃ a q, e = .returned (.tuple #[.slice a (findP c cs).1.length q, .bool (findP c cs).2.1, .int .i64 (findP c cs).2.2]) ∧ W'.ownsRow W.heap.size tInt 1 (.slice a (findP c cs).1.length q) (findP c cs).1.length ((findP c cs).1.map fun (x : Nat) => iv x) ∧ IRd W' a ((findP c cs).1.map fun (x : Nat) => (x : Int)) ∧ Below W.heap.size W W' := by
  refine (find_any c p cap cs W h.row.row (by have := h.row.len; omega) h.row.ok h.ps).mono ?_
  rintro e W' ⟨v, rfl, hO, hb⟩
  obtain ⟨a, q, rfl⟩ := own_slice hO
  exact ⟨a, q, rfl, hO, IRd.of (irow_own hO rfl), hb⟩
theorem LawW.check (h : LawW w W c p cap cs) : Calls Tryz.prog 23 #[.agg (cfgL c).toArray, .slice p cs.length cap] W fun e W' => e = .returned (.tuple #[.bool (findP c cs).2.1, .int .i64 (findP c cs).2.2]) ∧ Below W.heap.size W W' := check_l c p cap cs W h.row.row (by have := h.row.len; omega) h.row.ok h.ps
theorem LawW.count (h : LawW w W c p cap cs) (m : Int) : Calls Tryz.prog 21 #[.agg (cfgL c).toArray, .int .i64 m, .slice p cs.length cap] W fun e W' => e = .returned (.tuple #[.int .i64 (countP c m cs).1, .int .i64 (countP c m cs).2]) ∧ Below W.heap.size W W' := count_any c m p cap cs W h.row.row (by have := h.row.len; omega) h.row.ok h.ps
theorem LawW.valid (h : LawW w W c p cap cs) {po : Option Addr} {co n : Nat} {o : List Int} (hn : n = o.length) (hO : IRd W po o) (ho : o.length ≤ 1000) : Calls Tryz.prog 28 #[.agg (cfgL c).toArray, .slice po n co, .slice p cs.length cap] W fun e W' => e = .returned (.int .i64 (validE c o cs)) ∧ Below W.heap.size W W' := by
  subst hn
  exact valid_any c p po cap co cs o W h.row.row hO (by have := h.row.len; omega) ho h.row.ok h.ps
theorem LawW.awake (h : LawW w W c p cap cs) : Calls Tryz.prog 26 #[] W fun e W' => e = .returned (.bool true) ∧ Below w.heap.size w W' := by
  refine (awake36_any W).mono ?_
  rintro e W' ⟨rfl, hb⟩
  exact ⟨rfl, h.bl.trans (hb.mono h.bl.size)⟩
end
end Go.Proofs.YtdeiocppghhfdaaGreat.Lin
