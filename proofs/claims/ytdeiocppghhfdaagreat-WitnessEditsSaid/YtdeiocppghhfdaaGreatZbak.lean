/- Texts, one behind another. -/
import Derived.Test.YtdeiocppghhfdaaGreatZbaj
import Derived.Test.YtdeiocppghhfdaaGreatZbaf
import Derived.Test.YtdeiocppghhfdaaGreatZbag
import Derived.Lib.AppendZerosOnto
import Derived.Lib.Overlaps
import Derived.Laws.Externs
import Derived.Laws.CopyRow
import Derived.ArgAppend
set_option linter.unusedVariables false
set_option linter.unusedSimpArgs false
set_option maxRecDepth 100000
set_option maxHeartbeats 8000000
namespace Go.Proofs.YtdeiocppghhfdaaGreat
open Go.RowKit Go.Lib Go.Shelf
theorem blk3f {w : World} {b : Nat} {u v x : Value} {T : TypeId} (h : w.heap[b]? = some (.cells #[u, v, x] T (0, 0))) : w.frozen? ⟨b, 0, none⟩ = false ∧ w.frozen? ⟨b, 1, none⟩ = false ∧ w.frozen? ⟨b, 2, none⟩ = false := by
 refine ⟨?_, ?_, ?_⟩ <;> simp [World.frozen?, h]
theorem set3 {w : World} {b : Nat} {u v x u' v' x' : Value} {T : TypeId} (h : w.heap[b]? = some (.cells #[u, v, x] T (0, 0))) : (((w.setCell ⟨b, 0, none⟩ u').setCell ⟨b, 1, none⟩ v').setCell ⟨b, 2, none⟩ x').heap[b]? = some (.cells #[u', v', x'] T (0, 0)) := by
 simp [World.setCell, Array.getElem?_modify, h]
theorem below_set3 {B b : Nat} {w0 w : World} (h : Below B w0 w) (hb : B ≤ b) (u v x : Value) : Below B w0 (((w.setCell ⟨b, 0, none⟩ u).setCell ⟨b, 1, none⟩ v).setCell ⟨b, 2, none⟩ x) :=
 ((h.setCell (p := ⟨b, 0, none⟩) hb _).setCell (p := ⟨b, 1, none⟩) hb _).setCell (p := ⟨b, 2, none⟩) hb _
def zeroM : MkV := ⟨0, 0, 0⟩
def foundV (id : Int) (l : List MkV) : Value := .tuple #[.agg (mkL ((findM id l).getD zeroM)).toArray, .bool (hasM id l)]
theorem loM_get {id : Int} {l : List MkV} (h : l.Pairwise (fun a b => a.id < b.id)) {j : Nat} (hj : j < idxM id l) {m : MkV} (hm : l[j]? = some m) : m.id < id := by
 have h1 := (sp_take id h).1
 have : (l.take (idxM id l))[j]? = some m := by rw [List.getElem?_take, if_pos hj, hm]
 rw [h1] at this
 have := (List.mem_filter.1 (List.mem_of_getElem? this)).2
 simpa using this
theorem idx_empty (a : Option Addr) (c : Nat) (v : Value) (w : World) : Calls Tryz.prog 251 #[.slice a 0 c, v] w fun e w' => e = .returned (.int .i64 (-1)) ∧ Below w.heap.size w w' := by
 go_enter Tryz.func251, Tryz.ntmps251
 go_wp2
 refine wp_loop_rounds 1 ?_
 rw [rounds_succ]
 go_wp2
 go_returns
 exact ⟨rfl, Below.refl _ _⟩
theorem find_any (a : Option Addr) (c : Nat) (l : List MkV) (id : Int) (w : World) (hr : MRow w a l) (hpw : l.Pairwise (fun a b => a.id < b.id)) (hs : l.length ≤ 1000) (hc : l.length ≤ c) :
  Calls Tryz.prog 202 #[.slice a l.length c, .int .u32 id] w fun e w' => e = .returned (foundV id l) ∧ Below w.heap.size w w' := by
 obtain ⟨W0, hW0⟩ : ∃ W0, W0 = (w.alloc (.cells #[.int .u32 id] 52)).alloc (.cells #[.int .u32 0, .int .i64 0, .int .u8 0] 74) := ⟨_, rfl⟩
 have hsz : W0.heap.size = w.heap.size + 1 + 1 := by rw [hW0]; simp
 have hB0 : Below w.heap.size w W0 := by rw [hW0]; exact ((Below.refl _ w).alloc (Nat.le_refl _) _).alloc (by simp) _
 have cx : W0.cell? ⟨w.heap.size, 0, none⟩ = some (.int .u32 id) := by rw [hW0]; exact Lib.cell?_alloc_some _ (box1 (heap_alloc_new w (.cells #[.int .u32 id] 52))).1
 have hres : W0.heap[w.heap.size + 1]? = some (.cells #[.int .u32 0, .int .i64 0, .int .u8 0] 74 (0, 0)) := by rw [hW0]; have := heap_alloc_new (w.alloc (.cells #[.int .u32 id] 52)) (.cells #[.int .u32 0, .int .i64 0, .int .u8 0] 74); rwa [World.size_alloc] at this
 have eg : ∀ args w, (callFunc 252 args).run Tryz.prog w = .ok (.enter 252 args) w := enters_of Tryz.func252 (by kernel_rfl) rfl
 have hP : PredBelow Tryz.prog 252 #[.pointer (some ⟨w.heap.size, 0, none⟩)] (fun x => .agg (mkL x).toArray) (fun m => m.id == id) W0 := by
  intro W x hW
  refine (find1_any w.heap.size id x W ((hW.cell (p := ⟨w.heap.size, 0, none⟩) (show w.heap.size < W0.heap.size by omega)).trans cx) (by have := hW.size; omega)).mono ?_
  rintro e w' ⟨rfl, hB⟩
  exact ⟨rfl, hW.trans (hB.mono hW.size)⟩
 have hr0 := hr.on hB0
 have hIdx : Calls Tryz.prog 251 #[.slice a l.length c, .func (.func 252) #[] #[.pointer (some ⟨w.heap.size, 0, none⟩)]] W0 fun e w' => e = .returned (.int .i64 (if hasM id l then (idxM id l : Int) else -1)) ∧ Below W0.heap.size W0 w' := by
  rcases hr0 with ⟨h1, h2⟩ | ⟨b, off, h1, h2, h3⟩
  ·subst h2
   refine (idx_empty a c _ _).mono ?_
   rintro e w' ⟨rfl, hB⟩
   exact ⟨rfl, hB⟩
  ·subst h1
   have h := AnyQ.slices_IndexFunc (P := Tryz.prog) Tryz.idxM 3 (fun w => Tryz.isAgg74 w) (fun w => Tryz.sizeOf74 w) mkL mkL_len (fun m => m.id == id) 252 #[.pointer (some ⟨w.heap.size, 0, none⟩)] eg b off l.length c l _ hP (Nat.le_refl _) (by omega) h2 (fun j hj i v hv => by
    rw [Nat.add_assoc]
    rw [getElem!_pos l j hj] at hv
    exact h3 j l[j] (List.getElem?_eq_getElem hj) i v hv)
   refine h.mono ?_
   rintro e w' ⟨rfl, hB⟩
   refine ⟨?_, hB⟩
   congr 2
   cases hs2 : hasM id l with
   | true =>
    obtain ⟨m, g1, g2, _⟩ := sp_is hpw hs2
    have hlt := (List.getElem?_eq_some_iff.1 g1).1
    rw [if_pos rfl]
    refine idxBy_hit _ l l.length (idxM id l) default hlt (Nat.le_refl _) ?_ ?_
    ·rw [getElem!_pos l _ hlt]; have := (List.getElem?_eq_some_iff.1 g1).2; rw [this]; simpa using g2
    ·intro j hj
     have hjl : j < l.length := by omega
     rw [getElem!_pos l j hjl]
     have := loM_get hpw hj (List.getElem?_eq_getElem hjl)
     simp; omega
   | false =>
    rw [if_neg (by simp)]
    refine idxBy_miss _ l l.length default ?_
    intro j hj
    rw [getElem!_pos l j hj]
    unfold hasM at hs2
    rw [List.any_eq_false] at hs2
    simpa using hs2 l[j] (List.getElem_mem hj)
 clear hP
 cases hs2 : hasM id l with
 | true =>
  obtain ⟨m, g1, g2, _, g3, _⟩ := sp_is hpw hs2
  rw [hs2, if_pos rfl] at hIdx
  have hF : foundV id l = .tuple #[.agg (mkL m).toArray, .bool true] := by unfold foundV; rw [g3, hs2]; rfl
  have HF := Lib.hid hF
  have hlt := (List.getElem?_eq_some_iff.1 g1).1
  have hd : decide ((idxM id l : Int) < 0) = false := by simp
  rcases hr0 with ⟨h1, h2⟩ | ⟨b, off, rfl, hb, h3⟩
  ·rw [h2] at hlt; simp at hlt
  generalize idxM id l = ix at *
  clear hpw hF g3 hs2
  subst hW0
  go_enter Tryz.func202, Tryz.ntmps202
  go_wp2_with (go_at_call 251; refine hIdx.mono ?_; rintro e w1 ⟨rfl, hB1⟩; have c0 : w1.cell? ⟨b, off + ix * 3, none⟩ = some (.int .u32 m.id) := (hB1.cell (p := ⟨b, off + ix * 3, none⟩) hb).trans (h3 ix m g1 0 _ rfl); have c1 : w1.cell? ⟨b, off + ix * 3 + 1, none⟩ = some (.int .i64 m.at_) := (hB1.cell (p := ⟨b, off + ix * 3 + 1, none⟩) hb).trans (h3 ix m g1 1 _ rfl); have c2 : w1.cell? ⟨b, off + ix * 3 + 2, none⟩ = some (.int .u8 m.grav) := (hB1.cell (p := ⟨b, off + ix * 3 + 2, none⟩) hb).trans (h3 ix m g1 2 _ rfl); have hz := (hB1.block _ (by omega)).trans hres; obtain ⟨z0, z1, z2⟩ := blk3' hz; obtain ⟨y0, y1, y2⟩ := blk3f hz)
  obtain ⟨r0, r1, r2⟩ := blk3' (set3 (u' := .int .u32 id) (v' := .int .i64 m.at_) (x' := .int .u8 m.grav) hz)
  have hBz := below_set3 (hB0.trans (hB1.mono (by omega))) (show w.heap.size ≤ w.heap.size + 1 by omega) (.int .u32 id) (.int .i64 m.at_) (.int .u8 m.grav)
  generalize ((w1.setCell ⟨w.heap.size + 1, 0, none⟩ (.int .u32 id)).setCell ⟨w.heap.size + 1, 1, none⟩ (.int .i64 m.at_)).setCell ⟨w.heap.size + 1, 2, none⟩ (.int .u8 m.grav) = W3 at *
  refine bodyPost_ret (v := foundV id l) ?_ rfl ⟨rfl, hBz⟩
  rw [HF.out]
  simp [results, Tryz.f202, go_sem, r0, r1, r2, mkL, g2]
 | false =>
  rw [hs2, if_neg (by simp)] at hIdx
  have hF : foundV id l = .tuple #[.agg (mkL zeroM).toArray, .bool false] := by unfold foundV; rw [(sp_no hpw hs2).2.2.1, hs2]; rfl
  have HF := Lib.hid hF
  clear hpw hF hs2
  subst hW0
  go_enter Tryz.func202, Tryz.ntmps202
  go_wp2_with (go_at_call 251; refine hIdx.mono ?_; rintro e w1 ⟨rfl, hB1⟩; have hz := (hB1.block _ (by omega)).trans hres; obtain ⟨z0, z1, z2⟩ := blk3' hz; obtain ⟨y0, y1, y2⟩ := blk3f hz)
  obtain ⟨r0, r1, r2⟩ := blk3' (set3 (u' := .int .u32 0) (v' := .int .i64 0) (x' := .int .u8 0) hz)
  have hBz := below_set3 (hB0.trans (hB1.mono (by omega))) (show w.heap.size ≤ w.heap.size + 1 by omega) (.int .u32 0) (.int .i64 0) (.int .u8 0)
  generalize ((w1.setCell ⟨w.heap.size + 1, 0, none⟩ (.int .u32 0)).setCell ⟨w.heap.size + 1, 1, none⟩ (.int .i64 0)).setCell ⟨w.heap.size + 1, 2, none⟩ (.int .u8 0) = W3 at *
  refine bodyPost_ret (v := foundV id l) ?_ rfl ⟨rfl, hBz⟩
  rw [HF.out]
  simp [results, Tryz.f202, go_sem, r0, r1, r2, mkL, zeroM]
end Go.Proofs.YtdeiocppghhfdaaGreat
namespace Go.Proofs.YtdeiocppghhfdaaGreat
def cntB (p : Int → Bool) (l : List UInt8) : Nat := (l.filter fun b => p (b.toNat : Int)).length
def nthB (p : Int → Bool) : List UInt8 → Int → Option Nat
 | [], _ => none
 | b :: l, n => if p (b.toNat : Int) then (if n = 0 then some 0 else (nthB p l (n - 1)).map (· + 1)) else (nthB p l n).map (· + 1)
theorem cntB_le (p : Int → Bool) (l : List UInt8) : cntB p l ≤ l.length := List.length_filter_le _ _
theorem cntB_snoc (p : Int → Bool) (l : List UInt8) (k : Nat) (h : k < l.length) : cntB p (l.take (k + 1)) = cntB p (l.take k) + if p (byt l k) then 1 else 0 := by
 unfold cntB byt
 rw [List.take_add_one, List.getElem?_eq_getElem h, Option.toList_some, List.filter_append, List.length_append, List.getD_eq_getElem?_getD, List.getElem?_eq_getElem h, Option.getD_some]
 by_cases hp : p ((l[k]).toNat : Int) = true
 ·simp [hp]
 ·simp [hp]
theorem nthB_drop (p : Int → Bool) (l : List UInt8) (k : Nat) (n : Int) (h : k < l.length) : nthB p (l.drop k) n = if p (byt l k) then (if n = 0 then some 0 else (nthB p (l.drop (k + 1)) (n - 1)).map (· + 1)) else (nthB p (l.drop (k + 1)) n).map (· + 1) := by
 rw [List.drop_eq_getElem_cons h, nthB]
 have : ((l[k]).toNat : Int) = byt l k := by unfold byt; rw [List.getD_eq_getElem?_getD, List.getElem?_eq_getElem h, Option.getD_some]
 rw [this]
theorem nthB_end (p : Int → Bool) (l : List UInt8) (k : Nat) (n : Int) (h : l.length ≤ k) : nthB p (l.drop k) n = none := by rw [List.drop_of_length_le h]; rfl
theorem nthB_lt (p : Int → Bool) : ∀ (l : List UInt8) (n : Int) (k : Nat), nthB p l n = some k → k < l.length
 | [], _, _, h => by cases h
 | b :: l, n, k, h => by
  rw [nthB] at h
  split at h
  ·split at h
   ·cases h; simp
   ·cases hq : nthB p l (n - 1) with
    | none => rw [hq] at h; cases h
    | some q => rw [hq] at h; cases h; have := nthB_lt p l _ q hq; simp; omega
  ·cases hq : nthB p l n with
   | none => rw [hq] at h; cases h
   | some q => rw [hq] at h; cases h; have := nthB_lt p l _ q hq; simp; omega
def begB (b : Int) : Bool := !contB b
def feedB (b : Int) : Bool := b == 10
def runeS (l : List UInt8) (n : Int) : Int × Int := if n < 0 then (0, 3) else match nthB begB l n with | some k => (k, 0) | none => if n = cntB begB l then (l.length, 0) else (0, 3)
def lineS (l : List UInt8) (n : Int) : Int × Int := if n = 0 then (0, 0) else if n < 0 then (0, 3) else match nthB feedB l (n - 1) with | some k => (k + 1, 0) | none => (0, 3)
end Go.Proofs.YtdeiocppghhfdaaGreat
namespace Go.Proofs.YtdeiocppghhfdaaGreat
open Go.RowKit
def evB (_ : Int) : Bool := true
theorem every_any (b : Int) (w : World) : Calls Tryz.prog 245 #[.int .u8 b] w fun e w' => e = .returned (.bool (evB b)) ∧ w = w' := by
 go_enter Tryz.func245, Tryz.ntmps245
 go_wp2
 all_goals (go_ret; exact ⟨rfl, rfl⟩)
theorem begins_any (b : Int) (w : World) : Calls Tryz.prog 246 #[.int .u8 b] w fun e w' => e = .returned (.bool (begB b)) ∧ w = w' := by
 go_enter Tryz.func246, Tryz.ntmps246
 go_wp2
 all_goals (go_ret; exact ⟨ret_bool (by rw [Bool.eq_iff_iff]; simp [begB, contB]; try omega), rfl⟩)
theorem feeds_any (b : Int) (w : World) : Calls Tryz.prog 247 #[.int .u8 b] w fun e w' => e = .returned (.bool (feedB b)) ∧ w = w' := by
 go_enter Tryz.func247, Tryz.ntmps247
 go_wp2
 all_goals (go_ret; exact ⟨ret_bool (by rw [Bool.eq_iff_iff]; simp [feedB]), rfl⟩)
theorem count_every (s : ByteArray) (w : World) (hs : s.size ≤ maxLen) : Calls Tryz.prog 248 #[.string s, .func (.func 245) #[] #[]] w fun e w' => e = .returned (.int .i64 (cntB evB s.data.toList)) ∧ w = w' := by
 unfold maxLen at hs
 have hl : s.data.toList.length = s.size := by simp
 have HL := Lib.hid hl; clear hl
 go_enter Tryz.func248, Tryz.ntmps248
 go_wp2
 go_loop [5, 6, 9, 10, 11, 12, 13, 14, 15, 16, 17, 18, 19] (fun n x5 i x6 x7 x8 x9 x10 x11 x12 x13 x14 x15 => ∃ k : Nat, i = .int .i64 k ∧ k ≤ s.size ∧ n = .int .i64 (cntB evB (s.data.toList.take k))) (fun n x5 i x6 x7 x8 x9 x10 x11 x12 x13 x14 x15 => s.size - (intOf i).toNat)
 case atStart => exact ⟨0, rfl, by omega, rfl⟩
 case round =>
  obtain ⟨k, rfl, hk, rfl⟩ := hrel
  have hc := cntB_le evB (s.data.toList.take k)
  rw [List.length_take, HL.out] at hc
  by_cases hlt : k < s.size
  ·have hb := byt_mk s k hlt
   have hsn := cntB_snoc evB s.data.toList k (by rw [HL.out]; exact hlt)
   have Hs := Lib.hid hsn; clear hsn
   cases hp : evB (byt s.data.toList k) with
   | true =>
    rw [hp] at Hs
    go_wp2_with (go_at_call 245; refine (every_any _ _).mono ?_; try rw [hp]; rintro e w' ⟨rfl, rfl⟩)
    go_round
    case rel => exact ⟨k + 1, by go_num, by omega, by rw [Hs.out]; go_num⟩
    case measure => simp [intOf]; omega
   | false =>
    rw [hp] at Hs
    go_wp2_with (go_at_call 245; refine (every_any _ _).mono ?_; try rw [hp]; rintro e w' ⟨rfl, rfl⟩)
    go_round
    case rel => exact ⟨k + 1, by go_num, by omega, by rw [Hs.out]; go_num⟩
    case measure => simp [intOf]; omega
  ·go_wp2
   go_ret
   exact ⟨by rw [List.take_of_length_le (by rw [HL.out]; omega)]; rfl, rfl⟩
theorem count_begins (s : ByteArray) (w : World) (hs : s.size ≤ maxLen) : Calls Tryz.prog 248 #[.string s, .func (.func 246) #[] #[]] w fun e w' => e = .returned (.int .i64 (cntB begB s.data.toList)) ∧ w = w' := by
 unfold maxLen at hs
 have hl : s.data.toList.length = s.size := by simp
 have HL := Lib.hid hl; clear hl
 go_enter Tryz.func248, Tryz.ntmps248
 go_wp2
 go_loop [5, 6, 9, 10, 11, 12, 13, 14, 15, 16, 17, 18, 19] (fun n x5 i x6 x7 x8 x9 x10 x11 x12 x13 x14 x15 => ∃ k : Nat, i = .int .i64 k ∧ k ≤ s.size ∧ n = .int .i64 (cntB begB (s.data.toList.take k))) (fun n x5 i x6 x7 x8 x9 x10 x11 x12 x13 x14 x15 => s.size - (intOf i).toNat)
 case atStart => exact ⟨0, rfl, by omega, rfl⟩
 case round =>
  obtain ⟨k, rfl, hk, rfl⟩ := hrel
  have hc := cntB_le begB (s.data.toList.take k)
  rw [List.length_take, HL.out] at hc
  by_cases hlt : k < s.size
  ·have hb := byt_mk s k hlt
   have hsn := cntB_snoc begB s.data.toList k (by rw [HL.out]; exact hlt)
   have Hs := Lib.hid hsn; clear hsn
   cases hp : begB (byt s.data.toList k) with
   | true =>
    rw [hp] at Hs
    go_wp2_with (go_at_call 246; refine (begins_any _ _).mono ?_; try rw [hp]; rintro e w' ⟨rfl, rfl⟩)
    go_round
    case rel => exact ⟨k + 1, by go_num, by omega, by rw [Hs.out]; go_num⟩
    case measure => simp [intOf]; omega
   | false =>
    rw [hp] at Hs
    go_wp2_with (go_at_call 246; refine (begins_any _ _).mono ?_; try rw [hp]; rintro e w' ⟨rfl, rfl⟩)
    go_round
    case rel => exact ⟨k + 1, by go_num, by omega, by rw [Hs.out]; go_num⟩
    case measure => simp [intOf]; omega
  ·go_wp2
   go_ret
   exact ⟨by rw [List.take_of_length_le (by rw [HL.out]; omega)]; rfl, rfl⟩
theorem count_feeds (s : ByteArray) (w : World) (hs : s.size ≤ maxLen) : Calls Tryz.prog 248 #[.string s, .func (.func 247) #[] #[]] w fun e w' => e = .returned (.int .i64 (cntB feedB s.data.toList)) ∧ w = w' := by
 unfold maxLen at hs
 have hl : s.data.toList.length = s.size := by simp
 have HL := Lib.hid hl; clear hl
 go_enter Tryz.func248, Tryz.ntmps248
 go_wp2
 go_loop [5, 6, 9, 10, 11, 12, 13, 14, 15, 16, 17, 18, 19] (fun n x5 i x6 x7 x8 x9 x10 x11 x12 x13 x14 x15 => ∃ k : Nat, i = .int .i64 k ∧ k ≤ s.size ∧ n = .int .i64 (cntB feedB (s.data.toList.take k))) (fun n x5 i x6 x7 x8 x9 x10 x11 x12 x13 x14 x15 => s.size - (intOf i).toNat)
 case atStart => exact ⟨0, rfl, by omega, rfl⟩
 case round =>
  obtain ⟨k, rfl, hk, rfl⟩ := hrel
  have hc := cntB_le feedB (s.data.toList.take k)
  rw [List.length_take, HL.out] at hc
  by_cases hlt : k < s.size
  ·have hb := byt_mk s k hlt
   have hsn := cntB_snoc feedB s.data.toList k (by rw [HL.out]; exact hlt)
   have Hs := Lib.hid hsn; clear hsn
   cases hp : feedB (byt s.data.toList k) with
   | true =>
    rw [hp] at Hs
    go_wp2_with (go_at_call 247; refine (feeds_any _ _).mono ?_; try rw [hp]; rintro e w' ⟨rfl, rfl⟩)
    go_round
    case rel => exact ⟨k + 1, by go_num, by omega, by rw [Hs.out]; go_num⟩
    case measure => simp [intOf]; omega
   | false =>
    rw [hp] at Hs
    go_wp2_with (go_at_call 247; refine (feeds_any _ _).mono ?_; try rw [hp]; rintro e w' ⟨rfl, rfl⟩)
    go_round
    case rel => exact ⟨k + 1, by go_num, by omega, by rw [Hs.out]; go_num⟩
    case measure => simp [intOf]; omega
  ·go_wp2
   go_ret
   exact ⟨by rw [List.take_of_length_le (by rw [HL.out]; omega)]; rfl, rfl⟩
end Go.Proofs.YtdeiocppghhfdaaGreat
