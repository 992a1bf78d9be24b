/- Texts of the model, one behind another: MdEa MdEb MdEc MdEf MdEh RaA RaB. -/
import Derived.Test.YtlealeecmmpckaaGreatBug
import Derived.Test.YtlealeecmmpckaaGreatBuh
import Derived.Laws.EntriesVeiled
import Derived.Laws.BytesArg
import Derived.Lib.LazyBuf
import Derived.Lib.BufferRead
namespace Go.Proofs.YtlealeecmmpckaaGreat
set_option linter.unusedVariables false
set_option linter.unusedSimpArgs false

structure PaS where
  out : List UInt8
  gone : List UInt8
  ins : List UInt8
  rest : List UInt8
def paStep (s : PaS) (p : PcV) : PaS :=
  if p.kind = 1 then { s with out := s.out ++ s.rest.take p.n.toNat, rest := s.rest.drop p.n.toNat }
  else if p.kind = 2 then { s with out := s.out ++ p.text.data.toList, ins := s.ins ++ p.text.data.toList }
  else { s with gone := s.gone ++ s.rest.take p.n.toNat, rest := s.rest.drop p.n.toNat }
def paF (s : List UInt8) (d : List PcV) : PaS := d.foldl paStep ⟨[], [], [], s⟩
theorem paF_take {s : List UInt8} {d : List PcV} {k : Nat} {p : PcV} (h : d[k]? = some p) : paF s (d.take (k + 1)) = paStep (paF s (d.take k)) p := by
  unfold paF; rw [List.take_add_one, h, Option.toList_some, List.foldl_append]; rfl
/-- A piece may be performed: it fits; unless it is the last one, nothing but what was kept came before it. -/
def paOne (s : PaS) (p : PcV) (last : Bool) : Bool :=
  decide (0 ≤ p.n) && decide (p.n ≤ 100000) && decide (p.text.size ≤ 100000) && decide (s.out.length ≤ 300000) && decide (s.gone.length ≤ 300000) && decide (s.ins.length ≤ 300000) &&
  ((p.kind == 2) || ((p.kind == 1) || (p.kind == 3)) && decide (p.n.toNat ≤ s.rest.length)) && ((last && (p.kind == 1)) || (s.gone.isEmpty && s.ins.isEmpty))
def paAll : List PcV → PaS → Bool
  | [], _ => true
  | p :: d, s => paOne s p d.isEmpty && paAll d (paStep s p)
theorem paAll_get : ∀ {d : List PcV} {s : PaS} {k : Nat} {p : PcV}, paAll d s = true → d[k]? = some p → paOne ((d.take k).foldl paStep s) p (decide (k + 1 = d.length)) = true
  | q :: d, s, 0, p, h, hk => by
    simp only [List.getElem?_cons_zero, Option.some.injEq] at hk
    subst hk
    unfold paAll at h
    rw [Bool.and_eq_true] at h
    have : d.isEmpty = decide (0 + 1 = (q :: d).length) := by cases d <;> simp
    rw [← this]; exact h.1
  | q :: d, s, k + 1, p, h, hk => by
    unfold paAll at h
    rw [Bool.and_eq_true] at h
    have := paAll_get (k := k) h.2 (by simpa using hk)
    rw [List.take_succ_cons, List.foldl_cons]
    have e : decide (k + 1 + 1 = (q :: d).length) = decide (k + 1 = d.length) := by simp
    rw [e]; exact this
theorem rep_pa (t : ByteArray) (a n : Int) (x : ByteArray) (h : RepOK t.size a n x) : paAll (repD t.size a n x) ⟨[], [], [], t.data.toList⟩ = true ∧ (paF t.data.toList (repD t.size a n x)).out = (repT t a n x).data.toList := by
  obtain ⟨h1, h2, h3, h4, h5, h6⟩ := h
  have e0 : (⟨#[]⟩ : ByteArray).size = 0 := rfl
  have el : t.data.toList.length = t.size := by simp
  have ex : x.data.toList.length = x.size := by simp
  obtain ⟨T, hT⟩ : ∃ T, t.data.toList = T := ⟨_, rfl⟩
  obtain ⟨X, hX⟩ : ∃ X, x.data.toList = X := ⟨_, rfl⟩
  have er : (repT t a n x).data.toList = T.take a.toNat ++ X ++ T.drop (a + n).toNat := by unfold repT; rw [hT, hX]
  rw [er, hT]
  rw [hT] at el; rw [hX] at ex
  generalize hm : (t.size : Int) = m at *
  have hm2 : t.size = T.length := el.symm
  unfold repD
  rcases h6 with ⟨rfl, hx⟩ | ⟨hn, hx⟩
  · by_cases ha : 0 < a <;> by_cases hr : 0 < m - a - 0
    · rw [if_pos ha, if_pos hx, if_neg (by omega), if_pos hr]
      constructor
      · simp [paAll, paOne, paStep, e0, hX]; omega
      · have e : List.take (m - a - 0).toNat (List.drop a.toNat T) = T.drop (a + 0).toNat := by rw [Int.add_zero, List.take_of_length_le (by rw [List.length_drop]; omega)]
        simp [paF, paStep, hX] at e ⊢; exact e
    · rw [if_pos ha, if_pos hx, if_neg (by omega), if_neg hr]
      constructor
      · simp [paAll, paOne, paStep, e0, hX]; omega
      · have e : T.drop (a + 0).toNat = [] := by rw [List.drop_eq_nil_iff]; omega
        simp [paF, paStep, hX] at e ⊢; omega
    · rw [if_neg ha, if_pos hx, if_neg (by omega), if_pos hr]
      obtain rfl : a = 0 := by omega
      constructor
      · simp [paAll, paOne, paStep, e0, hX]; omega
      · have e : List.take (m - 0 - 0).toNat T = T := by rw [List.take_of_length_le (by omega)]
        simp [paF, paStep, hX] at e ⊢; exact e
    · rw [if_neg ha, if_pos hx, if_neg (by omega), if_neg hr]
      obtain rfl : a = 0 := by omega
      constructor
      · simp [paAll, paOne, paStep, e0, hX]; omega
      · have e : T = [] := List.eq_nil_of_length_eq_zero (by omega)
        simp [paF, paStep, hX, e]
  · have hX0 : X = [] := List.eq_nil_of_length_eq_zero (by omega)
    by_cases ha : 0 < a <;> by_cases hr : 0 < m - a - n
    · rw [if_pos ha, if_neg (by omega), if_pos hn, if_pos hr]
      constructor
      · simp [paAll, paOne, paStep, e0]; omega
      · have e : List.take (m - a - n).toNat (List.drop n.toNat (List.drop a.toNat T)) = T.drop (a + n).toNat := by rw [List.drop_drop, List.take_of_length_le (by rw [List.length_drop]; omega)]; congr 1; omega
        simp [paF, paStep, hX0] at e ⊢; exact e
    · rw [if_pos ha, if_neg (by omega), if_pos hn, if_neg hr]
      constructor
      · simp [paAll, paOne, paStep, e0]; omega
      · have e : T.drop (a + n).toNat = [] := by rw [List.drop_eq_nil_iff]; omega
        simp [paF, paStep, hX0, e]
    · rw [if_neg ha, if_neg (by omega), if_pos hn, if_pos hr]
      obtain rfl : a = 0 := by omega
      constructor
      · simp [paAll, paOne, paStep, e0]; omega
      · have e : List.take (m - 0 - n).toNat (List.drop n.toNat T) = T.drop (0 + n).toNat := by rw [Int.zero_add, List.take_of_length_le (by rw [List.length_drop]; omega)]
        simp [paF, paStep, hX0] at e ⊢; exact e
    · rw [if_neg ha, if_neg (by omega), if_pos hn, if_neg hr]
      obtain rfl : a = 0 := by omega
      constructor
      · simp [paAll, paOne, paStep, e0]; omega
      · have e : T.drop (0 + n).toNat = [] := by rw [List.drop_eq_nil_iff]; omega
        simp [paF, paStep, hX0, e]; omega
end Go.Proofs.YtlealeecmmpckaaGreat
namespace Go.Proofs.YtlealeecmmpckaaGreat
set_option linter.unusedVariables false
set_option linter.unusedSimpArgs false
open Go.RowKit Go.Lib Go.Shelf

/-- A builder's block and its row; empty: no row. -/
structure Bv (w : World) (b : Nat) (v : Value) (lo : Nat) (bs : List Value) : Prop where
  blk : w.heap[b]? = some (.cells #[.pointer none, v] 175 (0, 0)) ∨ w.heap[b]? = some (.cells #[.pointer (some ⟨b, 0, none⟩), v] 175 (0, 0))
  own : w.ownsRowF lo 5 1 v bs.length bs
  nil_ : bs = [] → v = .slice none 0 0
theorem Bv.ne {w : World} {b lo : Nat} {v : Value} {bs : List Value} (h : Bv w b v lo bs) : v.ownBlock ≠ some b := by
  rcases h.blk with h1 | h1
  · exact Lib.ownBlock_neF h.own h1 (by decide)
  · exact Lib.ownBlock_neF h.own h1 (by decide)
theorem Bv.lt {w : World} {b lo : Nat} {v : Value} {bs : List Value} (h : Bv w b v lo bs) : b < w.heap.size := by
  rcases h.blk with h1 | h1 <;> exact (Array.getElem?_eq_some_iff.1 h1).1
theorem rowF_keep {w w' : World} {lo n : Nat} {e : TypeId} {v : Value} {xs : List Value} (h : w.ownsRowF lo e 1 v n xs) (hk : ∀ k, k < w.heap.size → v.ownBlock = some k → w'.heap[k]? = w.heap[k]?) : w'.ownsRowF lo e 1 v n xs := by
  refine ⟨h.1, ?_⟩
  rcases h.2 with hn | ⟨g, cap, cur, fz, rfl, hb, hg, rest⟩
  · exact .inl hn
  · exact .inr ⟨g, cap, cur, fz, rfl, hb, (hk g (Array.getElem?_eq_some_iff.1 hg).1 rfl).trans hg, rest⟩
theorem rowF_mono {w : World} {lo lo' n : Nat} {e : TypeId} {v : Value} {xs : List Value} (h : w.ownsRowF lo e 1 v n xs) (hl : lo' ≤ lo) : w.ownsRowF lo' e 1 v n xs := by
  refine ⟨h.1, ?_⟩
  rcases h.2 with hn | ⟨g, cap, cur, fz, rfl, hb, rest⟩
  · exact .inl hn
  · exact .inr ⟨g, cap, cur, fz, rfl, Nat.le_trans hl hb, rest⟩
theorem Bv.keep {F : Nat → Prop} {w w' : World} {b lo : Nat} {v : Value} {bs : List Value} (h : Bv w b v lo bs) (hk : KeepF F w w') (hb : ¬ F b) (hv : ∀ k, v.ownBlock = some k → ¬ F k) : Bv w' b v lo bs := by
  have e := hk.block b h.lt hb
  exact ⟨by rw [e]; exact h.blk, rowF_keep h.own (fun k hk1 hk2 => hk.block k hk1 (hv k hk2)), h.nil_⟩
theorem Bv.lo {w : World} {b lo lo' : Nat} {v : Value} {bs : List Value} (h : Bv w b v lo bs) (hl : lo' ≤ lo) : Bv w b v lo' bs := ⟨h.blk, rowF_mono h.own hl, h.nil_⟩
theorem Bv.fresh {w : World} {b lo : Nat} {v : Value} {bs : List Value} (h : Bv w b v lo bs) (hb : bs = []) (lo' : Nat) : Bv w b v lo' bs := by
  have hv := h.nil_ hb
  subst hv; subst hb
  exact ⟨h.blk, World.ownsRowF_nil _ _ _ _, fun _ => rfl⟩
set_option maxHeartbeats 2000000 in
set_option maxRecDepth 100000 in
/-- copyCheck: the builder's block points at itself. -/
theorem bcc_v (b lo : Nat) (v : Value) (bs : List Value) (w : World) (h : Bv w b v lo bs) :
    Calls Tryz.prog 171 #[.pointer (some ⟨b, 0, none⟩)] w fun e w' => e = .returned (.tuple #[]) ∧ w'.heap[b]? = some (.cells #[.pointer (some ⟨b, 0, none⟩), v] 175 (0, 0)) ∧ w'.ownsRowF lo 5 1 v bs.length bs ∧ KeepF (fun k => k = b) w w' := by
  have hne := h.ne
  rcases h.blk with hb | hb
  · refine (bcc_fresh b w (by simp [World.cell?, hb]) (by simp [World.shape?, hb]) (by simp [World.frozen?, hb])).mono ?_
    rintro e w' ⟨rfl, rfl⟩
    refine ⟨rfl, by simp [World.setCell, Array.getElem?_modify, hb], rowF_keep h.own (fun k hk1 hk2 => ?_), KeepF.set (F := fun k => k = b) (a := ⟨b, 0, none⟩) rfl _⟩
    exact setCell_ne _ _ _ _ (fun e => hne (by rw [hk2]; exact congrArg some e))
  · refine (bcc_used b w (by simp [World.cell?, hb])).mono ?_
    rintro e w' ⟨rfl, rfl⟩
    exact ⟨rfl, hb, h.own, KeepF.refl _ _⟩
set_option maxHeartbeats 2000000 in
set_option maxRecDepth 100000 in
theorem bws_v (b lo : Nat) (v : Value) (bs : List Value) (s : ByteArray) (w : World) (h : Bv w b v lo bs) (hlen : bs.length + s.size ≤ 1000000) (hlo : lo ≤ w.heap.size) :
    Calls Tryz.prog 142 #[.pointer (some ⟨b, 0, none⟩), .string s] w fun e w' => e = .returned (.tuple #[.int .i64 s.size, .nilIface]) ∧ (∃ v', Bv w' b v' lo (bs ++ Lib.strCells s)) ∧ KeepF (fun k => k = b ∨ v.ownBlock = some k) w w' := by
  obtain ⟨i0, hi, hz0, hz1, hz2⟩ := info_parts infoBy
  have hne := h.ne
  have hnil := h.nil_
  go_enter Tryz.func142, Tryz.ntmps142
  go_wp2_with (go_at_call 171; refine (bcc_v b lo v bs _ h).mono ?_)
  rintro e w1 ⟨rfl, hbk, hown, hk1⟩
  have c0 : w1.cell? ⟨b, 0, none⟩ = some (.pointer (some ⟨b, 0, none⟩)) := by rw [Lib.cell_of_heap hbk]; rfl
  have c1 : w1.cell? ⟨b, 1, none⟩ = some v := by rw [Lib.cell_of_heap hbk]; rfl
  go_wp2_with (at_builtin; refine Lib.wpList_append_own_stringF _ rfl _ _ 98 9 rfl lo 5 i0 Tryz.underlying98 Tryz.underlying9 hi hz0 hz1 hz2 _ _ _ rfl hown s rfl ?c3 ?c4 ?c5 ?_)
  case c3 => unfold maxLen; omega
  case c4 => omega
  case c5 => have := hk1.size; omega
  intro v' w2 hown' hgrow hnn
  have hlt : b < w1.heap.size := (Array.getElem?_eq_some_iff.1 hbk).1
  have hb2 : w2.heap[b]? = some (.cells #[.pointer (some ⟨b, 0, none⟩), v] 175 (0, 0)) := by
    rw [hgrow.block b hlt (fun e => hne e.symm)]
    exact hbk
  have d0 : w2.cell? ⟨b, 0, none⟩ = some (.pointer (some ⟨b, 0, none⟩)) := by rw [Lib.cell_of_heap hb2]; rfl
  have d1 : w2.cell? ⟨b, 1, none⟩ = some v := by rw [Lib.cell_of_heap hb2]; rfl
  have f1 : w2.frozen? ⟨b, 1, none⟩ = false := Lib.frozen_of_heap hb2 1
  obtain ⟨ao, n', cap, rfl⟩ : ∃ ao n' cap, v' = .slice ao n' cap := by
    rcases hown'.2 with ⟨hv, _⟩ | ⟨g, cap, cur, fz, hv, _⟩
    · exact ⟨_, _, _, hv⟩
    · exact ⟨_, _, _, hv⟩
  have HN := Lib.hid hnn
  have HL := Lib.hid hnil
  clear hnn hnil
  go_wp2
  go_ret2
  have hne' := Lib.ownBlock_neF hown' hb2 (by decide)
  refine ⟨rfl, ⟨.slice ao n' cap, .inr ?_, ?_, ?_⟩, ?_⟩
  · simp [World.setCell, Array.getElem?_modify, hb2]
  · have hl : (bs ++ Lib.strCells s).length = bs.length + s.size := by rw [List.length_append, Lib.strCells_length]
    rw [hl]
    refine rowF_keep hown' (fun k hk1 hk2 => setCell_ne _ _ _ _ (fun e => hne' (by rw [hk2]; exact congrArg some e)))
  · intro he
    obtain ⟨h1, h2⟩ := List.append_eq_nil_iff.1 he
    exact HN.out.2 ⟨HL.out h1, by have := congrArg List.length h2; rw [Lib.strCells_length] at this; simpa using this⟩
  · have k1 : KeepF (fun k => k = b ∨ v.ownBlock = some k) w w1 := hk1.mono (fun k hk => .inl hk)
    have k2 : KeepF (fun k => k = b ∨ v.ownBlock = some k) w1 w2 := ⟨hgrow.os, hgrow.tape, hgrow.output, hgrow.size, fun k hk hn => hgrow.block k hk (fun e => hn (.inr e.symm))⟩
    exact (k1.trans k2).trans (KeepF.set (F := fun k => k = b ∨ v.ownBlock = some k) (a := ⟨b, 1, none⟩) (.inl rfl) _)
set_option maxHeartbeats 2000000 in
set_option maxRecDepth 100000 in
/-- String of a builder that holds bytes. -/
theorem bstr_row (b g cap m : Nat) (l : List UInt8) (p : Value) (w : World) (hbk : w.heap[b]? = some (.cells #[p, .slice (some ⟨g, 0, none⟩) l.length cap] 175 (0, 0))) (h0 : l ≠ []) (hcap : l.length ≤ cap) (hlen : l.length ≤ 1000000) (hsh : w.shape? g = some (5, m)) (hm : l.length ≤ m) (hc : ∀ (j : Nat) (x : UInt8), l[j]? = some x → w.cell? ((⟨g, 0, none⟩ : Addr).add j) = some (.int .u8 x.toNat)) :
    Calls Tryz.prog 145 #[.pointer (some ⟨b, 0, none⟩)] w fun e w' => e = .returned (.string ⟨l.toArray⟩) ∧ w' = w.drew.freeze ⟨g, 0, none⟩ l.length := by
  have hl0 : l.length ≠ 0 := by simpa using h0
  have c1 : w.drew.cell? ⟨b, 1, none⟩ = some (.slice (some ⟨g, 0, none⟩) l.length cap) := by
    have : w.drew.heap[b]? = some (.cells #[p, .slice (some ⟨g, 0, none⟩) l.length cap] 175 (0, 0)) := hbk
    rw [Lib.cell_of_heap this]; rfl
  have hSD : (Builtin.unsafeSliceData_ #[98] 208 #[.slice (some ⟨g, 0, none⟩) l.length cap]).run Tryz.prog w.drew = .ok (.pointer (some ⟨g, 0, none⟩)) w.drew :=
    Lib.run_unsafeSliceData_row _ _ _ _ _ _ (by omega)
  have hUS : (Builtin.unsafeString_ #[208, 3] 9 #[.pointer (some ⟨g, 0, none⟩), .int .i64 l.length]).run Tryz.prog w.drew = .ok (.string ⟨l.toArray⟩) (w.drew.freeze ⟨g, 0, none⟩ l.length) := by
    refine Lib.run_unsafeString_row w.drew 208 3 9 5 Tryz.underlying208 (by kernel_rfl) g m hsh l h0 (by omega) (by omega) ?_
    intro j x hx
    exact hc j x hx
  have mixed : Tryz.prog.follows Departure.mixedOrders = true := by kernel_rfl
  go_enter Tryz.func145, Tryz.ntmps145
  go_wp2
  go_region_o
  all_goals (go_wp2; go_ret; exact ⟨rfl, rfl⟩)
set_option maxHeartbeats 2000000 in
set_option maxRecDepth 100000 in
/-- String of a builder without a row. -/
theorem bstr_nil (b : Nat) (p : Value) (w : World) (hbk : w.heap[b]? = some (.cells #[p, .slice none 0 0] 175 (0, 0))) :
    Calls Tryz.prog 145 #[.pointer (some ⟨b, 0, none⟩)] w fun e w' => e = .returned (.string ⟨#[]⟩) ∧ w' = w.drew := by
  have c1 : w.drew.cell? ⟨b, 1, none⟩ = some (.slice none 0 0) := by
    have : w.drew.heap[b]? = some (.cells #[p, .slice none 0 0] 175 (0, 0)) := hbk
    rw [Lib.cell_of_heap this]; rfl
  have hSD : (Builtin.unsafeSliceData_ #[98] 208 #[.slice none 0 0]).run Tryz.prog w.drew = .ok (.pointer none) w.drew := rfl
  have hUS : ∀ W : World, (Builtin.unsafeString_ #[208, 3] 9 #[.pointer none, .int .i64 0]).run Tryz.prog W = .ok (.string ⟨#[]⟩) W := fun W => by kernel_rfl
  have mixed : Tryz.prog.follows Departure.mixedOrders = true := by kernel_rfl
  go_enter Tryz.func145, Tryz.ntmps145
  go_wp2
  go_region_o
  all_goals (go_wp2; go_ret; exact ⟨rfl, rfl⟩)
end Go.Proofs.YtlealeecmmpckaaGreat
namespace Go.Proofs.YtlealeecmmpckaaGreat
set_option linter.unusedVariables false
set_option linter.unusedSimpArgs false
open Go.RowKit Go.Lib Go.Shelf

abbrev Txt (w : World) (b : Nat) (r : ByteArray) : Prop := w.heap[b]? = some (.cells #[.string r] 9 (0, 0))
abbrev Tak (w : World) (B : Nat) : Prop := w.heap[B + 4]? = some (.cells #[.func (.func 140) #[] #[.pointer (some ⟨B, 0, none⟩)]] 176 (0, 0))
set_option maxHeartbeats 2000000 in
theorem take_any (B : Nat) (r : ByteArray) (n : Int) (w : World) (h : Txt w B r) (h0 : 0 ≤ n) (hn : n ≤ r.size) (hs : r.size ≤ 1000000) :
    Calls Tryz.prog 140 #[.int .i64 n, .pointer (some ⟨B, 0, none⟩)] w fun e w' => e = .returned (.string (r.extract 0 n.toNat)) ∧ w' = w.setCell ⟨B, 0, none⟩ (.string (r.extract n.toNat r.size)) := by
  obtain ⟨hc, hf⟩ := box1 h
  go_enter Tryz.func140, Tryz.ntmps140
  go_wp2
  go_returns
  exact ⟨rfl, rfl⟩
set_option maxHeartbeats 2000000 in
set_option maxRecDepth 100000 in
theorem parts2_any (B lo : Nat) (p : PcV) (r : ByteArray) (bs : List Value) (v : Value) (w : World) (ht : Txt w B r) (hk : Tak w B) (ho : Bv w (B + 1) v lo bs) (hlo : lo ≤ w.heap.size) (h0 : 0 ≤ p.n) (hn : p.n ≤ r.size) (hs : r.size ≤ 300000) (hl : bs.length ≤ 300000) :
    Calls Tryz.prog 141 #[.agg #[.int .u8 p.kind, .int .i64 p.n, .string p.text], .pointer (some ⟨B + 1, 0, none⟩), .pointer (some ⟨B + 4, 0, none⟩)] w fun e w' => e = .returned (.tuple #[]) ∧ Txt w' B (r.extract p.n.toNat r.size) ∧ (∃ v', Bv w' (B + 1) v' lo (bs ++ Lib.strCells (r.extract 0 p.n.toNat))) ∧ KeepF (fun k => k = B ∨ k = B + 1 ∨ v.ownBlock = some k) w w' := by
  obtain ⟨pk, pn, pt⟩ := p
  have hb0 := (Below.refl w.heap.size w).alloc (Nat.le_refl _) (.cells #[.int .u8 pk, .int .i64 pn, .string pt] 132)
  have hlt := ho.lt
  have hB : B < w.heap.size := by omega
  have hB4 := (Array.getElem?_eq_some_iff.1 hk).1
  have hk0 : KeepF (fun k => k = B ∨ k = B + 1 ∨ v.ownBlock = some k) w (w.alloc (.cells #[.int .u8 pk, .int .i64 pn, .string pt] 132)) := KeepF.of_below hb0
  have ht0 : Txt (w.alloc (.cells #[.int .u8 pk, .int .i64 pn, .string pt] 132)) B r := (heap_alloc_old _ _ hB).trans ht
  have hnB : v.ownBlock ≠ some B := Lib.ownBlock_neF ho.own ht (by decide)
  have hvlt : ∀ k, v.ownBlock = some k → k < w.heap.size := fun k hk => (ho.own.lt k hk).2
  have ho0 : Bv (w.alloc (.cells #[.int .u8 pk, .int .i64 pn, .string pt] 132)) (B + 1) v lo bs := ho.keep (F := fun _ => False) (KeepF.of_below hb0) (fun h => h) (fun _ _ h => h)
  have hkc := (box1 hk).1
  have hke : (r.extract 0 pn.toNat).size ≤ 300000 := by rw [ByteArray.size_extract]; omega
  dsimp only at h0 hn ⊢
  go_enter Tryz.func141, Tryz.ntmps141
  go_wp2_with (first | (go_at_call 140; refine (take_any B r pn _ ht0 h0 hn (by omega)).mono ?_; rintro e w1 ⟨rfl, hw1⟩; have k1 : KeepF (fun k => k = B) (w.alloc (.cells #[.int .u8 pk, .int .i64 pn, .string pt] 132)) w1 := (by rw [hw1]; exact KeepF.set (F := fun k => k = B) (a := ⟨B, 0, none⟩) rfl _); have ht1 : Txt w1 B (r.extract pn.toNat r.size) := (by rw [hw1]; exact box_set ht0); have ho1 := ho0.keep k1 (by omega) (fun k hk e => hnB (by rw [hk]; exact congrArg some e)); clear hw1) | (go_at_call 142; refine (bws_v (B + 1) lo v bs (r.extract 0 pn.toNat) _ ho1 (by omega) (by have := k1.size; simp at this; omega)).mono ?_; rintro e w2 ⟨rfl, ho2, k2⟩))
  go_end0
  refine ⟨rfl, (k2.block B (by have := k1.size; simp at this; omega) (by rintro (h | h); omega; exact hnB h)).trans ht1, ho2, ?_⟩
  exact (hk0.trans (k1.mono (fun k hk => .inl hk))).trans (k2.mono (fun k hk => .inr hk))
set_option maxHeartbeats 2000000 in
set_option maxRecDepth 100000 in
theorem parts3_any (B lo : Nat) (p : PcV) (r : ByteArray) (bs : List Value) (v : Value) (w : World) (ht : Txt w B r) (hk : Tak w B) (ho : Bv w (B + 2) v lo bs) (hlo : lo ≤ w.heap.size) (h0 : 0 ≤ p.n) (hn : p.n ≤ r.size) (hs : r.size ≤ 300000) (hl : bs.length ≤ 300000) :
    Calls Tryz.prog 143 #[.agg #[.int .u8 p.kind, .int .i64 p.n, .string p.text], .pointer (some ⟨B + 2, 0, none⟩), .pointer (some ⟨B + 4, 0, none⟩)] w fun e w' => e = .returned (.tuple #[]) ∧ Txt w' B (r.extract p.n.toNat r.size) ∧ (∃ v', Bv w' (B + 2) v' lo (bs ++ Lib.strCells (r.extract 0 p.n.toNat))) ∧ KeepF (fun k => k = B ∨ k = B + 2 ∨ v.ownBlock = some k) w w' := by
  obtain ⟨pk, pn, pt⟩ := p
  have hb0 := (Below.refl w.heap.size w).alloc (Nat.le_refl _) (.cells #[.int .u8 pk, .int .i64 pn, .string pt] 132)
  have hlt := ho.lt
  have hB : B < w.heap.size := by omega
  have hB4 := (Array.getElem?_eq_some_iff.1 hk).1
  have hk0 : KeepF (fun k => k = B ∨ k = B + 2 ∨ v.ownBlock = some k) w (w.alloc (.cells #[.int .u8 pk, .int .i64 pn, .string pt] 132)) := KeepF.of_below hb0
  have ht0 : Txt (w.alloc (.cells #[.int .u8 pk, .int .i64 pn, .string pt] 132)) B r := (heap_alloc_old _ _ hB).trans ht
  have hnB : v.ownBlock ≠ some B := Lib.ownBlock_neF ho.own ht (by decide)
  have hvlt : ∀ k, v.ownBlock = some k → k < w.heap.size := fun k hk => (ho.own.lt k hk).2
  have ho0 : Bv (w.alloc (.cells #[.int .u8 pk, .int .i64 pn, .string pt] 132)) (B + 2) v lo bs := ho.keep (F := fun _ => False) (KeepF.of_below hb0) (fun h => h) (fun _ _ h => h)
  have hkc := (box1 hk).1
  have hke : (r.extract 0 pn.toNat).size ≤ 300000 := by rw [ByteArray.size_extract]; omega
  dsimp only at h0 hn ⊢
  go_enter Tryz.func143, Tryz.ntmps143
  go_wp2_with (first | (go_at_call 140; refine (take_any B r pn _ ht0 h0 hn (by omega)).mono ?_; rintro e w1 ⟨rfl, hw1⟩; have k1 : KeepF (fun k => k = B) (w.alloc (.cells #[.int .u8 pk, .int .i64 pn, .string pt] 132)) w1 := (by rw [hw1]; exact KeepF.set (F := fun k => k = B) (a := ⟨B, 0, none⟩) rfl _); have ht1 : Txt w1 B (r.extract pn.toNat r.size) := (by rw [hw1]; exact box_set ht0); have ho1 := ho0.keep k1 (by omega) (fun k hk e => hnB (by rw [hk]; exact congrArg some e)); clear hw1) | (go_at_call 142; refine (bws_v (B + 2) lo v bs (r.extract 0 pn.toNat) _ ho1 (by omega) (by have := k1.size; simp at this; omega)).mono ?_; rintro e w2 ⟨rfl, ho2, k2⟩))
  go_end0
  refine ⟨rfl, (k2.block B (by have := k1.size; simp at this; omega) (by rintro (h | h); omega; exact hnB h)).trans ht1, ho2, ?_⟩
  exact (hk0.trans (k1.mono (fun k hk => .inl hk))).trans (k2.mono (fun k hk => .inr hk))
set_option maxHeartbeats 2000000 in
set_option maxRecDepth 100000 in
theorem parts4_any (B : Nat) (p : PcV) (bo bi : List Value) (vo vi : Value) (w : World) (ho : Bv w (B + 1) vo B bo) (hi : Bv w (B + 3) vi B bi) (he : bi = []) (hs : p.text.size ≤ 300000) (hl : bo.length ≤ 300000) :
    Calls Tryz.prog 144 #[.agg #[.int .u8 p.kind, .int .i64 p.n, .string p.text], .pointer (some ⟨B + 1, 0, none⟩), .pointer (some ⟨B + 3, 0, none⟩)] w fun e w' => e = .returned (.tuple #[]) ∧ (∃ vo' vi', Bv w' (B + 1) vo' B (bo ++ Lib.strCells p.text) ∧ Bv w' (B + 3) vi' B (bi ++ Lib.strCells p.text) ∧ ∀ k, vi'.ownBlock = some k → vo'.ownBlock ≠ some k) ∧ KeepF (fun k => k = B + 1 ∨ k = B + 3 ∨ vo.ownBlock = some k) w w' := by
  obtain ⟨pk, pn, pt⟩ := p
  have hb0 := (Below.refl w.heap.size w).alloc (Nat.le_refl _) (.cells #[.int .u8 pk, .int .i64 pn, .string pt] 132)
  have hz := heap_alloc_new w (.cells #[.int .u8 pk, .int .i64 pn, .string pt] 132)
  have hlt := hi.lt
  have hk0 : KeepF (fun k => k = B + 1 ∨ k = B + 3 ∨ vo.ownBlock = some k) w (w.alloc (.cells #[.int .u8 pk, .int .i64 pn, .string pt] 132)) := KeepF.of_below hb0
  have ho0 : Bv (w.alloc (.cells #[.int .u8 pk, .int .i64 pn, .string pt] 132)) (B + 1) vo B bo := ho.keep (F := fun _ => False) (KeepF.of_below hb0) (fun h => h) (fun _ _ h => h)
  have hi0 : Bv (w.alloc (.cells #[.int .u8 pk, .int .i64 pn, .string pt] 132)) (B + 3) vi B bi := hi.keep (F := fun _ => False) (KeepF.of_below hb0) (fun h => h) (fun _ _ h => h)
  have hvl : vi = .slice none 0 0 := hi.nil_ he
  have hvo : ∀ k, vo.ownBlock = some k → k < w.heap.size := fun k hk => (ho.own.lt k hk).2
  have hno3 : vo.ownBlock ≠ some (B + 3) := by
    rcases hi.blk with h | h
    · exact Lib.ownBlock_neF ho.own h (by decide)
    · exact Lib.ownBlock_neF ho.own h (by decide)
  subst hvl
  dsimp only at hs ⊢
  go_enter Tryz.func144, Tryz.ntmps144
  go_wp2_with (first | (go_at_call 142; have h3 := hi1; refine (bws_v (B + 3) _ _ bi pt _ (hi1.fresh he w1.heap.size) (by rw [he]; simp; omega) (Nat.le_refl _)).mono ?_; rintro e w2 ⟨rfl, hi2, k2⟩) | (go_at_call 142; refine (bws_v (B + 1) B vo bo pt _ ho0 (by omega) (by simp; omega)).mono ?_; rintro e w1 ⟨rfl, ho1, k1⟩; have hi1 := hi0.keep k1 (by rintro (h | h); omega; exact hno3 h) (fun k hk _ => by simp [Value.ownBlock] at hk); have hz1 := (k1.block w.heap.size (by simp) (by rintro (h | h); omega; exact absurd (hvo _ h) (by omega))).trans hz; obtain ⟨z0, z1, z2⟩ := blk3' hz1))
  go_end0
  obtain ⟨vo', ho1⟩ := ho1
  obtain ⟨vi', hi2⟩ := hi2
  have hno1 : vo'.ownBlock ≠ some (B + 3) := by
    rcases hi1.blk with h | h
    · exact Lib.ownBlock_neF ho1.own h (by decide)
    · exact Lib.ownBlock_neF ho1.own h (by decide)
  refine ⟨rfl, ⟨vo', vi', ho1.keep k2 (by rintro (h | h); omega; simp [Value.ownBlock] at h) (fun k hk => by rintro (h | h); exact hno1 (by rw [hk, h]); simp [Value.ownBlock] at h), hi2.lo (by have := k1.size; simp at this; omega), fun k hk ho => ?_⟩, ?_⟩
  · have h1 := (hi2.own.lt k hk).1
    have h2 := (ho1.own.lt k ho).2
    omega
  · exact (hk0.trans (k1.mono (fun k hk => hk.elim .inl (fun h => .inr (.inr h))))).trans (k2.mono (fun k hk => hk.elim (fun h => .inr (.inl h)) (fun h => by simp [Value.ownBlock] at h)))
end Go.Proofs.YtlealeecmmpckaaGreat
namespace Go.Proofs.YtlealeecmmpckaaGreat
set_option linter.unusedVariables false
set_option linter.unusedSimpArgs false
open Go.RowKit Go.Lib Go.Shelf

set_option maxRecDepth 100000 in
set_option maxHeartbeats 2000000 in
theorem fits_any (s : ByteArray) (a : Option Addr) (c : Nat) (d : List PcV) (w : World) (hr : PRow w a d) (hs : d.length ≤ 1000000) (hc : d.length ≤ c) (hl : lenS d = ((s.size : Int), (lenS d).2.1, 0)) :
    Calls Tryz.prog 105 #[.string s, .slice a d.length c] w fun e w' => e = .returned (.int .i64 0) ∧ Below w.heap.size w w' := by
  have h1 := lengths_any a c d w hr hs hc
  rw [hl] at h1
  have H1 := Lib.hid h1
  clear h1 hl
  go_enter Tryz.func105, Tryz.ntmps105
  go_wp2_with (first | (go_at_call 107; refine H1.out.mono ?_; rintro e w1 ⟨rfl, hB1⟩))
  go_returns
  exact ⟨rfl, hB1⟩
theorem wpList_lookup_one {P : Program} (w : World) {ops : Array Oper} {rest : List Oper} {o : Oper} {a : Act} {Q : Exit → Act → World → Prop}
    (hg : o.guard = none) (m x : Operand) (t : TypeId) (hop : o.op = Op.lookup t m x false) (k e : TypeId) (ht : P.underlying t = some (.map k e)) (q : IntKind) (hk : P.underlying k = some (.int q))
    (b clock : Nat) (es : Array MapEntry) (i : Int) (hb : w.heap[b]? = some (.map es clock)) (hm : a.eval m = .map (some b)) (hx : a.eval x = .int q i) (j : Nat) (val : Value) (hf : Instr.findNow (.int q) (.int q i) es.toList 0 = some (some (j, val)))
    (hK : wpList P ops Q rest (a.put o.dst val) w) : wpList P ops Q (o :: rest) a w := by
  refine wpList_plain hg fun K' hK' => ?_
  have hc : (Instr.checkKey es.isEmpty 10000 k (.int q i)).run P w = .ok () w := MapKept.run_checkKey (k := .int q i) hk (by simp [MapKept.IsKey]) _ 9999
  have hrun : (Instr.lookup t (.map (some b)) (.int q i) false).run P w = .ok val w := by
    simp [Instr.lookup, run_underlying ht, MapKept.run_getObj_map hb, hc, MapKept.run_findKey hk hf, Result.andThen]
  unfold Oper.wp
  simp [execOp, hop, hm, hx, hrun, Result.andThen]
  exact hK' _ _ hK
def paE (B : Nat) : Array MapEntry := #[⟨.int .u8 1, .func (.func 141) #[] #[.pointer (some ⟨B + 1, 0, none⟩), .pointer (some ⟨B + 4, 0, none⟩)], 0⟩, ⟨.int .u8 3, .func (.func 143) #[] #[.pointer (some ⟨B + 2, 0, none⟩), .pointer (some ⟨B + 4, 0, none⟩)], 1⟩, ⟨.int .u8 2, .func (.func 144) #[] #[.pointer (some ⟨B + 1, 0, none⟩), .pointer (some ⟨B + 3, 0, none⟩)], 2⟩]
/-- The blocks of apply.parts in a state. -/
structure PaW (w : World) (B : Nat) (s : PaS) (r : ByteArray) (vo vg vi : Value) : Prop where
  rest : r.data.toList = s.rest
  text : Txt w B r
  out : Bv w (B + 1) vo B (Lib.byteCells s.out)
  gone : Bv w (B + 2) vg B (Lib.byteCells s.gone)
  ins : Bv w (B + 3) vi B (Lib.byteCells s.ins)
  take : Tak w B
  map : w.heap[B + 5]? = some (.map (paE B) 3)
theorem Bv.below {w w' : World} {b lo : Nat} {v : Value} {bs : List Value} (h : Bv w b v lo bs) (hb : Below w.heap.size w w') : Bv w' b v lo bs := h.keep (F := fun _ => False) (KeepF.of_below hb) (fun h => h) (fun _ _ h => h)
theorem PaW.below {w w' : World} {B : Nat} {s : PaS} {r : ByteArray} {vo vg vi : Value} (h : PaW w B s r vo vg vi) (hb : Below w.heap.size w w') : PaW w' B s r vo vg vi :=
  ⟨h.rest, (hb.block _ (Array.getElem?_eq_some_iff.1 h.text).1).trans h.text, h.out.below hb, h.gone.below hb, h.ins.below hb, (hb.block _ (Array.getElem?_eq_some_iff.1 h.take).1).trans h.take, (hb.block _ (Array.getElem?_eq_some_iff.1 h.map).1).trans h.map⟩
/-- Told apart, as long as something is written on. -/
def PaSep (vo vg vi : Value) : Prop := ∀ g, (vg.ownBlock = some g ∨ vi.ownBlock = some g) → vo.ownBlock ≠ some g
theorem own_nil {w : World} {b lo : Nat} {v : Value} {l : List UInt8} (h : Bv w b v lo (Lib.byteCells l)) (hl : l = []) : v.ownBlock = none := by
  rw [h.nil_ (by rw [hl]; rfl)]; rfl
theorem ext_take (r : ByteArray) (n : Nat) : Lib.strCells (r.extract 0 n) = Lib.byteCells (r.data.toList.take n) := by
  rw [Lib.strCells_eq]; congr 1; simp [ByteArray.data_extract]
theorem ext_drop (r : ByteArray) (n : Nat) : (r.extract n r.size).data.toList = r.data.toList.drop n := by
  simp [ByteArray.data_extract]
  exact List.take_of_length_le (by simp)
theorem own_lt {w : World} {b lo : Nat} {v : Value} {bs : List Value} (h : Bv w b v lo bs) : ∀ k, v.ownBlock = some k → lo ≤ k ∧ k < w.heap.size := fun k hk => h.own.lt k hk
theorem own_ty {w : World} {b lo k : Nat} {v : Value} {bs : List Value} {cs : Array Value} {T : TypeId} (h : Bv w b v lo bs) (hk : w.heap[k]? = some (.cells cs T (0, 0))) (hT : T ≠ 5) : v.ownBlock ≠ some k := Lib.ownBlock_neF h.own hk hT
theorem own_bl {w : World} {b b2 lo lo2 : Nat} {v v2 : Value} {bs bs2 : List Value} (h : Bv w b v lo bs) (h2 : Bv w b2 v2 lo2 bs2) : v.ownBlock ≠ some b2 := by
  rcases h2.blk with h3 | h3
  · exact own_ty h h3 (by decide)
  · exact own_ty h h3 (by decide)
theorem own_map {w : World} {b lo k c : Nat} {v : Value} {bs : List Value} {es : Array MapEntry} (h : Bv w b v lo bs) (hk : w.heap[k]? = some (.map es c)) : v.ownBlock ≠ some k := by
  rcases h.own.2 with ⟨rfl, _⟩ | ⟨g, cap, cur, fz, rfl, _, hg, _⟩
  · simp [Value.ownBlock]
  · intro e
    simp only [Value.ownBlock, Option.some.injEq] at e
    subst e
    rw [hk] at hg; cases hg
theorem paOne_split {s : PaS} {p : PcV} {last : Bool} (h : paOne s p last = true) : (0 ≤ p.n ∧ p.n ≤ 100000) ∧ p.text.size ≤ 100000 ∧ s.out.length ≤ 300000 ∧ s.gone.length ≤ 300000 ∧ s.ins.length ≤ 300000 ∧ (p.kind = 2 ∨ (p.kind = 1 ∨ p.kind = 3) ∧ p.n.toNat ≤ s.rest.length) ∧ ((last = true ∧ p.kind = 1) ∨ (s.gone = [] ∧ s.ins = [])) := by
  unfold paOne at h
  simp only [Bool.and_eq_true, Bool.or_eq_true, decide_eq_true_eq, beq_iff_eq, List.isEmpty_iff] at h
  obtain ⟨⟨⟨⟨⟨⟨⟨h1, h2⟩, h3⟩, h4⟩, h5⟩, h6⟩, h7⟩, h8⟩ := h
  exact ⟨⟨h1, h2⟩, h3, h4, h5, h6, h7, h8⟩
/-- A piece that is kept. -/
theorem pa_keep {w w' : World} {B : Nat} {s : PaS} {r : ByteArray} {vo vg vi vo' : Value} {p : PcV} (h : PaW w B s r vo vg vi) (hs : PaSep vo vg vi) (hk : p.kind = 1) (ht : Txt w' B (r.extract p.n.toNat r.size)) (ho : Bv w' (B + 1) vo' B (Lib.byteCells s.out ++ Lib.strCells (r.extract 0 p.n.toNat))) (hkf : KeepF (fun k => k = B ∨ k = B + 1 ∨ vo.ownBlock = some k) w w') :
    PaW w' B (paStep s p) (r.extract p.n.toNat r.size) vo' vg vi := by
  have e : paStep s p = { s with out := s.out ++ s.rest.take p.n.toNat, rest := s.rest.drop p.n.toNat } := by unfold paStep; rw [if_pos hk]
  rw [e]
  rw [ext_take, ← Lib.byteCells_append, h.rest] at ho
  refine ⟨by rw [ext_drop, h.rest], ht, ho, h.gone.keep hkf (by rintro (h' | h' | h'); omega; omega; exact own_bl h.out h.gone h') (fun k hk' => ?_), h.ins.keep hkf (by rintro (h' | h' | h'); omega; omega; exact own_bl h.out h.ins h') (fun k hk' => ?_), (hkf.block _ (Array.getElem?_eq_some_iff.1 h.take).1 (by rintro (h' | h' | h'); omega; omega; exact own_ty h.out h.take (by decide) h')).trans h.take, (hkf.block _ (Array.getElem?_eq_some_iff.1 h.map).1 (by rintro (h' | h' | h'); omega; omega; exact own_map h.out h.map h')).trans h.map⟩
  · rintro (h' | h' | h')
    · exact own_ty h.gone h.text (by decide) (by rw [hk', h'])
    · exact own_bl h.gone h.out (by rw [hk', h'])
    · exact hs k (.inl hk') h'
  · rintro (h' | h' | h')
    · exact own_ty h.ins h.text (by decide) (by rw [hk', h'])
    · exact own_bl h.ins h.out (by rw [hk', h'])
    · exact hs k (.inr hk') h'
/-- A piece that is removed. -/
theorem pa_gone {w w' : World} {B : Nat} {s : PaS} {r : ByteArray} {vo vg vi vg' : Value} {p : PcV} (h : PaW w B s r vo vg vi) (he : s.gone = [] ∧ s.ins = []) (hk : p.kind = 3) (ht : Txt w' B (r.extract p.n.toNat r.size)) (ho : Bv w' (B + 2) vg' w.heap.size (Lib.byteCells s.gone ++ Lib.strCells (r.extract 0 p.n.toNat))) (hBw : B ≤ w.heap.size) (hkf : KeepF (fun k => k = B ∨ k = B + 2 ∨ vg.ownBlock = some k) w w') :
    PaW w' B (paStep s p) (r.extract p.n.toNat r.size) vo vg' vi ∧ PaSep vo vg' vi := by
  have e : paStep s p = { s with gone := s.gone ++ s.rest.take p.n.toNat, rest := s.rest.drop p.n.toNat } := by unfold paStep; rw [if_neg (by omega), if_neg (by omega)]
  have n1 := own_nil h.gone he.1
  have n2 := own_nil h.ins he.2
  rw [e]
  rw [ext_take, ← Lib.byteCells_append, h.rest] at ho
  refine ⟨⟨by rw [ext_drop, h.rest], ht, h.out.keep hkf (by rintro (h' | h' | h'); omega; omega; rw [n1] at h'; cases h') (fun k hk' => ?_), ho.lo hBw, h.ins.keep hkf (by rintro (h' | h' | h'); omega; omega; rw [n1] at h'; cases h') (fun k hk' => by rw [n2] at hk'; cases hk'), (hkf.block _ (Array.getElem?_eq_some_iff.1 h.take).1 (by rintro (h' | h' | h'); omega; omega; rw [n1] at h'; cases h')).trans h.take, (hkf.block _ (Array.getElem?_eq_some_iff.1 h.map).1 (by rintro (h' | h' | h'); omega; omega; rw [n1] at h'; cases h')).trans h.map⟩, ?_⟩
  · rintro (h' | h' | h')
    · exact own_ty h.out h.text (by decide) (by rw [hk', h'])
    · exact own_bl h.out h.gone (by rw [hk', h'])
    · rw [n1] at h'; cases h'
  · rintro g (hg | hg) ho'
    · have := (own_lt ho g hg).1; have := (own_lt h.out g ho').2; omega
    · rw [n2] at hg; cases hg
/-- A piece that is inserted. -/
theorem pa_ins {w w' : World} {B : Nat} {s : PaS} {r : ByteArray} {vo vg vi vo' vi' : Value} {p : PcV} (h : PaW w B s r vo vg vi) (he : s.gone = [] ∧ s.ins = []) (hk : p.kind = 2) (ho : Bv w' (B + 1) vo' B (Lib.byteCells s.out ++ Lib.strCells p.text)) (hi : Bv w' (B + 3) vi' B (Lib.byteCells s.ins ++ Lib.strCells p.text)) (hs : ∀ k, vi'.ownBlock = some k → vo'.ownBlock ≠ some k) (hkf : KeepF (fun k => k = B + 1 ∨ k = B + 3 ∨ vo.ownBlock = some k) w w') :
    PaW w' B (paStep s p) r vo' vg vi' ∧ PaSep vo' vg vi' := by
  have e : paStep s p = { s with out := s.out ++ p.text.data.toList, ins := s.ins ++ p.text.data.toList } := by unfold paStep; rw [if_neg (by omega), if_pos hk]
  have n1 := own_nil h.gone he.1
  rw [e]
  rw [Lib.strCells_eq, ← Lib.byteCells_append] at ho hi
  refine ⟨⟨h.rest, (hkf.block _ (Array.getElem?_eq_some_iff.1 h.text).1 (by rintro (h' | h' | h'); omega; omega; exact own_ty h.out h.text (by decide) h')).trans h.text, ho, h.gone.keep hkf (by rintro (h' | h' | h'); omega; omega; exact own_bl h.out h.gone h') (fun k hk' => by rw [n1] at hk'; cases hk'), hi, (hkf.block _ (Array.getElem?_eq_some_iff.1 h.take).1 (by rintro (h' | h' | h'); omega; omega; exact own_ty h.out h.take (by decide) h')).trans h.take, (hkf.block _ (Array.getElem?_eq_some_iff.1 h.map).1 (by rintro (h' | h' | h'); omega; omega; exact own_map h.out h.map h')).trans h.map⟩, ?_⟩
  rintro g (hg | hg)
  · rw [n1] at hg; cases hg
  · exact hs g hg
theorem sep_nil {w : World} {B : Nat} {s : PaS} {r : ByteArray} {vo vg vi vo' : Value} (h : PaW w B s r vo vg vi) (he : s.gone = [] ∧ s.ins = []) : PaSep vo' vg vi := by
  rintro g (hg | hg)
  · rw [own_nil h.gone he.1] at hg; cases hg
  · rw [own_nil h.ins he.2] at hg; cases hg
end Go.Proofs.YtlealeecmmpckaaGreat
namespace Go.Proofs.YtlealeecmmpckaaGreat
set_option linter.unusedVariables false
set_option linter.unusedSimpArgs false
open Go.RowKit Go.Lib Go.Shelf

/-- A builder that can be read. -/
def Rb (w : World) (lo b : Nat) (l : List UInt8) : Prop :=
  ∃ p v, w.heap[b]? = some (.cells #[p, v] 175 (0, 0)) ∧ ((l = [] ∧ v = .slice none 0 0) ∨ (l ≠ [] ∧ ∃ g cap m, v = .slice (some ⟨g, 0, none⟩) l.length cap ∧ lo ≤ g ∧ l.length ≤ cap ∧ w.shape? g = some (5, m) ∧ l.length ≤ m ∧ ∀ (j : Nat) (x : UInt8), l[j]? = some x → w.cell? ((⟨g, 0, none⟩ : Addr).add j) = some (.int .u8 x.toNat)))
theorem Bv.rb {w : World} {b lo : Nat} {v : Value} {l : List UInt8} (h : Bv w b v lo (Lib.byteCells l)) : Rb w lo b l := by
  obtain ⟨p, hp⟩ : ∃ p, w.heap[b]? = some (.cells #[p, v] 175 (0, 0)) := h.blk.elim (fun h => ⟨_, h⟩) (fun h => ⟨_, h⟩)
  refine ⟨p, v, hp, ?_⟩
  by_cases hl : l = []
  · exact .inl ⟨hl, h.nil_ (by rw [hl]; rfl)⟩
  · have ho := h.own
    rw [Lib.byteCells_length] at ho
    refine .inr ⟨hl, ?_⟩
    have ho2 := ho.2
    rcases ho2 with ⟨_, h0⟩ | ⟨g, cap, cur, fz, rfl, hb, hg, hf, hc, hm, hs, ht⟩
    · exact absurd (List.eq_nil_of_length_eq_zero h0) hl
    · exact ⟨g, cap, cur.size, rfl, hb, hc, by simp [World.shape?, hg], by omega, fun j x hx => ho.cells (g := g) rfl j (.int .u8 x.toNat) (by simp [Lib.byteCells, hx])⟩
theorem freeze_heap (w : World) (a : Addr) (n k : Nat) : (w.freeze a n).heap[k]? = w.heap[k]? ∨ ∃ c e f f', w.heap[k]? = some (.cells c e f) ∧ (w.freeze a n).heap[k]? = some (.cells c e f') := by
  unfold World.freeze
  split
  · exact .inl rfl
  · simp only [Array.getElem?_modify]
    split
    · cases h2 : w.heap[k]? with
      | none => exact .inl rfl
      | some o =>
        cases o with
        | cells c e f => obtain ⟨lo, hi⟩ := f; exact .inr ⟨c, e, _, _, rfl, rfl⟩
        | _ => exact .inl rfl
    · exact .inl rfl
theorem freeze_cell (w : World) (a p : Addr) (n : Nat) : (w.freeze a n).cell? p = w.cell? p := by
  unfold World.cell?
  rcases freeze_heap w a n p.block with h | ⟨c, e, f, f', h1, h2⟩
  · rw [h]
  · rw [h1, h2]
theorem freeze_shape (w : World) (a : Addr) (k n : Nat) : (w.freeze a n).shape? k = w.shape? k := by
  unfold World.shape?
  rcases freeze_heap w a n k with h | ⟨c, e, f, f', h1, h2⟩
  · rw [h]
  · rw [h1, h2]
theorem freeze_block (w : World) (a : Addr) (k n : Nat) (h : k ≠ a.block) : (w.freeze a n).heap[k]? = w.heap[k]? := by
  unfold World.freeze
  split
  · rfl
  · simp only [Array.getElem?_modify]
    rw [if_neg (fun e => h e.symm)]
theorem Rb.freeze {w : World} {lo b g m n : Nat} {l : List UInt8} (h : Rb w lo b l) (hs : w.shape? g = some (5, m)) : Rb (w.drew.freeze ⟨g, 0, none⟩ n) lo b l := by
  obtain ⟨p, v, hb, hr⟩ := h
  have hne : b ≠ g := by
    rintro rfl
    have hb2 : w.heap[b]? = some (.cells #[p, v] 175 (0, 0)) := hb
    simp [World.shape?, hb2] at hs
  refine ⟨p, v, (freeze_block _ _ _ _ hne).trans hb, ?_⟩
  rcases hr with hr | ⟨h1, g2, cap, m2, h2, h3, h4, h5, h6, h7⟩
  · exact .inl hr
  · exact .inr ⟨h1, g2, cap, m2, h2, h3, h4, (freeze_shape _ _ _ _).trans h5, h6, fun j x hx => (freeze_cell _ _ _ _).trans (h7 j x hx)⟩
theorem Rb.drew {w : World} {lo b : Nat} {l : List UInt8} (h : Rb w lo b l) : Rb w.drew lo b l := h
theorem bstr_rb (lo b : Nat) (l : List UInt8) (w : World) (h : Rb w lo b l) (hl : l.length ≤ 1000000) :
    Calls Tryz.prog 145 #[.pointer (some ⟨b, 0, none⟩)] w fun e w' => e = .returned (.string ⟨l.toArray⟩) ∧ (∀ b2 l2, Rb w lo b2 l2 → Rb w' lo b2 l2) ∧ Below lo w w' := by
  obtain ⟨p, v, hb, hr⟩ := h
  rcases hr with ⟨rfl, rfl⟩ | ⟨h1, g, cap, m, rfl, h3, h4, h5, h6, h7⟩
  · refine (bstr_nil b p w hb).mono ?_
    rintro e w' ⟨rfl, rfl⟩
    exact ⟨rfl, fun b2 l2 h => h.drew, Below.drew (Below.refl _ w)⟩
  · refine (bstr_row b g cap m l p w hb h1 h4 hl h5 h6 h7).mono ?_
    rintro e w' ⟨rfl, rfl⟩
    exact ⟨rfl, fun b2 l2 h => h.freeze h5, Lib.below_freeze (Below.drew (Below.refl _ w)) (p := ⟨g, 0, none⟩) h3 _⟩
theorem paF_rest (s : List UInt8) : ∀ (d : List PcV), (paF s d).rest.length ≤ s.length := by
  have key : ∀ (d : List PcV) (st : PaS), (d.foldl paStep st).rest.length ≤ st.rest.length := by
    intro d
    induction d with
    | nil => intro st; exact Nat.le_refl _
    | cons p d ih =>
      intro st
      rw [List.foldl_cons]
      refine Nat.le_trans (ih _) ?_
      unfold paStep
      (repeat' split) <;> simp
  intro d
  exact key d _
theorem paF_len (N : Nat) : ∀ (d : List PcV) (st : PaS), st.rest.length ≤ N → (∀ p ∈ d, p.text.size ≤ N) → (d.foldl paStep st).out.length ≤ st.out.length + d.length * N ∧ (d.foldl paStep st).gone.length ≤ st.gone.length + d.length * N ∧ (d.foldl paStep st).ins.length ≤ st.ins.length + d.length * N
  | [], st, _, _ => by simp
  | p :: d, st, h1, h2 => by
    have hp := h2 p (by simp)
    have ht : p.text.data.toList.length = p.text.size := Array.length_toList
    have hr : (paStep st p).rest.length ≤ N := by unfold paStep; (repeat' split) <;> simp <;> omega
    have h3 : (paStep st p).out.length ≤ st.out.length + N ∧ (paStep st p).gone.length ≤ st.gone.length + N ∧ (paStep st p).ins.length ≤ st.ins.length + N := by
      unfold paStep; (repeat' split) <;> simp only [List.length_append, List.length_take] <;> omega
    obtain ⟨i1, i2, i3⟩ := paF_len N d (paStep st p) hr (fun q hq => h2 q (by simp [hq]))
    rw [List.foldl_cons, List.length_cons, Nat.succ_mul]
    omega
theorem below_keepF {F : Nat → Prop} {B : Nat} {w0 w w' : World} (h : Below B w0 w) (hk : KeepF F w w') (hF : ∀ k, F k → B ≤ k) (hB : B ≤ w.heap.size) : Below B w0 w' :=
  ⟨hk.os.trans h.os, hk.tape.trans h.tape, hk.output.trans h.output, Nat.le_trans h.size hk.size, fun k hk' => (hk.block k (by omega) (fun hf => absurd (hF k hf) (by omega))).trans (h.block k hk')⟩
/-- A state of the loop. -/
structure PaI (w : World) (wr : World) (s : ByteArray) (d : List PcV) (k : Nat) (r : ByteArray) (vo vg vi : Value) : Prop where
  pa : PaW wr w.heap.size (paF s.data.toList (d.take k)) r vo vg vi
  sep : k < d.length → PaSep vo vg vi
  bl : Below w.heap.size w wr
theorem paw_start {w W : World} {s : ByteArray} {es : Array MapEntry} (hm : W.heap[w.heap.size + 5]? = some (.map es 3)) (he : es = paE w.heap.size)
    (hB : Below (w.heap.size + 5) (((((w.alloc (.cells #[.string s] 9)).alloc (.cells #[.pointer none, .slice none 0 0] 175)).alloc (.cells #[.pointer none, .slice none 0 0] 175)).alloc (.cells #[.pointer none, .slice none 0 0] 175)).alloc (.cells #[.func (.func 140) #[] #[.pointer (some ⟨w.heap.size, 0, none⟩)]] 176)) W) :
    PaW W w.heap.size ⟨[], [], [], s.data.toList⟩ s (.slice none 0 0) (.slice none 0 0) (.slice none 0 0) := by
  have b0 : W.heap[w.heap.size]? = some (.cells #[.string s] 9 (0, 0)) := by
    rw [hB.block _ (by omega), heap_alloc_old _ _ (by simp [World.size_alloc]; try omega), heap_alloc_old _ _ (by simp [World.size_alloc]; try omega), heap_alloc_old _ _ (by simp [World.size_alloc]; try omega), heap_alloc_old _ _ (by simp [World.size_alloc]; try omega), heap_alloc_new]
  have b1 : W.heap[w.heap.size + 1]? = some (.cells #[.pointer none, .slice none 0 0] 175 (0, 0)) := by
    rw [hB.block _ (by omega), heap_alloc_old _ _ (by simp; try omega), heap_alloc_old _ _ (by simp; try omega), heap_alloc_old _ _ (by simp)]
    have := heap_alloc_new (w.alloc (.cells #[.string s] 9)) (.cells #[.pointer none, .slice none 0 0] 175)
    rwa [World.size_alloc] at this
  have b2 : W.heap[w.heap.size + 2]? = some (.cells #[.pointer none, .slice none 0 0] 175 (0, 0)) := by
    rw [hB.block _ (by omega), heap_alloc_old _ _ (by simp; try omega), heap_alloc_old _ _ (by simp)]
    have := heap_alloc_new ((w.alloc (.cells #[.string s] 9)).alloc (.cells #[.pointer none, .slice none 0 0] 175)) (.cells #[.pointer none, .slice none 0 0] 175)
    rwa [World.size_alloc, World.size_alloc] at this
  have b3 : W.heap[w.heap.size + 3]? = some (.cells #[.pointer none, .slice none 0 0] 175 (0, 0)) := by
    rw [hB.block _ (by omega), heap_alloc_old _ _ (by simp)]
    have := heap_alloc_new (((w.alloc (.cells #[.string s] 9)).alloc (.cells #[.pointer none, .slice none 0 0] 175)).alloc (.cells #[.pointer none, .slice none 0 0] 175)) (.cells #[.pointer none, .slice none 0 0] 175)
    rwa [World.size_alloc, World.size_alloc, World.size_alloc] at this
  have b4 : Tak W w.heap.size := by
    show W.heap[w.heap.size + 4]? = _
    rw [hB.block _ (by omega)]
    have := heap_alloc_new ((((w.alloc (.cells #[.string s] 9)).alloc (.cells #[.pointer none, .slice none 0 0] 175)).alloc (.cells #[.pointer none, .slice none 0 0] 175)).alloc (.cells #[.pointer none, .slice none 0 0] 175)) (.cells #[.func (.func 140) #[] #[.pointer (some ⟨w.heap.size, 0, none⟩)]] 176)
    rwa [World.size_alloc, World.size_alloc, World.size_alloc, World.size_alloc] at this
  exact ⟨rfl, b0, ⟨.inl b1, World.ownsRowF_nil _ _ _ _, fun _ => rfl⟩, ⟨.inl b2, World.ownsRowF_nil _ _ _ _, fun _ => rfl⟩, ⟨.inl b3, World.ownsRowF_nil _ _ _ _, fun _ => rfl⟩, b4, by rw [← he]; exact hm⟩
set_option maxRecDepth 100000 in
set_option maxHeartbeats 4000000 in
theorem parts_any (s : ByteArray) (a : Option Addr) (c : Nat) (d : List PcV) (w : World) (hr : PRow w a d) (hc : d.length ≤ c) (hok : paAll d ⟨[], [], [], s.data.toList⟩ = true) (hlen : d.length ≤ 4) (hs : s.size ≤ 100000) :
    Calls Tryz.prog 106 #[.string s, .slice a d.length c] w fun e w' => ∃ x y, e = .returned (.tuple #[.string ⟨(paF s.data.toList d).out.toArray⟩, .string x, .string y]) ∧ Below w.heap.size w w' := by
  obtain ⟨W5, hW5⟩ : ∃ W5, W5 = (((((w.alloc (.cells #[.string s] 9)).alloc (.cells #[.pointer none, .slice none 0 0] 175)).alloc (.cells #[.pointer none, .slice none 0 0] 175)).alloc (.cells #[.pointer none, .slice none 0 0] 175)).alloc (.cells #[.func (.func 140) #[] #[.pointer (some ⟨w.heap.size, 0, none⟩)]] 176)) := ⟨_, rfl⟩
  have hsz : W5.heap.size = w.heap.size + 1 + 1 + 1 + 1 + 1 := by rw [hW5]; simp
  have hBw : Below w.heap.size w W5 := by rw [hW5]; exact (((((Below.refl _ w).alloc (Nat.le_refl _) _).alloc (by simp) _).alloc (by simp; try omega) _).alloc (by simp; try omega) _).alloc (by simp; try omega) _
  have hmb := heap_alloc_new W5 (.map #[] 0)
  rw [hsz] at hmb
  have hB := (Below.refl (w.heap.size + 5) W5).alloc (by omega) (.map #[] 0)
  have HBw := Lib.hid hBw
  have hlens : (paF s.data.toList d).out.length ≤ 1000000 ∧ (paF s.data.toList d).gone.length ≤ 1000000 ∧ (paF s.data.toList d).ins.length ≤ 1000000 := by
    have h := paF_len 100000 d ⟨[], [], [], s.data.toList⟩ (by show s.data.toList.length ≤ _; rw [Array.length_toList]; exact hs) (fun p hp => by
      obtain ⟨k, hk⟩ := List.getElem?_of_mem hp
      exact (paOne_split (paAll_get hok hk)).2.1)
    have h4 : d.length * 100000 ≤ 400000 := by omega
    obtain ⟨a1, a2, a3⟩ := h
    refine ⟨Nat.le_trans a1 ?_, Nat.le_trans a2 ?_, Nat.le_trans a3 ?_⟩ <;> simp only [List.length_nil] <;> omega
  have HL := Lib.hid hlens
  clear hBw hsz hlens
  subst hW5
  go_enter Tryz.func106, Tryz.ntmps106
  go_wp2_with (first | (refine wpList_makeMap_lit _ rfl _ rfl ?_) | (refine wpList_insert_lit _ rfl _ _ _ _ rfl _ _ Tryz.underlying181 _ Tryz.underlying5 _ _ _ _ hmb rfl rfl _ rfl (by rfl) ?_; intro v hm; replace hB := below_mapW hB (by omega) hm; replace hmb := hm.blk; clear hm))
  have hP0 := paw_start (s := s) hmb rfl hB
  have hBl : Below w.heap.size w _ := HBw.out.trans (hB.mono (by omega))
  clear hB hmb HBw
  go_loopw [13, 22, 23, 24, 25, 26, 27, 28, 29, 30, 31, 32] (fun x13 i x23 x24 x25 x26 x27 x28 x29 x30 x31 x32 wr => ∃ (k : Nat) (r : ByteArray) (vo vg vi : Value), i = .int .i64 k ∧ k ≤ d.length ∧ PaI w wr s d k r vo vg vi) (fun x13 i x23 x24 x25 x26 x27 x28 x29 x30 x31 x32 wr => d.length - (intOf i).toNat)
  case atStart => exact ⟨0, s, _, _, _, rfl, by omega, hP0, fun _ => by rintro g (h | h) <;> simp [Value.ownBlock] at h, hBl⟩
  case round =>
    clear hP0 hBl
    obtain ⟨k, r, vo, vg, vi, rfl, hk, hI⟩ := hrel
    by_cases hlt : k < d.length
    · have hx := List.getElem?_eq_getElem hlt
      generalize d[k] = p at hx
      have hone := paOne_split (paAll_get hok hx)
      have hnx := paF_take (s := s.data.toList) hx
      have hrest := paF_rest s.data.toList (d.take k)
      have hpa := hI.pa
      have hsep := hI.sep hlt
      have hbl := hI.bl
      change (0 ≤ p.n ∧ p.n ≤ 100000) ∧ p.text.size ≤ 100000 ∧ (paF s.data.toList (d.take k)).out.length ≤ 300000 ∧ (paF s.data.toList (d.take k)).gone.length ≤ 300000 ∧ (paF s.data.toList (d.take k)).ins.length ≤ 300000 ∧ (p.kind = 2 ∨ (p.kind = 1 ∨ p.kind = 3) ∧ p.n.toNat ≤ (paF s.data.toList (d.take k)).rest.length) ∧ ((decide (k + 1 = d.length) = true ∧ p.kind = 1) ∨ ((paF s.data.toList (d.take k)).gone = [] ∧ (paF s.data.toList (d.take k)).ins = [])) at hone
      generalize paF s.data.toList (d.take k) = S at hone hnx hrest hpa
      obtain ⟨⟨hn0, hn1⟩, htx, ho1, ho2, ho3, hkd, hlast⟩ := hone
      have hrs : r.size = S.rest.length := by rw [← hpa.rest]; exact Array.length_toList.symm
      have hss : s.data.toList.length = s.size := Array.length_toList
      have hrz : r.size ≤ 300000 := by omega
      rcases hr.on hbl with ⟨_, h2⟩ | ⟨b, off, rfl, hb, hcell⟩
      · rw [h2] at hlt; simp at hlt
      have c0 : wr.cell? ⟨b, off + k * 3, none⟩ = some (.int .u8 p.kind) := hcell k p hx 0 _ rfl
      have c1 : wr.cell? ⟨b, off + k * 3 + 1, none⟩ = some (.int .i64 p.n) := hcell k p hx 1 _ rfl
      have c2 : wr.cell? ⟨b, off + k * 3 + 2, none⟩ = some (.string p.text) := hcell k p hx 2 _ rfl
      have hsz := hbl.size
      have hb1 := (Below.refl wr.heap.size wr).alloc (Nat.le_refl _) (.cells #[.int .u8 p.kind, .int .i64 p.n, .string p.text] 132)
      have hP1 := hpa.below hb1
      have hm1 := hP1.map
      have hbl1 := hbl.trans (hb1.mono hsz)
      have hss1 : (wr.alloc (.cells #[.int .u8 p.kind, .int .i64 p.n, .string p.text] 132)).heap.size = wr.heap.size + 1 := by simp
      clear hI hpa hcell hok hr hbl hb1
      have HNX := Lib.hid hnx
      have HLA := Lib.hid hlast
      clear hnx hlast hss
      have hown : ∀ v lo bs b', Bv wr b' v lo bs → True := fun _ _ _ _ _ => trivial
      clear hown
      have kO := fun k hk => (own_lt hP1.out k hk).1
      have kG := fun k hk => (own_lt hP1.gone k hk).1
      rcases hkd with hk2 | ⟨hk1 | hk3, hfit⟩
      · obtain ⟨pk, pn, pt⟩ := p
        obtain rfl : pk = 2 := hk2
        have he := HLA.out.resolve_left (fun h => by have := h.2; dsimp only at this; omega)
        have HE := Lib.hid he
        clear he
        go_wp2_with (first | (refine wpList_lookup_one _ rfl _ _ _ rfl _ _ Tryz.underlying181 _ Tryz.underlying5 _ _ _ _ hm1 rfl rfl _ _ (by rfl) ?_) | (go_at_call 144; refine (parts4_any w.heap.size ⟨2, pn, pt⟩ _ _ _ _ _ hP1.out hP1.ins (by rw [HE.out.2]; rfl) (by dsimp only at htx ⊢; omega) (by rw [Lib.byteCells_length]; exact ho1)).mono ?_; rintro e w2 ⟨rfl, ⟨vo', vi', hq1, hq2, hq3⟩, hkf⟩; obtain ⟨hP2, hS2⟩ := pa_ins hP1 HE.out rfl hq1 hq2 hq3 hkf; have hbl2 := below_keepF hbl1 hkf (by rintro k (rfl | rfl | hk); omega; omega; exact kO k hk) (by omega)))
        go_roundw
        case rel => exact ⟨k + 1, r, vo', vg, vi', by go_num, by omega, by rw [HNX.out]; exact hP2, fun _ => hS2, hbl2⟩
        case measure => simp [intOf]; omega
      · obtain ⟨pk, pn, pt⟩ := p
        obtain rfl : pk = 1 := hk1
        dsimp only at hn0 hn1 hfit
        go_wp2_with (first | (refine wpList_lookup_one _ rfl _ _ _ rfl _ _ Tryz.underlying181 _ Tryz.underlying5 _ _ _ _ hm1 rfl rfl _ _ (by rfl) ?_) | (go_at_call 141; refine (parts2_any w.heap.size w.heap.size ⟨1, pn, pt⟩ r _ _ _ hP1.text hP1.take hP1.out (by omega) hn0 (by dsimp only; omega) (by omega) (by rw [Lib.byteCells_length]; exact ho1)).mono ?_; rintro e w2 ⟨rfl, hq1, ⟨vo', hq2⟩, hkf⟩; have hP2 := pa_keep hP1 hsep rfl hq1 hq2 hkf; have hbl2 := below_keepF hbl1 hkf (by rintro k (rfl | rfl | hk); omega; omega; exact kO k hk) (by omega)))
        go_roundw
        case rel =>
          exact ⟨k + 1, _, vo', vg, vi, by go_num, by omega, by rw [HNX.out]; exact hP2, fun hl => by
            rcases HLA.out with ⟨h1, _⟩ | he
            · have := of_decide_eq_true h1; omega
            · exact sep_nil hP1 he, hbl2⟩
        case measure => simp [intOf]; omega
      · obtain ⟨pk, pn, pt⟩ := p
        obtain rfl : pk = 3 := hk3
        dsimp only at hn0 hn1 hfit
        have he := HLA.out.resolve_left (fun h => by have := h.2; dsimp only at this; omega)
        have HE := Lib.hid he
        clear he
        go_wp2_with (first | (refine wpList_lookup_one _ rfl _ _ _ rfl _ _ Tryz.underlying181 _ Tryz.underlying5 _ _ _ _ hm1 rfl rfl _ _ (by rfl) ?_) | (go_at_call 143; refine (parts3_any w.heap.size _ ⟨3, pn, pt⟩ r _ _ _ hP1.text hP1.take (hP1.gone.fresh (by rw [HE.out.1]; rfl) _) (Nat.le_refl _) hn0 (by dsimp only; omega) (by omega) (by rw [Lib.byteCells_length]; exact ho2)).mono ?_; rintro e w2 ⟨rfl, hq1, ⟨vg', hq2⟩, hkf⟩; obtain ⟨hP2, hS2⟩ := pa_gone hP1 HE.out rfl hq1 hq2 (by omega) hkf; have hbl2 := below_keepF hbl1 hkf (by rintro k (rfl | rfl | hk); omega; omega; exact kG k hk) (by omega)))
        go_roundw
        case rel => exact ⟨k + 1, _, vo, vg', vi, by go_num, by omega, by rw [HNX.out]; exact hP2, fun _ => hS2, hbl2⟩
        case measure => simp [intOf]; omega
    · obtain rfl : k = d.length := by omega
      have hP := hI.pa
      have hbl := hI.bl
      rw [List.take_length] at hP
      have r1 := hP.out.rb
      have r2 := hP.gone.rb
      have r3 := hP.ins.rb
      have hsz := hbl.size
      obtain ⟨l1, l2, l3⟩ := HL.out
      clear hP hI HL hok
      obtain ⟨xo, hxo⟩ : ∃ xo, (paF s.data.toList d).out = xo := ⟨_, rfl⟩
      rw [hxo] at r1 l1
      have HXO := Lib.hid hxo
      clear hxo
      generalize (paF s.data.toList d).gone = xg at r2 l2
      generalize (paF s.data.toList d).ins = xi at r3 l3
      go_wp2_with (first | (go_at_call 145; have h2 := q2; refine (bstr_rb w.heap.size (w.heap.size + 3) xi _ q2 l3).mono ?_; rintro e w3 ⟨rfl, _, hb3⟩) | (go_at_call 145; have h1 := q1; refine (bstr_rb w.heap.size (w.heap.size + 2) xg _ q1 l2).mono ?_; rintro e w2 ⟨rfl, hk2, hb2⟩; have q2 := hk2 _ _ (hk1 _ _ r3)) | (go_at_call 145; refine (bstr_rb w.heap.size (w.heap.size + 1) xo _ r1 l1).mono ?_; rintro e w1 ⟨rfl, hk1, hb1⟩; have q1 := hk1 _ _ r2))
      go_returns
      exact ⟨⟨xg.toArray⟩, ⟨xi.toArray⟩, by rw [HXO.out]; rfl, ((hbl.trans hb1).trans hb2).trans hb3⟩
set_option maxRecDepth 100000 in
set_option maxHeartbeats 2000000 in
theorem apply_any (s : ByteArray) (at_ n : Int) (x : ByteArray) (a : Option Addr) (c : Nat) (w : World) (hrep : RepOK s.size at_ n x) (hr : PRow w a (repD s.size at_ n x)) (hc : (repD s.size at_ n x).length ≤ c) :
    Calls Tryz.prog 64 #[.string s, .slice a (repD s.size at_ n x).length c] w fun e w' => e = .returned (.tuple #[.string (repT s at_ n x), .int .i64 0]) ∧ Below w.heap.size w w' := by
  obtain ⟨_, _, _, hlen⟩ := rep_ok hrep
  obtain ⟨hpa, hout⟩ := rep_pa s at_ n x hrep
  have hl4 := repD_len s.size at_ n x
  have hsz : s.size ≤ 100000 := by have := hrep.2.2.2.1; omega
  have hf := fits_any s a c (repD s.size at_ n x) w hr (by omega) hc (by rw [hlen])
  have hp := fun W (hW : PRow W a (repD s.size at_ n x)) => parts_any s a c (repD s.size at_ n x) W hW hc hpa hl4 hsz
  have he : (⟨(paF s.data.toList (repD s.size at_ n x)).out.toArray⟩ : ByteArray) = repT s at_ n x := by rw [hout]
  rw [he] at hp
  have HF := Lib.hid hf; have HP := Lib.hid hp
  clear hf hp he hout hpa hlen
  generalize repD s.size at_ n x = D at *
  go_enter Tryz.func64, Tryz.ntmps64
  go_wp2_with (first | (go_at_call 105; refine HF.out.mono ?_; rintro e w1 ⟨rfl, hB1⟩) | (go_at_call 106; refine (HP.out _ (hr.on hB1)).mono ?_; rintro e w2 ⟨x1, x2, rfl, hB2⟩))
  go_returns
  exact ⟨rfl, hB1.trans (hB2.mono hB1.size)⟩
end Go.Proofs.YtlealeecmmpckaaGreat
namespace Go.Proofs.YtlealeecmmpckaaGreat
set_option linter.unusedVariables false
set_option linter.unusedSimpArgs false
open Go.RowKit Go.Lib Go.Shelf

/-- A short delta of small pieces. -/
def DOK (d : List PcV) : Prop := d.length ≤ 4 ∧ ∀ p ∈ d, pcP p ∧ p.n ≤ 100000 ∧ p.text.size ≤ 100000
def sumN (d : List PcV) : Int := d.foldl (fun s p => s + p.n) 0
def sumO (d : List PcV) : Int := d.foldl (fun s p => s + p.text.size + if p.kind = 1 then p.n else 0) 0
theorem sumN_take {d : List PcV} {k : Nat} {p : PcV} (h : d[k]? = some p) : sumN (d.take (k + 1)) = sumN (d.take k) + p.n := by
  unfold sumN; rw [List.take_add_one, h, Option.toList_some, List.foldl_append]; rfl
theorem sumO_take {d : List PcV} {k : Nat} {p : PcV} (h : d[k]? = some p) : sumO (d.take (k + 1)) = sumO (d.take k) + p.text.size + if p.kind = 1 then p.n else 0 := by
  unfold sumO; rw [List.take_add_one, h, Option.toList_some, List.foldl_append]; rfl
theorem pc_bounds {p : PcV} (h : pcP p) : 0 ≤ p.n ∧ (p.kind = 1 ∨ p.kind = 2 ∨ p.kind = 3) := by unfold pcP at h; omega
theorem sum_bounds {d : List PcV} (h : DOK d) : ∀ k, k ≤ d.length → (0 ≤ sumN (d.take k) ∧ sumN (d.take k) ≤ k * 100000) ∧ (0 ≤ sumO (d.take k) ∧ sumO (d.take k) ≤ k * 200000)
  | 0, _ => by simp [sumN, sumO]
  | k + 1, hk => by
    have hx := List.getElem?_eq_getElem (show k < d.length by omega)
    generalize d[k] = p at hx
    obtain ⟨h1, h2, h3⟩ := h.2 p (List.mem_of_getElem? hx)
    obtain ⟨h4, h5⟩ := pc_bounds h1
    have ih := sum_bounds h k (by omega)
    rw [sumN_take hx, sumO_take hx]
    split <;> omega
/-- The cells of a piece in a row. -/
theorem pc_at {w : World} {b off k : Nat} {d : List PcV} {p : PcV} (h : ∀ (k : Nat) (p : PcV), d[k]? = some p → ∀ (i : Nat) (u : Value), (pcL p)[i]? = some u → w.cell? ⟨b, off + (k * 3 + i), none⟩ = some u) (hx : d[k]? = some p) :
    w.cell? ⟨b, off + k * 3, none⟩ = some (.int .u8 p.kind) ∧ w.cell? ⟨b, off + k * 3 + 1, none⟩ = some (.int .i64 p.n) ∧ w.cell? ⟨b, off + k * 3 + 2, none⟩ = some (.string p.text) :=
  ⟨h k p hx 0 _ rfl, h k p hx 1 _ rfl, h k p hx 2 _ rfl⟩
set_option maxRecDepth 100000 in
set_option maxHeartbeats 1000000 in
theorem refPiece_ok (p : PcV) (w : World) (h : pcP p) : Calls Tryz.prog 176 #[.agg #[.int .u8 p.kind, .int .i64 p.n, .string p.text]] w fun e w' => e = .returned (.bool true) ∧ Below w.heap.size w w' := by
  obtain ⟨k, n, t⟩ := p
  have hB0 := (Below.refl w.heap.size w).alloc (Nat.le_refl _) (.cells #[.int .u8 k, .int .i64 n, .string t] 132)
  unfold pcP at h
  dsimp only at h ⊢
  rcases h with ⟨hk, hn, ht⟩ | ⟨hk, hn, ht⟩
  · have e1 : t.toList.isEmpty = true := by rw [te2]; exact ht
    have d1 : decide (1 ≤ n) = true := by simpa using hn
    have d2 : t.toList = [] := List.isEmpty_iff.1 e1
    rcases hk with rfl | rfl
    · go_enter Tryz.func176, Tryz.ntmps176
      go_wp2
      go_returns
      exact ⟨rfl, hB0⟩
    · go_enter Tryz.func176, Tryz.ntmps176
      go_wp2
      go_returns
      exact ⟨rfl, hB0⟩
  · subst hk; subst hn
    have e1 : t.toList.isEmpty = false := by rw [te3]; omega
    go_enter Tryz.func176, Tryz.ntmps176
    go_wp2
    go_returns
    exact ⟨rfl, hB0⟩
def RcI (w : World) (ad : Option Addr) (len c : Nat) (a : Act) (wr : World) : Prop :=
  ∃ (k : Nat) (x y : Int) (u : Nat → Value), a = { tmps := #[.slice ad len c, u 1, u 2, .int .i64 x, .int .i64 y, .int .i64 k, u 6, u 7, u 8, u 9, u 10, u 11, u 12, u 13, u 14, u 15, u 16, u 17, u 18, u 19, u 20, u 21, u 22, u 23, u 24, u 25, u 26, u 27, u 28, u 29, u 30, u 31, u 32, u 33, u 34, u 35, u 36, u 37, u 38, u 39, u 40, u 41, u 42, u 43, u 44, u 45, u 46, u 47, u 48, u 49, u 50, u 51, u 52, u 53, u 54, u 55, u 56, u 57, u 58, u 59, u 60, u 61, u 62, u 63, u 64], defers := [] } ∧ k ≤ len ∧ (0 ≤ x ∧ x ≤ k * 100000) ∧ (0 ≤ y ∧ y ≤ k * 200000) ∧ Below w.heap.size w wr
theorem RcI.intro {w : World} {ad : Option Addr} {len c : Nat} {a : Act} {wr : World} (k : Nat) (x y : Int) (h : a = { tmps := #[.slice ad len c, a.tmps.getD 1 undef, a.tmps.getD 2 undef, .int .i64 x, .int .i64 y, .int .i64 k, a.tmps.getD 6 undef, a.tmps.getD 7 undef, a.tmps.getD 8 undef, a.tmps.getD 9 undef, a.tmps.getD 10 undef, a.tmps.getD 11 undef, a.tmps.getD 12 undef, a.tmps.getD 13 undef, a.tmps.getD 14 undef, a.tmps.getD 15 undef, a.tmps.getD 16 undef, a.tmps.getD 17 undef, a.tmps.getD 18 undef, a.tmps.getD 19 undef, a.tmps.getD 20 undef, a.tmps.getD 21 undef, a.tmps.getD 22 undef, a.tmps.getD 23 undef, a.tmps.getD 24 undef, a.tmps.getD 25 undef, a.tmps.getD 26 undef, a.tmps.getD 27 undef, a.tmps.getD 28 undef, a.tmps.getD 29 undef, a.tmps.getD 30 undef, a.tmps.getD 31 undef, a.tmps.getD 32 undef, a.tmps.getD 33 undef, a.tmps.getD 34 undef, a.tmps.getD 35 undef, a.tmps.getD 36 undef, a.tmps.getD 37 undef, a.tmps.getD 38 undef, a.tmps.getD 39 undef, a.tmps.getD 40 undef, a.tmps.getD 41 undef, a.tmps.getD 42 undef, a.tmps.getD 43 undef, a.tmps.getD 44 undef, a.tmps.getD 45 undef, a.tmps.getD 46 undef, a.tmps.getD 47 undef, a.tmps.getD 48 undef, a.tmps.getD 49 undef, a.tmps.getD 50 undef, a.tmps.getD 51 undef, a.tmps.getD 52 undef, a.tmps.getD 53 undef, a.tmps.getD 54 undef, a.tmps.getD 55 undef, a.tmps.getD 56 undef, a.tmps.getD 57 undef, a.tmps.getD 58 undef, a.tmps.getD 59 undef, a.tmps.getD 60 undef, a.tmps.getD 61 undef, a.tmps.getD 62 undef, a.tmps.getD 63 undef, a.tmps.getD 64 undef], defers := [] }) (hk : k ≤ len) (hx : 0 ≤ x ∧ x ≤ k * 100000) (hy : 0 ≤ y ∧ y ≤ k * 200000) (hB : Below w.heap.size w wr) : RcI w ad len c a wr := ⟨k, x, y, fun i => a.tmps.getD i undef, h, hk, hx, hy, hB⟩
set_option maxRecDepth 100000 in
set_option maxHeartbeats 2000000 in
theorem refDCheck_ok (a : Option Addr) (c : Nat) (d : List PcV) (w : World) (hr : PRow w a d) (hd : DOK d) (hc : d.length ≤ c) : Calls Tryz.prog 163 #[.slice a d.length c] w fun e w' => e = .returned (.int .i64 0) ∧ Below w.heap.size w w' := by
  have h4 := hd.1
  go_enter Tryz.func163, Tryz.ntmps163
  go_wp2
  refine wp_loop (RcI w a d.length c) (fun ac _ => d.length - (intOf (ac.tmps.getD 5 undef)).toNat) ?_ ?_
  · exact RcI.intro 0 0 0 rfl (by omega) (by omega) (by omega) (Below.refl _ _)
  · rintro ac wr ⟨k, x, y, u, rfl, hk, hx, hy, hB⟩
    by_cases hlt : k < d.length
    · have hg := List.getElem?_eq_getElem hlt
      generalize d[k] = p at hg
      obtain ⟨hp1, hp2, hp3⟩ := hd.2 p (List.mem_of_getElem? hg)
      obtain ⟨hn0, hkd⟩ := pc_bounds hp1
      rcases hr.on hB with ⟨_, h2⟩ | ⟨b, off, rfl, hb, hcell⟩
      · rw [h2] at hlt; simp at hlt
      obtain ⟨c0, c1, c2⟩ := pc_at hcell hg
      have pk := fun W => refPiece_ok p W hp1
      have PK := Lib.hid pk
      have hB1 := hB.alloc hB.size (.cells #[.int .u8 p.kind, .int .i64 p.n, .string p.text] 132)
      have hz := heap_alloc_new wr (.cells #[.int .u8 p.kind, .int .i64 p.n, .string p.text] 132)
      have w1 : IntKind.i64.wrap (1048576 - x) = 1048576 - x := IntWalk.i64_in _ (by omega)
      have w2 : IntKind.i64.wrap (1048576 - y) = 1048576 - y := IntWalk.i64_in _ (by omega)
      have d1 : decide (1048576 - x < p.n) = false := by simp; omega
      have d2 : decide (1048576 - y < p.n) = false := by simp; omega
      have d3 : decide (1048576 - y < (p.text.size : Int)) = false := by simp; omega
      have hts : (p.text.size : Int) ≤ 100000 := by omega
      clear pk hp1 hcell hg hr
      rcases hkd with e | e | e
      all_goals
        rw [e] at c0 hz hB1
        have PKe := PK.out
        rw [e] at PKe
        have PK2 := Lib.hid PKe
        clear PKe PK
        have k1 : (p.kind != 2) = (p.kind != 2) := rfl
        clear k1 e
        go_wp2_with (go_at_call 176; refine (PK2.out _).mono ?_; rintro e w3 ⟨rfl, hb3⟩; have hB3 := hB1.trans (hb3.mono hB1.size); have hz3 := (hb3.block _ (by simp)).trans hz; obtain ⟨z0, z1, z2⟩ := blk3' hz3)
        exact ⟨RcI.intro (k + 1) _ _ rfl (by omega) (by omega) (by omega) hB3, by simp [intOf]; omega⟩
    · go_wp2
      go_returns
      exact ⟨rfl, hB⟩
def RsI (w : World) (ad : Option Addr) (d : List PcV) (c : Nat) (a : Act) (wr : World) : Prop :=
  ∃ (k : Nat) (u : Nat → Value), a = { tmps := #[.slice ad d.length c, u 1, u 2, u 3, .int .i64 (sumN (d.take k)), .int .i64 (sumO (d.take k)), .int .i64 k, u 7, u 8, u 9, u 10, u 11, u 12, u 13, u 14, u 15, u 16, u 17, u 18, u 19, u 20, u 21, u 22, u 23, u 24, u 25, u 26, u 27, u 28, u 29, u 30, u 31, u 32, u 33, u 34, u 35, u 36, u 37, u 38, u 39, u 40, u 41, u 42], defers := [] } ∧ k ≤ d.length ∧ wr = w
theorem RsI.intro {w : World} {ad : Option Addr} {d : List PcV} {c : Nat} {a : Act} {wr : World} (k : Nat) (h : a = { tmps := #[.slice ad d.length c, a.tmps.getD 1 undef, a.tmps.getD 2 undef, a.tmps.getD 3 undef, .int .i64 (sumN (d.take k)), .int .i64 (sumO (d.take k)), .int .i64 k, a.tmps.getD 7 undef, a.tmps.getD 8 undef, a.tmps.getD 9 undef, a.tmps.getD 10 undef, a.tmps.getD 11 undef, a.tmps.getD 12 undef, a.tmps.getD 13 undef, a.tmps.getD 14 undef, a.tmps.getD 15 undef, a.tmps.getD 16 undef, a.tmps.getD 17 undef, a.tmps.getD 18 undef, a.tmps.getD 19 undef, a.tmps.getD 20 undef, a.tmps.getD 21 undef, a.tmps.getD 22 undef, a.tmps.getD 23 undef, a.tmps.getD 24 undef, a.tmps.getD 25 undef, a.tmps.getD 26 undef, a.tmps.getD 27 undef, a.tmps.getD 28 undef, a.tmps.getD 29 undef, a.tmps.getD 30 undef, a.tmps.getD 31 undef, a.tmps.getD 32 undef, a.tmps.getD 33 undef, a.tmps.getD 34 undef, a.tmps.getD 35 undef, a.tmps.getD 36 undef, a.tmps.getD 37 undef, a.tmps.getD 38 undef, a.tmps.getD 39 undef, a.tmps.getD 40 undef, a.tmps.getD 41 undef, a.tmps.getD 42 undef], defers := [] }) (hk : k ≤ d.length) (hw : wr = w) : RsI w ad d c a wr := ⟨k, fun i => a.tmps.getD i undef, h, hk, hw⟩
set_option maxRecDepth 100000 in
set_option maxHeartbeats 2000000 in
theorem refSizes_ok (a : Option Addr) (c : Nat) (d : List PcV) (w : World) (hr : PRow w a d) (hd : DOK d) (hc : d.length ≤ c) : Calls Tryz.prog 164 #[.slice a d.length c] w fun e w' => e = .returned (.tuple #[.int .i64 (sumN d), .int .i64 (sumO d)]) ∧ w = w' := by
  have h4 := hd.1
  go_enter Tryz.func164, Tryz.ntmps164
  go_wp2
  refine wp_loop (RsI w a d c) (fun ac _ => d.length - (intOf (ac.tmps.getD 6 undef)).toNat) ?_ ?_
  · exact RsI.intro 0 rfl (by omega) rfl
  · rintro ac wr ⟨k, u, rfl, hk, rfl⟩
    obtain ⟨⟨x0, x1⟩, y0, y1⟩ := sum_bounds hd k hk
    by_cases hlt : k < d.length
    · have hg := List.getElem?_eq_getElem hlt
      generalize d[k] = p at hg
      obtain ⟨hp1, hp2, hp3⟩ := hd.2 p (List.mem_of_getElem? hg)
      obtain ⟨hn0, hkd⟩ := pc_bounds hp1
      rcases hr with ⟨_, h2⟩ | ⟨b, off, rfl, hb, hcell⟩
      · rw [h2] at hlt; simp at hlt
      obtain ⟨c0, c1, c2⟩ := pc_at hcell hg
      have hts : (p.text.size : Int) ≤ 100000 := by omega
      have sN := sumN_take hg
      have sO := sumO_take hg
      have HN := Lib.hid sN
      have HO := Lib.hid sO
      clear sN sO hcell hg hp1
      rcases hkd with e | e | e
      all_goals
        rw [e] at c0
        have HE := Lib.hid e
        clear e
        go_wp2
        exact ⟨RsI.intro (k + 1) (by rw [HN.out, HO.out, HE.out]; first | rfl | (rw [if_neg (by decide), Int.add_zero]; rfl)) (by omega) rfl, by simp [intOf]; omega⟩
    · obtain rfl : k = d.length := by omega
      rw [List.take_length]
      go_wp2
      go_returns
      exact ⟨rfl, rfl⟩
set_option maxRecDepth 100000 in
set_option maxHeartbeats 2000000 in
theorem refLengths_ok (a : Option Addr) (c : Nat) (d : List PcV) (w : World) (hr : PRow w a d) (hd : DOK d) (hc : d.length ≤ c) : Calls Tryz.prog 131 #[.slice a d.length c] w fun e w' => e = .returned (.tuple #[.int .i64 (sumN d), .int .i64 (sumO d), .int .i64 0]) ∧ Below w.heap.size w w' := by
  have h1 := refDCheck_ok a c d w hr hd hc
  have h2 := fun W (hB : Below w.heap.size w W) => refSizes_ok a c d W (hr.on hB) hd hc
  have H1 := Lib.hid h1; have H2 := Lib.hid h2
  clear h1 h2
  go_enter Tryz.func131, Tryz.ntmps131
  go_wp2_with (first | (go_at_call 163; refine H1.out.mono ?_; rintro e w1 ⟨rfl, hB1⟩) | (go_at_call 164; refine (H2.out _ hB1).mono ?_; rintro e w2 ⟨rfl, rfl⟩))
  go_returns
  exact ⟨rfl, hB1⟩
/-- The deltas of Replace. -/
theorem rep_dok {n at_ k : Int} {t : ByteArray} (h : RepOK n at_ k t) : DOK (repD n at_ k t) ∧ sumN (repD n at_ k t) = n ∧ sumO (repD n at_ k t) = n - k + t.size := by
  obtain ⟨h1, h2, h3, h4, h5, h6⟩ := h
  have e0 : (⟨#[]⟩ : ByteArray).size = 0 := rfl
  refine ⟨⟨repD_len _ _ _ _, fun p hp => ?_⟩, ?_, ?_⟩
  · unfold repD at hp
    simp only [List.mem_append] at hp
    rcases hp with ((hp | hp) | hp) | hp
    all_goals
      split at hp
      · rw [List.mem_singleton] at hp
        subst hp
        refine ⟨?_, ?_, ?_⟩
        · unfold pcP; dsimp only; first | exact .inl ⟨by omega, by omega, e0⟩ | exact .inr ⟨rfl, rfl, by assumption⟩
        · dsimp only; omega
        · dsimp only; first | omega | (rw [e0]; omega)
      · cases hp
  · unfold repD sumN
    (repeat' split) <;> simp <;> omega
  · unfold repD sumO
    (repeat' split) <;> simp [e0] <;> omega
end Go.Proofs.YtlealeecmmpckaaGreat
namespace Go.Proofs.YtlealeecmmpckaaGreat
set_option linter.unusedVariables false
set_option linter.unusedSimpArgs false
open Go.RowKit Go.Lib Go.Shelf

/-- Pieces that are kept, and others, by turns. -/
def Alt (d : List PcV) : Prop := (∀ (k : Nat) (p q : PcV), d[k]? = some p → d[k + 1]? = some q → (p.kind = 1 ↔ q.kind ≠ 1)) ∧ ∀ (k : Nat) (p : PcV), d[k]? = some p → p.kind ≠ 1 → d.length ≤ k + 2
def PCs (w : World) (b off : Nat) (d : List PcV) : Prop := ∀ (k : Nat) (p : PcV), d[k]? = some p → ∀ (i : Nat) (u : Value), (pcL p)[i]? = some u → w.cell? ⟨b, off + (k * 3 + i), none⟩ = some u
theorem PCs.on {W W' : World} {b off : Nat} {d : List PcV} (h : PCs W b off d) (hB : Below W.heap.size W W') (hb : b < W.heap.size) : PCs W' b off d := fun k p hk i u hu => (hB.cell (p := ⟨b, off + (k * 3 + i), none⟩) hb).trans (h k p hk i u hu)
theorem conv_bytes {W : World} {lo : Nat} {v : Value} {l : List UInt8} (h : W.ownsRowF lo 5 1 v l.length (Lib.byteCells l)) : (convert 98 9 v).run Tryz.prog W = .ok (.string ⟨l.toArray⟩) W := by
  have h2 := h.2
  rcases h2 with ⟨rfl, h0⟩ | ⟨g, cap, cur, fz, rfl, hb, hg, hf, hc, hm, hs, ht⟩
  · have : l = [] := List.eq_nil_of_length_eq_zero h0
    subst this
    exact Lib.run_convert_nil_bytes W _ _ 5 0 Tryz.underlying98 Tryz.underlying5 Tryz.underlying9
  · have := run_convert_bytes_arg (P := Tryz.prog) W 98 5 Tryz.underlying98 Tryz.underlying5 g 0 l.length cap (l.map fun b => (b.toNat : Int)) (by simp) (fun i hi => by
      have h3 := h.cells (g := g) rfl i (.int .u8 (l[i].toNat : Int)) (by simp [Lib.byteCells, hi])
      have e : (⟨g, 0, none⟩ : Addr).add i = ⟨g, 0 + i, none⟩ := by unfold Addr.add; split <;> simp_all
      rw [e] at h3
      rw [h3]; congr 2; simp [List.getD, hi]) 9 Tryz.underlying9
    rw [this, Lib.Lz.strOfNums_map]
theorem conv_bytes' {W : World} {lo n : Nat} {v : Value} {l : List UInt8} (h : W.ownsRowF lo 5 1 v n (Lib.byteCells l)) (hn : l.length = n) : (convert 98 9 v).run Tryz.prog W = .ok (.string ⟨l.toArray⟩) W := by
  subst hn; exact conv_bytes h
theorem rowF_slice {w : World} {B s n : Nat} {e : TypeId} {v : Value} {xs : List Value} (h : w.ownsRowF B e s v n xs) : ∃ ao c, v = .slice ao n c := by
  rcases h.2 with ⟨rfl, rfl⟩ | ⟨g, cap, cur, fz, rfl, _⟩
  · exact ⟨_, _, rfl⟩
  · exact ⟨_, _, rfl⟩
theorem conv_back (t : ByteArray) : (⟨t.data.toList.toArray⟩ : ByteArray) = t := rfl
theorem nil_txt {x : ByteArray} (h : x.size = 0) : x = ⟨#[]⟩ := by
  apply ByteArray.ext
  exact Array.eq_empty_of_size_eq_zero h
theorem strCells_nil (s : ByteArray) : [] ++ Lib.strCells s = Lib.byteCells s.data.toList := by rw [List.nil_append, Lib.strCells_eq]
abbrev POwn (W : World) (B : Nat) (v : Value) (d : List PcV) : Prop := W.ownsRow B 132 3 v d.length (pcsL d)
theorem POwn.snoc {W : World} {B : Nat} {v : Value} {d : List PcV} {p : PcV} (h : W.ownsRow B 132 3 v (d.length + 1) (pcsL d ++ pcL p)) : POwn W B v (d ++ [p]) := by
  show W.ownsRow B 132 3 v (d ++ [p]).length (pcsL (d ++ [p]))
  rw [List.length_append, pcsL_snoc]; exact h
def RfI (w : World) (ad : Option Addr) (d : List PcV) (c : Nat) (a : Act) (wr : World) : Prop :=
  ∃ (k : Nat) (v : Value) (u : Nat → Value), a = { tmps := #[.slice ad d.length c, u 1, u 2, v, .int .i64 k, u 5, u 6, u 7, u 8, u 9, u 10, u 11, u 12, u 13, u 14, u 15, u 16, u 17, u 18, u 19, u 20, u 21, u 22, u 23, u 24, u 25, u 26, u 27, u 28, u 29, u 30, u 31, u 32, u 33, u 34, u 35, u 36, u 37, u 38, u 39, u 40, u 41, u 42, u 43, u 44, u 45, u 46, u 47, u 48, u 49, u 50, u 51, u 52, u 53, u 54, u 55, u 56, u 57, u 58, u 59, u 60, u 61, u 62, u 63, u 64, u 65, u 66, u 67, u 68, u 69, u 70, u 71, u 72, u 73, u 74, u 75, u 76, u 77, u 78, u 79, u 80, u 81, u 82, u 83], defers := [] } ∧ k ≤ d.length ∧ POwn wr w.heap.size v (d.take k) ∧ Below w.heap.size w wr
theorem RfI.intro {w : World} {ad : Option Addr} {d : List PcV} {c : Nat} {a : Act} {wr : World} (k : Nat) (v : Value) (h : a = { tmps := #[.slice ad d.length c, a.tmps.getD 1 undef, a.tmps.getD 2 undef, v, .int .i64 k, a.tmps.getD 5 undef, a.tmps.getD 6 undef, a.tmps.getD 7 undef, a.tmps.getD 8 undef, a.tmps.getD 9 undef, a.tmps.getD 10 undef, a.tmps.getD 11 undef, a.tmps.getD 12 undef, a.tmps.getD 13 undef, a.tmps.getD 14 undef, a.tmps.getD 15 undef, a.tmps.getD 16 undef, a.tmps.getD 17 undef, a.tmps.getD 18 undef, a.tmps.getD 19 undef, a.tmps.getD 20 undef, a.tmps.getD 21 undef, a.tmps.getD 22 undef, a.tmps.getD 23 undef, a.tmps.getD 24 undef, a.tmps.getD 25 undef, a.tmps.getD 26 undef, a.tmps.getD 27 undef, a.tmps.getD 28 undef, a.tmps.getD 29 undef, a.tmps.getD 30 undef, a.tmps.getD 31 undef, a.tmps.getD 32 undef, a.tmps.getD 33 undef, a.tmps.getD 34 undef, a.tmps.getD 35 undef, a.tmps.getD 36 undef, a.tmps.getD 37 undef, a.tmps.getD 38 undef, a.tmps.getD 39 undef, a.tmps.getD 40 undef, a.tmps.getD 41 undef, a.tmps.getD 42 undef, a.tmps.getD 43 undef, a.tmps.getD 44 undef, a.tmps.getD 45 undef, a.tmps.getD 46 undef, a.tmps.getD 47 undef, a.tmps.getD 48 undef, a.tmps.getD 49 undef, a.tmps.getD 50 undef, a.tmps.getD 51 undef, a.tmps.getD 52 undef, a.tmps.getD 53 undef, a.tmps.getD 54 undef, a.tmps.getD 55 undef, a.tmps.getD 56 undef, a.tmps.getD 57 undef, a.tmps.getD 58 undef, a.tmps.getD 59 undef, a.tmps.getD 60 undef, a.tmps.getD 61 undef, a.tmps.getD 62 undef, a.tmps.getD 63 undef, a.tmps.getD 64 undef, a.tmps.getD 65 undef, a.tmps.getD 66 undef, a.tmps.getD 67 undef, a.tmps.getD 68 undef, a.tmps.getD 69 undef, a.tmps.getD 70 undef, a.tmps.getD 71 undef, a.tmps.getD 72 undef, a.tmps.getD 73 undef, a.tmps.getD 74 undef, a.tmps.getD 75 undef, a.tmps.getD 76 undef, a.tmps.getD 77 undef, a.tmps.getD 78 undef, a.tmps.getD 79 undef, a.tmps.getD 80 undef, a.tmps.getD 81 undef, a.tmps.getD 82 undef, a.tmps.getD 83 undef], defers := [] }) (hk : k ≤ d.length) (hv : POwn wr w.heap.size v (d.take k)) (hB : Below w.heap.size w wr) : RfI w ad d c a wr := ⟨k, v, fun i => a.tmps.getD i undef, h, hk, hv, hB⟩
theorem take_snocP {d : List PcV} {k : Nat} {p : PcV} (h : d[k]? = some p) : d.take (k + 1) = d.take k ++ [p] := by rw [List.take_add_one, h]; rfl
set_option maxRecDepth 100000 in
set_option maxHeartbeats 8000000 in
theorem refForm_ok (ad : Option Addr) (c : Nat) (d : List PcV) (w : World) (hr : PRow w ad d) (hd : DOK d) (hA : Alt d) (hc : d.length ≤ c) : Calls Tryz.prog 130 #[.slice ad d.length c] w fun e w' => ∃ v, e = .returned v ∧ POwn w' w.heap.size v d ∧ Below w.heap.size w w' := by
  obtain ⟨i0, hi, hz0, hz1, hz2⟩ := info_parts infoP
  obtain ⟨j0, hj, jz0, jz1, jz2⟩ := info_parts infoBy
  have h4 := hd.1
  go_enter Tryz.func130, Tryz.ntmps130
  go_wp2
  refine wp_loop (RfI w ad d c) (fun a _ => d.length - (intOf (a.tmps.getD 4 undef)).toNat) ?_ ?_
  · exact RfI.intro 0 (.slice none 0 0) rfl (by omega) (World.ownsRow_nil _ _ _ _) (Below.refl _ _)
  · rintro a wr ⟨k, v, u, rfl, hk, hv, hB⟩
    have hlk : (d.take k).length = k := by rw [List.length_take]; omega
    by_cases hlt : k < d.length
    · have hg := List.getElem?_eq_getElem hlt
      generalize d[k] = p at hg
      obtain ⟨hp1, hp2, hp3⟩ := hd.2 p (List.mem_of_getElem? hg)
      obtain ⟨hn0, hkd⟩ := pc_bounds hp1
      rcases hr.on hB with ⟨_, h2⟩ | ⟨b, off, rfl, hb, hcell⟩
      · rw [h2] at hlt; simp at hlt
      obtain ⟨c0, c1, c2⟩ := pc_at hcell hg
      have hkc : (k : Int) ≤ c := by omega
      have HR5 : ∀ W, Below w.heap.size w W → PCs W b off d := fun W hW => by
        rcases hr.on hW with ⟨h1, _⟩ | ⟨b', off', h1, _, h3⟩
        · cases h1
        · injection h1 with h1; injection h1 with e1 e2 _; subst e1; subst e2; exact h3
      obtain ⟨pk, pn, pt⟩ := p
      rcases hkd with e | e | e
      · obtain rfl : pk = 1 := e
        obtain ⟨hpn, hpt⟩ : 1 ≤ pn ∧ pt.size = 0 := by unfold pcP at hp1; dsimp only at hp1; omega
        have hptx := nil_txt hpt
        subst hptx
        by_cases hlt1 : k + 1 < d.length
        · have hg1 := List.getElem?_eq_getElem hlt1
          generalize d[k + 1] = q at hg1
          have hqk : q.kind ≠ 1 := (hA.1 k _ q hg hg1).1 rfl
          obtain ⟨y0, y1, y2⟩ := pc_at hcell hg1
          have e1 : (q.kind == 1) = false := by simpa using hqk
          clear hg1 hqk
          have HLK := Lib.hid hlk
          have HG := Lib.hid hg
          clear hlk hg hr hp1 hcell
          go_wp2
          refine wp_loop_rounds 1 ?_
          rw [rounds_succ]
          go_wp2
          refine wp_loop_rounds 2 ?_
          rw [rounds_succ]
          go_wp2
          rw [rounds_succ]
          go_wp2_with (at_builtin; refine wpList_append_own _ rfl _ _ 32 rfl w.heap.size 132 i0 _ 3 32 Tryz.underlying32 hi hz0 hz1 hz2 rfl (by decide) _ _ _ rfl (hv.alloc _) ⟨_, 0, none⟩ 1 1 (pcL ⟨1, pn, ⟨#[]⟩⟩) rfl rfl (pieces_new _ _ _) (pcL_ones _) (by unfold maxLen; have hlk := HLK.out; omega) (by have hlk := HLK.out; omega) (by have := hB.size; simp; omega) ?_; intro v5 w5 hw5 hg5 _; have hB5 := (hB.alloc hB.size (.cells (pcL ⟨1, pn, ⟨#[]⟩⟩).toArray 132)).grown hg5 (by have := hB.size; simp; omega) (fun k hk => (hv.lt k hk).1); have hv5 := POwn.snoc hw5)
          exact ⟨RfI.intro (k + 1) v5 rfl (by omega) (by rw [take_snocP HG.out]; exact hv5) hB5, by simp [intOf]; omega⟩
        · have e9 : decide ((k : Int) + 1 < d.length) = false := by simp; omega
          have HLK := Lib.hid hlk
          have HG := Lib.hid hg
          clear hlk hg hr hp1 hcell
          go_wp2
          refine wp_loop_rounds 1 ?_
          rw [rounds_succ]
          go_wp2
          refine wp_loop_rounds 2 ?_
          rw [rounds_succ]
          go_wp2
          rw [rounds_succ]
          go_wp2_with (at_builtin; refine wpList_append_own _ rfl _ _ 32 rfl w.heap.size 132 i0 _ 3 32 Tryz.underlying32 hi hz0 hz1 hz2 rfl (by decide) _ _ _ rfl (hv.alloc _) ⟨_, 0, none⟩ 1 1 (pcL ⟨1, pn, ⟨#[]⟩⟩) rfl rfl (pieces_new _ _ _) (pcL_ones _) (by unfold maxLen; have hlk := HLK.out; omega) (by have hlk := HLK.out; omega) (by have := hB.size; simp; omega) ?_; intro v5 w5 hw5 hg5 _; have hB5 := (hB.alloc hB.size (.cells (pcL ⟨1, pn, ⟨#[]⟩⟩).toArray 132)).grown hg5 (by have := hB.size; simp; omega) (fun k hk => (hv.lt k hk).1); have hv5 := POwn.snoc hw5)
          exact ⟨RfI.intro (k + 1) v5 rfl (by omega) (by rw [take_snocP HG.out]; exact hv5) hB5, by simp [intOf]; omega⟩
      · obtain rfl : pk = 2 := e
        obtain ⟨hpn, hpt⟩ : pn = 0 ∧ pt.size ≠ 0 := by unfold pcP at hp1; dsimp only at hp1; omega
        subst hpn
        have e5 : decide (0 < pt.size) = true := by simp; omega
        have e6 : decide (0 < (pt.size : Int)) = true := by simp; omega
        have hlate := hA.2 k _ hg (show ¬ ((2 : Int) = 1) by omega)
        have HLK := Lib.hid hlk
        have HG := Lib.hid hg
        have hpts : pt.size ≤ 100000 := hp3
        by_cases hlt1 : k + 1 < d.length
        · have hg1 := List.getElem?_eq_getElem hlt1
          generalize d[k + 1] = q at hg1
          have hqk : q.kind = 1 := Decidable.not_not.1 (fun h => absurd ((hA.1 k _ q hg hg1).2 h) (show ¬ ((2 : Int) = 1) by omega))
          obtain ⟨hq1, hq2, hq3⟩ := hd.2 q (List.mem_of_getElem? hg1)
          obtain ⟨qk, qn, qt⟩ := q
          obtain rfl : qk = 1 := hqk
          obtain ⟨hqn, hqt⟩ : 1 ≤ qn ∧ qt.size = 0 := by unfold pcP at hq1; dsimp only at hq1; omega
          have hqx := nil_txt hqt
          subst hqx
          have hle : d.length = k + 2 := by omega
          have HC := Lib.hid (show PCs wr b off d from hcell)
          have HG1 := Lib.hid hg1
          have d9 : decide ((k : Int) + 1 + 1 < d.length) = false := by simp; omega
          have d8 : decide ((k : Int) + 1 < d.length) = true := by simp; omega
          have e8 : decide (0 < qn) = true := by simp; omega
          have HLE := Lib.hid hle
          clear hlk hg hr hp1 hg1 hq1 hqt hcell hle hlate
          go_wp2
          refine wp_loop_rounds 2 ?_
          rw [rounds_succ]
          go_wp2_with (at_builtin; refine Lib.wpList_append_own_stringF _ rfl _ _ 98 9 rfl wr.heap.size 5 j0 Tryz.underlying98 Tryz.underlying9 hj jz0 jz1 jz2 _ _ _ rfl (World.ownsRowF_nil _ _ _ _) pt rfl (by unfold maxLen; omega) (by omega) (by omega) ?_; intro tv w3 htv hgt hnn; have hB3 : Below wr.heap.size wr w3 := (Below.refl _ wr).grown hgt (Nat.le_refl _) (fun k hk => by cases hk); have hv3 := own_below6 hv hB3; have hB3' := hB.trans (hB3.mono hB.size); rw [strCells_nil, Nat.zero_add] at htv; obtain ⟨ta, tc, rfl⟩ := rowF_slice htv; have hcv := conv_bytes' (l := pt.data.toList) htv Array.length_toList; rw [conv_back] at hcv; clear hnn hgt; have c13 := (hB3.cell (p := ⟨b, off + k * 3 + 1, none⟩) hb).trans c1; have hc3 := HC.out.on hB3 hb; obtain ⟨q30, q31, q32⟩ := pc_at hc3 HG1.out)
          rw [rounds_succ]
          go_wp2_with (at_builtin; refine wpList_append_own _ rfl _ _ 32 rfl w.heap.size 132 i0 _ 3 32 Tryz.underlying32 hi hz0 hz1 hz2 rfl (by decide) _ _ _ rfl (hv3.alloc _) ⟨_, 0, none⟩ 1 1 (pcL ⟨2, 0, pt⟩) rfl rfl (pieces_new _ _ _) (pcL_ones _) (by unfold maxLen; have hlk := HLK.out; omega) (by have hlk := HLK.out; omega) (by have := hB3'.size; simp; omega) ?_; intro v5 w5 hw5 hg5 _; have hB5 := (hB3'.alloc hB3'.size (.cells (pcL ⟨2, 0, pt⟩).toArray 132)).grown hg5 (by have := hB3'.size; simp; omega) (fun k hk => (hv3.lt k hk).1); have hv5 := POwn.snoc hw5; obtain ⟨q50, q51, q52⟩ := pc_at (HR5 _ hB5) HG1.out)
          have HL5 : (d.take k ++ [(⟨2, 0, pt⟩ : PcV)]).length = k + 1 := by rw [List.length_append, HLK.out]; rfl
          refine wp_loop_rounds 2 ?_
          rw [rounds_succ]
          go_wp2
          rw [rounds_succ]
          go_wp2_with (at_builtin; refine wpList_append_own _ rfl _ _ 32 rfl w.heap.size 132 i0 _ 3 32 Tryz.underlying32 hi hz0 hz1 hz2 rfl (by decide) _ _ _ rfl (hv5.alloc _) ⟨_, 0, none⟩ 1 1 (pcL ⟨1, qn, ⟨#[]⟩⟩) rfl rfl (pieces_new _ _ _) (pcL_ones _) (by unfold maxLen; have hlk5 := HL5; omega) (by have hlk5 := HL5; omega) (by have := hB5.size; simp; omega) ?_; intro v6 w6 hw6 hg6 _; have hB6 := (hB5.alloc hB5.size (.cells (pcL ⟨1, qn, ⟨#[]⟩⟩).toArray 132)).grown hg6 (by have := hB5.size; simp; omega) (fun k hk => (hv5.lt k hk).1); have hv6 := POwn.snoc hw6)
          exact ⟨RfI.intro (k + 1 + 1) v6 rfl (by rw [HLE.out]; omega) (by rw [take_snocP HG1.out, take_snocP HG.out]; exact hv6) hB6, by simp [intOf]; rw [HLE.out]; omega⟩
        · have hle : d.length = k + 1 := by omega
          have d8 : decide ((k : Int) + 1 < d.length) = false := by simp; omega
          have HLE := Lib.hid hle
          clear hlk hg hr hp1 hcell hle hlate
          go_wp2
          refine wp_loop_rounds 2 ?_
          rw [rounds_succ]
          go_wp2_with (at_builtin; refine Lib.wpList_append_own_stringF _ rfl _ _ 98 9 rfl wr.heap.size 5 j0 Tryz.underlying98 Tryz.underlying9 hj jz0 jz1 jz2 _ _ _ rfl (World.ownsRowF_nil _ _ _ _) pt rfl (by unfold maxLen; omega) (by omega) (by omega) ?_; intro tv w3 htv hgt hnn; have hB3 : Below wr.heap.size wr w3 := (Below.refl _ wr).grown hgt (Nat.le_refl _) (fun k hk => by cases hk); have hv3 := own_below6 hv hB3; have hB3' := hB.trans (hB3.mono hB.size); rw [strCells_nil, Nat.zero_add] at htv; obtain ⟨ta, tc, rfl⟩ := rowF_slice htv; have hcv := conv_bytes' (l := pt.data.toList) htv Array.length_toList; rw [conv_back] at hcv; clear hnn hgt; have c13 := (hB3.cell (p := ⟨b, off + k * 3 + 1, none⟩) hb).trans c1; skip)
          rw [rounds_succ]
          go_wp2_with (at_builtin; refine wpList_append_own _ rfl _ _ 32 rfl w.heap.size 132 i0 _ 3 32 Tryz.underlying32 hi hz0 hz1 hz2 rfl (by decide) _ _ _ rfl (hv3.alloc _) ⟨_, 0, none⟩ 1 1 (pcL ⟨2, 0, pt⟩) rfl rfl (pieces_new _ _ _) (pcL_ones _) (by unfold maxLen; have hlk := HLK.out; omega) (by have hlk := HLK.out; omega) (by have := hB3'.size; simp; omega) ?_; intro v5 w5 hw5 hg5 _; have hB5 := (hB3'.alloc hB3'.size (.cells (pcL ⟨2, 0, pt⟩).toArray 132)).grown hg5 (by have := hB3'.size; simp; omega) (fun k hk => (hv3.lt k hk).1); have hv5 := POwn.snoc hw5)
          refine wp_loop_rounds 1 ?_
          rw [rounds_succ]
          go_wp2
          exact ⟨RfI.intro (k + 1) v5 rfl (by rw [HLE.out]; omega) (by rw [take_snocP HG.out]; exact hv5) hB5, by simp [intOf]; rw [HLE.out]; omega⟩
      · obtain rfl : pk = 3 := e
        obtain ⟨hpn, hpt⟩ : 1 ≤ pn ∧ pt.size = 0 := by unfold pcP at hp1; dsimp only at hp1; omega
        have hptx := nil_txt hpt
        have e5 : decide (0 < pt.size) = false := decide_eq_false (by omega)
        have e6 : decide (0 < (pt.size : Int)) = false := decide_eq_false (by omega)
        have e7 : decide (0 < pn) = true := by simp; omega
        have HPT := Lib.hid hptx
        have hlate := hA.2 k _ hg (show ¬ ((3 : Int) = 1) by omega)
        have HLK := Lib.hid hlk
        have HG := Lib.hid hg
        have hpts : pt.size ≤ 100000 := hp3
        by_cases hlt1 : k + 1 < d.length
        · have hg1 := List.getElem?_eq_getElem hlt1
          generalize d[k + 1] = q at hg1
          have hqk : q.kind = 1 := Decidable.not_not.1 (fun h => absurd ((hA.1 k _ q hg hg1).2 h) (show ¬ ((3 : Int) = 1) by omega))
          obtain ⟨hq1, hq2, hq3⟩ := hd.2 q (List.mem_of_getElem? hg1)
          obtain ⟨qk, qn, qt⟩ := q
          obtain rfl : qk = 1 := hqk
          obtain ⟨hqn, hqt⟩ : 1 ≤ qn ∧ qt.size = 0 := by unfold pcP at hq1; dsimp only at hq1; omega
          have hqx := nil_txt hqt
          subst hqx
          have hle : d.length = k + 2 := by omega
          have HC := Lib.hid (show PCs wr b off d from hcell)
          have HG1 := Lib.hid hg1
          have d9 : decide ((k : Int) + 1 + 1 < d.length) = false := by simp; omega
          have d8 : decide ((k : Int) + 1 < d.length) = true := by simp; omega
          have e8 : decide (0 < qn) = true := by simp; omega
          have HLE := Lib.hid hle
          clear hlk hg hr hp1 hptx hpt hg1 hq1 hqt hcell hle hlate
          go_wp2
          refine wp_loop_rounds 2 ?_
          rw [rounds_succ]
          go_wp2_with (at_builtin; refine Lib.wpList_append_own_stringF _ rfl _ _ 98 9 rfl wr.heap.size 5 j0 Tryz.underlying98 Tryz.underlying9 hj jz0 jz1 jz2 _ _ _ rfl (World.ownsRowF_nil _ _ _ _) pt rfl (by unfold maxLen; omega) (by omega) (by omega) ?_; intro tv w3 htv hgt hnn; have hB3 : Below wr.heap.size wr w3 := (Below.refl _ wr).grown hgt (Nat.le_refl _) (fun k hk => by cases hk); have hv3 := own_below6 hv hB3; have hB3' := hB.trans (hB3.mono hB.size); rw [strCells_nil, Nat.zero_add] at htv; obtain ⟨ta, tc, rfl⟩ := rowF_slice htv; have hcv := conv_bytes' (l := pt.data.toList) htv Array.length_toList; rw [conv_back] at hcv; clear hnn hgt; have c13 := (hB3.cell (p := ⟨b, off + k * 3 + 1, none⟩) hb).trans c1; have hc3 := HC.out.on hB3 hb; obtain ⟨q30, q31, q32⟩ := pc_at hc3 HG1.out)
          rw [rounds_succ]
          go_wp2_with (at_builtin; refine wpList_append_own _ rfl _ _ 32 rfl w.heap.size 132 i0 _ 3 32 Tryz.underlying32 hi hz0 hz1 hz2 rfl (by decide) _ _ _ rfl (hv3.alloc _) ⟨_, 0, none⟩ 1 1 (pcL ⟨3, pn, ⟨#[]⟩⟩) rfl rfl (pieces_new _ _ _) (pcL_ones _) (by unfold maxLen; have hlk := HLK.out; omega) (by have hlk := HLK.out; omega) (by have := hB3'.size; simp; omega) ?_; intro v5 w5 hw5 hg5 _; have hB5 := (hB3'.alloc hB3'.size (.cells (pcL ⟨3, pn, ⟨#[]⟩⟩).toArray 132)).grown hg5 (by have := hB3'.size; simp; omega) (fun k hk => (hv3.lt k hk).1); have hv5 := POwn.snoc hw5; obtain ⟨q50, q51, q52⟩ := pc_at (HR5 _ hB5) HG1.out)
          have HL5 : (d.take k ++ [(⟨3, pn, ⟨#[]⟩⟩ : PcV)]).length = k + 1 := by rw [List.length_append, HLK.out]; rfl
          refine wp_loop_rounds 2 ?_
          rw [rounds_succ]
          go_wp2
          rw [rounds_succ]
          go_wp2_with (at_builtin; refine wpList_append_own _ rfl _ _ 32 rfl w.heap.size 132 i0 _ 3 32 Tryz.underlying32 hi hz0 hz1 hz2 rfl (by decide) _ _ _ rfl (hv5.alloc _) ⟨_, 0, none⟩ 1 1 (pcL ⟨1, qn, ⟨#[]⟩⟩) rfl rfl (pieces_new _ _ _) (pcL_ones _) (by unfold maxLen; have hlk5 := HL5; omega) (by have hlk5 := HL5; omega) (by have := hB5.size; simp; omega) ?_; intro v6 w6 hw6 hg6 _; have hB6 := (hB5.alloc hB5.size (.cells (pcL ⟨1, qn, ⟨#[]⟩⟩).toArray 132)).grown hg6 (by have := hB5.size; simp; omega) (fun k hk => (hv5.lt k hk).1); have hv6 := POwn.snoc hw6)
          exact ⟨RfI.intro (k + 1 + 1) v6 rfl (by rw [HLE.out]; omega) (by rw [take_snocP HG1.out, take_snocP HG.out, HPT.out]; exact hv6) hB6, by simp [intOf]; rw [HLE.out]; omega⟩
        · have hle : d.length = k + 1 := by omega
          have d8 : decide ((k : Int) + 1 < d.length) = false := by simp; omega
          have HLE := Lib.hid hle
          clear hlk hg hr hp1 hptx hpt hcell hle hlate
          go_wp2
          refine wp_loop_rounds 2 ?_
          rw [rounds_succ]
          go_wp2_with (at_builtin; refine Lib.wpList_append_own_stringF _ rfl _ _ 98 9 rfl wr.heap.size 5 j0 Tryz.underlying98 Tryz.underlying9 hj jz0 jz1 jz2 _ _ _ rfl (World.ownsRowF_nil _ _ _ _) pt rfl (by unfold maxLen; omega) (by omega) (by omega) ?_; intro tv w3 htv hgt hnn; have hB3 : Below wr.heap.size wr w3 := (Below.refl _ wr).grown hgt (Nat.le_refl _) (fun k hk => by cases hk); have hv3 := own_below6 hv hB3; have hB3' := hB.trans (hB3.mono hB.size); rw [strCells_nil, Nat.zero_add] at htv; obtain ⟨ta, tc, rfl⟩ := rowF_slice htv; have hcv := conv_bytes' (l := pt.data.toList) htv Array.length_toList; rw [conv_back] at hcv; clear hnn hgt; have c13 := (hB3.cell (p := ⟨b, off + k * 3 + 1, none⟩) hb).trans c1; skip)
          rw [rounds_succ]
          go_wp2_with (at_builtin; refine wpList_append_own _ rfl _ _ 32 rfl w.heap.size 132 i0 _ 3 32 Tryz.underlying32 hi hz0 hz1 hz2 rfl (by decide) _ _ _ rfl (hv3.alloc _) ⟨_, 0, none⟩ 1 1 (pcL ⟨3, pn, ⟨#[]⟩⟩) rfl rfl (pieces_new _ _ _) (pcL_ones _) (by unfold maxLen; have hlk := HLK.out; omega) (by have hlk := HLK.out; omega) (by have := hB3'.size; simp; omega) ?_; intro v5 w5 hw5 hg5 _; have hB5 := (hB3'.alloc hB3'.size (.cells (pcL ⟨3, pn, ⟨#[]⟩⟩).toArray 132)).grown hg5 (by have := hB3'.size; simp; omega) (fun k hk => (hv3.lt k hk).1); have hv5 := POwn.snoc hw5)
          refine wp_loop_rounds 1 ?_
          rw [rounds_succ]
          go_wp2
          exact ⟨RfI.intro (k + 1) v5 rfl (by rw [HLE.out]; omega) (by rw [take_snocP HG.out, HPT.out]; exact hv5) hB5, by simp [intOf]; rw [HLE.out]; omega⟩
    · obtain rfl : k = d.length := by omega
      rw [List.take_length] at hv
      obtain ⟨av, cv, rfl⟩ := own_slice hv
      go_wp2
      go_returns
      exact ⟨_, rfl, hv, hB⟩
end Go.Proofs.YtlealeecmmpckaaGreat
