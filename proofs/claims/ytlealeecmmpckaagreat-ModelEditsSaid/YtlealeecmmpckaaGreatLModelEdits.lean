/- ModelEdits: the law returns true for every input, and leaves its arguments as they were. -/
import Derived.Test.YtlealeecmmpckaaGreatBug
import Derived.Test.YtlealeecmmpckaaGreatBuh
import Derived.Test.YtlealeecmmpckaaGreatBul
import Derived.Test.YtlealeecmmpckaaGreatBui
import Derived.Test.YtlealeecmmpckaaGreatBun
import Derived.Test.YtlealeecmmpckaaGreatBua
import Derived.Laws.EntriesVeiled
import Derived.Carry
namespace Go.Proofs.YtlealeecmmpckaaGreat
set_option linter.unusedVariables false
set_option linter.unusedSimpArgs false
open Go.RowKit Go.Lib Go.Shelf

/-- A builder's block and its row; empty: no row. -/
structure Bv (w : World) (b : Nat) (v : Value) (lo : Nat) (bs : List Value) : Prop where
  blk : w.heap[b]? = some (.cells #[.pointer none, v] 175 (0, 0)) ∨ w.heap[b]? = some (.cells #[.pointer (some ⟨b, 0, none⟩), v] 175 (0, 0))
  own : w.ownsRowF lo 5 1 v bs.length bs
  nil_ : bs = [] → v = .slice none 0 0
theorem Bv.ne {w : World} {b lo : Nat} {v : Value} {bs : List Value} (h : Bv w b v lo bs) : v.ownBlock ≠ some b := by
  rcases h.blk with h1 | h1
  · exact Lib.ownBlock_neF h.own h1 (by decide)
  · exact Lib.ownBlock_neF h.own h1 (by decide)
theorem Bv.lt {w : World} {b lo : Nat} {v : Value} {bs : List Value} (h : Bv w b v lo bs) : b < w.heap.size := by
  rcases h.blk with h1 | h1 <;> exact (Array.getElem?_eq_some_iff.1 h1).1
theorem rowF_keep {w w' : World} {lo n : Nat} {e : TypeId} {v : Value} {xs : List Value} (h : w.ownsRowF lo e 1 v n xs) (hk : ∀ k, k < w.heap.size → v.ownBlock = some k → w'.heap[k]? = w.heap[k]?) : w'.ownsRowF lo e 1 v n xs := by
  refine ⟨h.1, ?_⟩
  rcases h.2 with hn | ⟨g, cap, cur, fz, rfl, hb, hg, rest⟩
  · exact .inl hn
  · exact .inr ⟨g, cap, cur, fz, rfl, hb, (hk g (Array.getElem?_eq_some_iff.1 hg).1 rfl).trans hg, rest⟩
theorem rowF_mono {w : World} {lo lo' n : Nat} {e : TypeId} {v : Value} {xs : List Value} (h : w.ownsRowF lo e 1 v n xs) (hl : lo' ≤ lo) : w.ownsRowF lo' e 1 v n xs := by
  refine ⟨h.1, ?_⟩
  rcases h.2 with hn | ⟨g, cap, cur, fz, rfl, hb, rest⟩
  · exact .inl hn
  · exact .inr ⟨g, cap, cur, fz, rfl, Nat.le_trans hl hb, rest⟩
theorem Bv.keep {F : Nat → Prop} {w w' : World} {b lo : Nat} {v : Value} {bs : List Value} (h : Bv w b v lo bs) (hk : KeepF F w w') (hb : ¬ F b) (hv : ∀ k, v.ownBlock = some k → ¬ F k) : Bv w' b v lo bs := by
  have e := hk.block b h.lt hb
  exact ⟨by rw [e]; exact h.blk, rowF_keep h.own (fun k hk1 hk2 => hk.block k hk1 (hv k hk2)), h.nil_⟩
theorem Bv.lo {w : World} {b lo lo' : Nat} {v : Value} {bs : List Value} (h : Bv w b v lo bs) (hl : lo' ≤ lo) : Bv w b v lo' bs := ⟨h.blk, rowF_mono h.own hl, h.nil_⟩
theorem Bv.fresh {w : World} {b lo : Nat} {v : Value} {bs : List Value} (h : Bv w b v lo bs) (hb : bs = []) (lo' : Nat) : Bv w b v lo' bs := by
  have hv := h.nil_ hb
  subst hv; subst hb
  exact ⟨h.blk, World.ownsRowF_nil _ _ _ _, fun _ => rfl⟩
set_option maxHeartbeats 2000000 in
set_option maxRecDepth 100000 in
/-- copyCheck: the builder's block points at itself. -/
theorem bcc_v (b lo : Nat) (v : Value) (bs : List Value) (w : World) (h : Bv w b v lo bs) :
    Calls Tryz.prog 171 #[.pointer (some ⟨b, 0, none⟩)] w fun e w' => e = .returned (.tuple #[]) ∧ w'.heap[b]? = some (.cells #[.pointer (some ⟨b, 0, none⟩), v] 175 (0, 0)) ∧ w'.ownsRowF lo 5 1 v bs.length bs ∧ KeepF (fun k => k = b) w w' := by
  have hne := h.ne
  rcases h.blk with hb | hb
  · refine (bcc_fresh b w (by simp [World.cell?, hb]) (by simp [World.shape?, hb]) (by simp [World.frozen?, hb])).mono ?_
    rintro e w' ⟨rfl, rfl⟩
    refine ⟨rfl, by simp [World.setCell, Array.getElem?_modify, hb], rowF_keep h.own (fun k hk1 hk2 => ?_), KeepF.set (F := fun k => k = b) (a := ⟨b, 0, none⟩) rfl _⟩
    exact setCell_ne _ _ _ _ (fun e => hne (by rw [hk2]; exact congrArg some e))
  · refine (bcc_used b w (by simp [World.cell?, hb])).mono ?_
    rintro e w' ⟨rfl, rfl⟩
    exact ⟨rfl, hb, h.own, KeepF.refl _ _⟩
set_option maxHeartbeats 2000000 in
set_option maxRecDepth 100000 in
theorem bws_v (b lo : Nat) (v : Value) (bs : List Value) (s : ByteArray) (w : World) (h : Bv w b v lo bs) (hlen : bs.length + s.size ≤ 1000000) (hlo : lo ≤ w.heap.size) :
    Calls Tryz.prog 142 #[.pointer (some ⟨b, 0, none⟩), .string s] w fun e w' => e = .returned (.tuple #[.int .i64 s.size, .nilIface]) ∧ (∃ v', Bv w' b v' lo (bs ++ Lib.strCells s)) ∧ KeepF (fun k => k = b ∨ v.ownBlock = some k) w w' := by
  obtain ⟨i0, hi, hz0, hz1, hz2⟩ := info_parts infoBy
  have hne := h.ne
  have hnil := h.nil_
  go_enter Tryz.func142, Tryz.ntmps142
  go_wp2_with (go_at_call 171; refine (bcc_v b lo v bs _ h).mono ?_)
  rintro e w1 ⟨rfl, hbk, hown, hk1⟩
  have c0 : w1.cell? ⟨b, 0, none⟩ = some (.pointer (some ⟨b, 0, none⟩)) := by rw [Lib.cell_of_heap hbk]; rfl
  have c1 : w1.cell? ⟨b, 1, none⟩ = some v := by rw [Lib.cell_of_heap hbk]; rfl
  go_wp2_with (at_builtin; refine Lib.wpList_append_own_stringF _ rfl _ _ 98 9 rfl lo 5 i0 Tryz.underlying98 Tryz.underlying9 hi hz0 hz1 hz2 _ _ _ rfl hown s rfl ?c3 ?c4 ?c5 ?_)
  case c3 => unfold maxLen; omega
  case c4 => omega
  case c5 => have := hk1.size; omega
  intro v' w2 hown' hgrow hnn
  have hlt : b < w1.heap.size := (Array.getElem?_eq_some_iff.1 hbk).1
  have hb2 : w2.heap[b]? = some (.cells #[.pointer (some ⟨b, 0, none⟩), v] 175 (0, 0)) := by
    rw [hgrow.block b hlt (fun e => hne e.symm)]
    exact hbk
  have d0 : w2.cell? ⟨b, 0, none⟩ = some (.pointer (some ⟨b, 0, none⟩)) := by rw [Lib.cell_of_heap hb2]; rfl
  have d1 : w2.cell? ⟨b, 1, none⟩ = some v := by rw [Lib.cell_of_heap hb2]; rfl
  have f1 : w2.frozen? ⟨b, 1, none⟩ = false := Lib.frozen_of_heap hb2 1
  obtain ⟨ao, n', cap, rfl⟩ : ∃ ao n' cap, v' = .slice ao n' cap := by
    rcases hown'.2 with ⟨hv, _⟩ | ⟨g, cap, cur, fz, hv, _⟩
    · exact ⟨_, _, _, hv⟩
    · exact ⟨_, _, _, hv⟩
  have HN := Lib.hid hnn
  have HL := Lib.hid hnil
  clear hnn hnil
  go_wp2
  go_ret2
  have hne' := Lib.ownBlock_neF hown' hb2 (by decide)
  refine ⟨rfl, ⟨.slice ao n' cap, .inr ?_, ?_, ?_⟩, ?_⟩
  · simp [World.setCell, Array.getElem?_modify, hb2]
  · have hl : (bs ++ Lib.strCells s).length = bs.length + s.size := by rw [List.length_append, Lib.strCells_length]
    rw [hl]
    refine rowF_keep hown' (fun k hk1 hk2 => setCell_ne _ _ _ _ (fun e => hne' (by rw [hk2]; exact congrArg some e)))
  · intro he
    obtain ⟨h1, h2⟩ := List.append_eq_nil_iff.1 he
    exact HN.out.2 ⟨HL.out h1, by have := congrArg List.length h2; rw [Lib.strCells_length] at this; simpa using this⟩
  · have k1 : KeepF (fun k => k = b ∨ v.ownBlock = some k) w w1 := hk1.mono (fun k hk => .inl hk)
    have k2 : KeepF (fun k => k = b ∨ v.ownBlock = some k) w1 w2 := ⟨hgrow.os, hgrow.tape, hgrow.output, hgrow.size, fun k hk hn => hgrow.block k hk (fun e => hn (.inr e.symm))⟩
    exact (k1.trans k2).trans (KeepF.set (F := fun k => k = b ∨ v.ownBlock = some k) (a := ⟨b, 1, none⟩) (.inl rfl) _)
set_option maxHeartbeats 2000000 in
set_option maxRecDepth 100000 in
/-- String of a builder that holds bytes. -/
theorem bstr_row (b g cap m : Nat) (l : List UInt8) (p : Value) (w : World) (hbk : w.heap[b]? = some (.cells #[p, .slice (some ⟨g, 0, none⟩) l.length cap] 175 (0, 0))) (h0 : l ≠ []) (hcap : l.length ≤ cap) (hlen : l.length ≤ 1000000) (hsh : w.shape? g = some (5, m)) (hm : l.length ≤ m) (hc : ∀ (j : Nat) (x : UInt8), l[j]? = some x → w.cell? ((⟨g, 0, none⟩ : Addr).add j) = some (.int .u8 x.toNat)) :
    Calls Tryz.prog 145 #[.pointer (some ⟨b, 0, none⟩)] w fun e w' => e = .returned (.string ⟨l.toArray⟩) ∧ w' = w.drew.freeze ⟨g, 0, none⟩ l.length := by
  have hl0 : l.length ≠ 0 := by simpa using h0
  have c1 : w.drew.cell? ⟨b, 1, none⟩ = some (.slice (some ⟨g, 0, none⟩) l.length cap) := by
    have : w.drew.heap[b]? = some (.cells #[p, .slice (some ⟨g, 0, none⟩) l.length cap] 175 (0, 0)) := hbk
    rw [Lib.cell_of_heap this]; rfl
  have hSD : (Builtin.unsafeSliceData_ #[98] 208 #[.slice (some ⟨g, 0, none⟩) l.length cap]).run Tryz.prog w.drew = .ok (.pointer (some ⟨g, 0, none⟩)) w.drew :=
    Lib.run_unsafeSliceData_row _ _ _ _ _ _ (by omega)
  have hUS : (Builtin.unsafeString_ #[208, 3] 9 #[.pointer (some ⟨g, 0, none⟩), .int .i64 l.length]).run Tryz.prog w.drew = .ok (.string ⟨l.toArray⟩) (w.drew.freeze ⟨g, 0, none⟩ l.length) := by
    refine Lib.run_unsafeString_row w.drew 208 3 9 5 Tryz.underlying208 (by kernel_rfl) g m hsh l h0 (by omega) (by omega) ?_
    intro j x hx
    exact hc j x hx
  have mixed : Tryz.prog.follows Departure.mixedOrders = true := by kernel_rfl
  go_enter Tryz.func145, Tryz.ntmps145
  go_wp2
  go_region_o
  all_goals (go_wp2; go_ret; exact ⟨rfl, rfl⟩)
set_option maxHeartbeats 2000000 in
set_option maxRecDepth 100000 in
/-- String of a builder without a row. -/
theorem bstr_nil (b : Nat) (p : Value) (w : World) (hbk : w.heap[b]? = some (.cells #[p, .slice none 0 0] 175 (0, 0))) :
    Calls Tryz.prog 145 #[.pointer (some ⟨b, 0, none⟩)] w fun e w' => e = .returned (.string ⟨#[]⟩) ∧ w' = w.drew := by
  have c1 : w.drew.cell? ⟨b, 1, none⟩ = some (.slice none 0 0) := by
    have : w.drew.heap[b]? = some (.cells #[p, .slice none 0 0] 175 (0, 0)) := hbk
    rw [Lib.cell_of_heap this]; rfl
  have hSD : (Builtin.unsafeSliceData_ #[98] 208 #[.slice none 0 0]).run Tryz.prog w.drew = .ok (.pointer none) w.drew := rfl
  have hUS : ∀ W : World, (Builtin.unsafeString_ #[208, 3] 9 #[.pointer none, .int .i64 0]).run Tryz.prog W = .ok (.string ⟨#[]⟩) W := fun W => by kernel_rfl
  have mixed : Tryz.prog.follows Departure.mixedOrders = true := by kernel_rfl
  go_enter Tryz.func145, Tryz.ntmps145
  go_wp2
  go_region_o
  all_goals (go_wp2; go_ret; exact ⟨rfl, rfl⟩)
end Go.Proofs.YtlealeecmmpckaaGreat
namespace Go.Proofs.YtlealeecmmpckaaGreat
set_option linter.unusedVariables false
set_option linter.unusedSimpArgs false
open Go.RowKit Go.Lib Go.Shelf

abbrev Txt (w : World) (b : Nat) (r : ByteArray) : Prop := w.heap[b]? = some (.cells #[.string r] 9 (0, 0))
abbrev Tak (w : World) (B : Nat) : Prop := w.heap[B + 4]? = some (.cells #[.func (.func 140) #[] #[.pointer (some ⟨B, 0, none⟩)]] 176 (0, 0))
set_option maxHeartbeats 2000000 in
theorem take_any (B : Nat) (r : ByteArray) (n : Int) (w : World) (h : Txt w B r) (h0 : 0 ≤ n) (hn : n ≤ r.size) (hs : r.size ≤ 1000000) :
    Calls Tryz.prog 140 #[.int .i64 n, .pointer (some ⟨B, 0, none⟩)] w fun e w' => e = .returned (.string (r.extract 0 n.toNat)) ∧ w' = w.setCell ⟨B, 0, none⟩ (.string (r.extract n.toNat r.size)) := by
  obtain ⟨hc, hf⟩ := box1 h
  go_enter Tryz.func140, Tryz.ntmps140
  go_wp2
  go_returns
  exact ⟨rfl, rfl⟩
set_option maxHeartbeats 2000000 in
set_option maxRecDepth 100000 in
theorem parts2_any (B lo : Nat) (p : PcV) (r : ByteArray) (bs : List Value) (v : Value) (w : World) (ht : Txt w B r) (hk : Tak w B) (ho : Bv w (B + 1) v lo bs) (hlo : lo ≤ w.heap.size) (h0 : 0 ≤ p.n) (hn : p.n ≤ r.size) (hs : r.size ≤ 300000) (hl : bs.length ≤ 300000) :
    Calls Tryz.prog 141 #[.agg #[.int .u8 p.kind, .int .i64 p.n, .string p.text], .pointer (some ⟨B + 1, 0, none⟩), .pointer (some ⟨B + 4, 0, none⟩)] w fun e w' => e = .returned (.tuple #[]) ∧ Txt w' B (r.extract p.n.toNat r.size) ∧ (∃ v', Bv w' (B + 1) v' lo (bs ++ Lib.strCells (r.extract 0 p.n.toNat))) ∧ KeepF (fun k => k = B ∨ k = B + 1 ∨ v.ownBlock = some k) w w' := by
  obtain ⟨pk, pn, pt⟩ := p
  have hb0 := (Below.refl w.heap.size w).alloc (Nat.le_refl _) (.cells #[.int .u8 pk, .int .i64 pn, .string pt] 132)
  have hlt := ho.lt
  have hB : B < w.heap.size := by omega
  have hB4 := (Array.getElem?_eq_some_iff.1 hk).1
  have hk0 : KeepF (fun k => k = B ∨ k = B + 1 ∨ v.ownBlock = some k) w (w.alloc (.cells #[.int .u8 pk, .int .i64 pn, .string pt] 132)) := KeepF.of_below hb0
  have ht0 : Txt (w.alloc (.cells #[.int .u8 pk, .int .i64 pn, .string pt] 132)) B r := (heap_alloc_old _ _ hB).trans ht
  have hnB : v.ownBlock ≠ some B := Lib.ownBlock_neF ho.own ht (by decide)
  have hvlt : ∀ k, v.ownBlock = some k → k < w.heap.size := fun k hk => (ho.own.lt k hk).2
  have ho0 : Bv (w.alloc (.cells #[.int .u8 pk, .int .i64 pn, .string pt] 132)) (B + 1) v lo bs := ho.keep (F := fun _ => False) (KeepF.of_below hb0) (fun h => h) (fun _ _ h => h)
  have hkc := (box1 hk).1
  have hke : (r.extract 0 pn.toNat).size ≤ 300000 := by rw [ByteArray.size_extract]; omega
  dsimp only at h0 hn ⊢
  go_enter Tryz.func141, Tryz.ntmps141
  go_wp2_with (first | (go_at_call 140; refine (take_any B r pn _ ht0 h0 hn (by omega)).mono ?_; rintro e w1 ⟨rfl, hw1⟩; have k1 : KeepF (fun k => k = B) (w.alloc (.cells #[.int .u8 pk, .int .i64 pn, .string pt] 132)) w1 := (by rw [hw1]; exact KeepF.set (F := fun k => k = B) (a := ⟨B, 0, none⟩) rfl _); have ht1 : Txt w1 B (r.extract pn.toNat r.size) := (by rw [hw1]; exact box_set ht0); have ho1 := ho0.keep k1 (by omega) (fun k hk e => hnB (by rw [hk]; exact congrArg some e)); clear hw1) | (go_at_call 142; refine (bws_v (B + 1) lo v bs (r.extract 0 pn.toNat) _ ho1 (by omega) (by have := k1.size; simp at this; omega)).mono ?_; rintro e w2 ⟨rfl, ho2, k2⟩))
  go_end0
  refine ⟨rfl, (k2.block B (by have := k1.size; simp at this; omega) (by rintro (h | h); omega; exact hnB h)).trans ht1, ho2, ?_⟩
  exact (hk0.trans (k1.mono (fun k hk => .inl hk))).trans (k2.mono (fun k hk => .inr hk))
set_option maxHeartbeats 2000000 in
set_option maxRecDepth 100000 in
theorem parts3_any (B lo : Nat) (p : PcV) (r : ByteArray) (bs : List Value) (v : Value) (w : World) (ht : Txt w B r) (hk : Tak w B) (ho : Bv w (B + 2) v lo bs) (hlo : lo ≤ w.heap.size) (h0 : 0 ≤ p.n) (hn : p.n ≤ r.size) (hs : r.size ≤ 300000) (hl : bs.length ≤ 300000) :
    Calls Tryz.prog 143 #[.agg #[.int .u8 p.kind, .int .i64 p.n, .string p.text], .pointer (some ⟨B + 2, 0, none⟩), .pointer (some ⟨B + 4, 0, none⟩)] w fun e w' => e = .returned (.tuple #[]) ∧ Txt w' B (r.extract p.n.toNat r.size) ∧ (∃ v', Bv w' (B + 2) v' lo (bs ++ Lib.strCells (r.extract 0 p.n.toNat))) ∧ KeepF (fun k => k = B ∨ k = B + 2 ∨ v.ownBlock = some k) w w' := by
  obtain ⟨pk, pn, pt⟩ := p
  have hb0 := (Below.refl w.heap.size w).alloc (Nat.le_refl _) (.cells #[.int .u8 pk, .int .i64 pn, .string pt] 132)
  have hlt := ho.lt
  have hB : B < w.heap.size := by omega
  have hB4 := (Array.getElem?_eq_some_iff.1 hk).1
  have hk0 : KeepF (fun k => k = B ∨ k = B + 2 ∨ v.ownBlock = some k) w (w.alloc (.cells #[.int .u8 pk, .int .i64 pn, .string pt] 132)) := KeepF.of_below hb0
  have ht0 : Txt (w.alloc (.cells #[.int .u8 pk, .int .i64 pn, .string pt] 132)) B r := (heap_alloc_old _ _ hB).trans ht
  have hnB : v.ownBlock ≠ some B := Lib.ownBlock_neF ho.own ht (by decide)
  have hvlt : ∀ k, v.ownBlock = some k → k < w.heap.size := fun k hk => (ho.own.lt k hk).2
  have ho0 : Bv (w.alloc (.cells #[.int .u8 pk, .int .i64 pn, .string pt] 132)) (B + 2) v lo bs := ho.keep (F := fun _ => False) (KeepF.of_below hb0) (fun h => h) (fun _ _ h => h)
  have hkc := (box1 hk).1
  have hke : (r.extract 0 pn.toNat).size ≤ 300000 := by rw [ByteArray.size_extract]; omega
  dsimp only at h0 hn ⊢
  go_enter Tryz.func143, Tryz.ntmps143
  go_wp2_with (first | (go_at_call 140; refine (take_any B r pn _ ht0 h0 hn (by omega)).mono ?_; rintro e w1 ⟨rfl, hw1⟩; have k1 : KeepF (fun k => k = B) (w.alloc (.cells #[.int .u8 pk, .int .i64 pn, .string pt] 132)) w1 := (by rw [hw1]; exact KeepF.set (F := fun k => k = B) (a := ⟨B, 0, none⟩) rfl _); have ht1 : Txt w1 B (r.extract pn.toNat r.size) := (by rw [hw1]; exact box_set ht0); have ho1 := ho0.keep k1 (by omega) (fun k hk e => hnB (by rw [hk]; exact congrArg some e)); clear hw1) | (go_at_call 142; refine (bws_v (B + 2) lo v bs (r.extract 0 pn.toNat) _ ho1 (by omega) (by have := k1.size; simp at this; omega)).mono ?_; rintro e w2 ⟨rfl, ho2, k2⟩))
  go_end0
  refine ⟨rfl, (k2.block B (by have := k1.size; simp at this; omega) (by rintro (h | h); omega; exact hnB h)).trans ht1, ho2, ?_⟩
  exact (hk0.trans (k1.mono (fun k hk => .inl hk))).trans (k2.mono (fun k hk => .inr hk))
set_option maxHeartbeats 2000000 in
set_option maxRecDepth 100000 in
theorem parts4_any (B : Nat) (p : PcV) (bo bi : List Value) (vo vi : Value) (w : World) (ho : Bv w (B + 1) vo B bo) (hi : Bv w (B + 3) vi B bi) (he : bi = []) (hs : p.text.size ≤ 300000) (hl : bo.length ≤ 300000) :
    Calls Tryz.prog 144 #[.agg #[.int .u8 p.kind, .int .i64 p.n, .string p.text], .pointer (some ⟨B + 1, 0, none⟩), .pointer (some ⟨B + 3, 0, none⟩)] w fun e w' => e = .returned (.tuple #[]) ∧ (∃ vo' vi', Bv w' (B + 1) vo' B (bo ++ Lib.strCells p.text) ∧ Bv w' (B + 3) vi' B (bi ++ Lib.strCells p.text) ∧ ∀ k, vi'.ownBlock = some k → vo'.ownBlock ≠ some k) ∧ KeepF (fun k => k = B + 1 ∨ k = B + 3 ∨ vo.ownBlock = some k) w w' := by
  obtain ⟨pk, pn, pt⟩ := p
  have hb0 := (Below.refl w.heap.size w).alloc (Nat.le_refl _) (.cells #[.int .u8 pk, .int .i64 pn, .string pt] 132)
  have hz := heap_alloc_new w (.cells #[.int .u8 pk, .int .i64 pn, .string pt] 132)
  have hlt := hi.lt
  have hk0 : KeepF (fun k => k = B + 1 ∨ k = B + 3 ∨ vo.ownBlock = some k) w (w.alloc (.cells #[.int .u8 pk, .int .i64 pn, .string pt] 132)) := KeepF.of_below hb0
  have ho0 : Bv (w.alloc (.cells #[.int .u8 pk, .int .i64 pn, .string pt] 132)) (B + 1) vo B bo := ho.keep (F := fun _ => False) (KeepF.of_below hb0) (fun h => h) (fun _ _ h => h)
  have hi0 : Bv (w.alloc (.cells #[.int .u8 pk, .int .i64 pn, .string pt] 132)) (B + 3) vi B bi := hi.keep (F := fun _ => False) (KeepF.of_below hb0) (fun h => h) (fun _ _ h => h)
  have hvl : vi = .slice none 0 0 := hi.nil_ he
  have hvo : ∀ k, vo.ownBlock = some k → k < w.heap.size := fun k hk => (ho.own.lt k hk).2
  have hno3 : vo.ownBlock ≠ some (B + 3) := by
    rcases hi.blk with h | h
    · exact Lib.ownBlock_neF ho.own h (by decide)
    · exact Lib.ownBlock_neF ho.own h (by decide)
  subst hvl
  dsimp only at hs ⊢
  go_enter Tryz.func144, Tryz.ntmps144
  go_wp2_with (first | (go_at_call 142; have h3 := hi1; refine (bws_v (B + 3) _ _ bi pt _ (hi1.fresh he w1.heap.size) (by rw [he]; simp; omega) (Nat.le_refl _)).mono ?_; rintro e w2 ⟨rfl, hi2, k2⟩) | (go_at_call 142; refine (bws_v (B + 1) B vo bo pt _ ho0 (by omega) (by simp; omega)).mono ?_; rintro e w1 ⟨rfl, ho1, k1⟩; have hi1 := hi0.keep k1 (by rintro (h | h); omega; exact hno3 h) (fun k hk _ => by simp [Value.ownBlock] at hk); have hz1 := (k1.block w.heap.size (by simp) (by rintro (h | h); omega; exact absurd (hvo _ h) (by omega))).trans hz; obtain ⟨z0, z1, z2⟩ := blk3' hz1))
  go_end0
  obtain ⟨vo', ho1⟩ := ho1
  obtain ⟨vi', hi2⟩ := hi2
  have hno1 : vo'.ownBlock ≠ some (B + 3) := by
    rcases hi1.blk with h | h
    · exact Lib.ownBlock_neF ho1.own h (by decide)
    · exact Lib.ownBlock_neF ho1.own h (by decide)
  refine ⟨rfl, ⟨vo', vi', ho1.keep k2 (by rintro (h | h); omega; simp [Value.ownBlock] at h) (fun k hk => by rintro (h | h); exact hno1 (by rw [hk, h]); simp [Value.ownBlock] at h), hi2.lo (by have := k1.size; simp at this; omega), fun k hk ho => ?_⟩, ?_⟩
  · have h1 := (hi2.own.lt k hk).1
    have h2 := (ho1.own.lt k ho).2
    omega
  · exact (hk0.trans (k1.mono (fun k hk => hk.elim .inl (fun h => .inr (.inr h))))).trans (k2.mono (fun k hk => hk.elim (fun h => .inr (.inl h)) (fun h => by simp [Value.ownBlock] at h)))
end Go.Proofs.YtlealeecmmpckaaGreat
namespace Go.Proofs.YtlealeecmmpckaaGreat
set_option linter.unusedVariables false
set_option linter.unusedSimpArgs false

structure PaS where
  out : List UInt8
  gone : List UInt8
  ins : List UInt8
  rest : List UInt8
def paStep (s : PaS) (p : PcV) : PaS :=
  if p.kind = 1 then { s with out := s.out ++ s.rest.take p.n.toNat, rest := s.rest.drop p.n.toNat }
  else if p.kind = 2 then { s with out := s.out ++ p.text.data.toList, ins := s.ins ++ p.text.data.toList }
  else { s with gone := s.gone ++ s.rest.take p.n.toNat, rest := s.rest.drop p.n.toNat }
def paF (s : List UInt8) (d : List PcV) : PaS := d.foldl paStep ⟨[], [], [], s⟩
theorem paF_take {s : List UInt8} {d : List PcV} {k : Nat} {p : PcV} (h : d[k]? = some p) : paF s (d.take (k + 1)) = paStep (paF s (d.take k)) p := by
  unfold paF; rw [List.take_add_one, h, Option.toList_some, List.foldl_append]; rfl
/-- A piece may be performed: it fits; unless it is the last one, nothing but what was kept came before it. -/
def paOne (s : PaS) (p : PcV) (last : Bool) : Bool :=
  decide (0 ≤ p.n) && decide (p.n ≤ 100000) && decide (p.text.size ≤ 100000) && decide (s.out.length ≤ 300000) && decide (s.gone.length ≤ 300000) && decide (s.ins.length ≤ 300000) &&
  ((p.kind == 2) || ((p.kind == 1) || (p.kind == 3)) && decide (p.n.toNat ≤ s.rest.length)) && ((last && (p.kind == 1)) || (s.gone.isEmpty && s.ins.isEmpty))
def paAll : List PcV → PaS → Bool
  | [], _ => true
  | p :: d, s => paOne s p d.isEmpty && paAll d (paStep s p)
theorem paAll_get : ∀ {d : List PcV} {s : PaS} {k : Nat} {p : PcV}, paAll d s = true → d[k]? = some p → paOne ((d.take k).foldl paStep s) p (decide (k + 1 = d.length)) = true
  | q :: d, s, 0, p, h, hk => by
    simp only [List.getElem?_cons_zero, Option.some.injEq] at hk
    subst hk
    unfold paAll at h
    rw [Bool.and_eq_true] at h
    have : d.isEmpty = decide (0 + 1 = (q :: d).length) := by cases d <;> simp
    rw [← this]; exact h.1
  | q :: d, s, k + 1, p, h, hk => by
    unfold paAll at h
    rw [Bool.and_eq_true] at h
    have := paAll_get (k := k) h.2 (by simpa using hk)
    rw [List.take_succ_cons, List.foldl_cons]
    have e : decide (k + 1 + 1 = (q :: d).length) = decide (k + 1 = d.length) := by simp
    rw [e]; exact this
theorem rep_pa (t : ByteArray) (a n : Int) (x : ByteArray) (h : RepOK t.size a n x) : paAll (repD t.size a n x) ⟨[], [], [], t.data.toList⟩ = true ∧ (paF t.data.toList (repD t.size a n x)).out = (repT t a n x).data.toList := by
  obtain ⟨h1, h2, h3, h4, h5, h6⟩ := h
  have e0 : (⟨#[]⟩ : ByteArray).size = 0 := rfl
  have el : t.data.toList.length = t.size := by simp
  have ex : x.data.toList.length = x.size := by simp
  obtain ⟨T, hT⟩ : ∃ T, t.data.toList = T := ⟨_, rfl⟩
  obtain ⟨X, hX⟩ : ∃ X, x.data.toList = X := ⟨_, rfl⟩
  have er : (repT t a n x).data.toList = T.take a.toNat ++ X ++ T.drop (a + n).toNat := by unfold repT; rw [hT, hX]
  rw [er, hT]
  rw [hT] at el; rw [hX] at ex
  generalize hm : (t.size : Int) = m at *
  have hm2 : t.size = T.length := el.symm
  unfold repD
  rcases h6 with ⟨rfl, hx⟩ | ⟨hn, hx⟩
  · by_cases ha : 0 < a <;> by_cases hr : 0 < m - a - 0
    · rw [if_pos ha, if_pos hx, if_neg (by omega), if_pos hr]
      constructor
      · simp [paAll, paOne, paStep, e0, hX]; omega
      · have e : List.take (m - a - 0).toNat (List.drop a.toNat T) = T.drop (a + 0).toNat := by rw [Int.add_zero, List.take_of_length_le (by rw [List.length_drop]; omega)]
        simp [paF, paStep, hX] at e ⊢; exact e
    · rw [if_pos ha, if_pos hx, if_neg (by omega), if_neg hr]
      constructor
      · simp [paAll, paOne, paStep, e0, hX]; omega
      · have e : T.drop (a + 0).toNat = [] := by rw [List.drop_eq_nil_iff]; omega
        simp [paF, paStep, hX] at e ⊢; omega
    · rw [if_neg ha, if_pos hx, if_neg (by omega), if_pos hr]
      obtain rfl : a = 0 := by omega
      constructor
      · simp [paAll, paOne, paStep, e0, hX]; omega
      · have e : List.take (m - 0 - 0).toNat T = T := by rw [List.take_of_length_le (by omega)]
        simp [paF, paStep, hX] at e ⊢; exact e
    · rw [if_neg ha, if_pos hx, if_neg (by omega), if_neg hr]
      obtain rfl : a = 0 := by omega
      constructor
      · simp [paAll, paOne, paStep, e0, hX]; omega
      · have e : T = [] := List.eq_nil_of_length_eq_zero (by omega)
        simp [paF, paStep, hX, e]
  · have hX0 : X = [] := List.eq_nil_of_length_eq_zero (by omega)
    by_cases ha : 0 < a <;> by_cases hr : 0 < m - a - n
    · rw [if_pos ha, if_neg (by omega), if_pos hn, if_pos hr]
      constructor
      · simp [paAll, paOne, paStep, e0]; omega
      · have e : List.take (m - a - n).toNat (List.drop n.toNat (List.drop a.toNat T)) = T.drop (a + n).toNat := by rw [List.drop_drop, List.take_of_length_le (by rw [List.length_drop]; omega)]; congr 1; omega
        simp [paF, paStep, hX0] at e ⊢; exact e
    · rw [if_pos ha, if_neg (by omega), if_pos hn, if_neg hr]
      constructor
      · simp [paAll, paOne, paStep, e0]; omega
      · have e : T.drop (a + n).toNat = [] := by rw [List.drop_eq_nil_iff]; omega
        simp [paF, paStep, hX0, e]
    · rw [if_neg ha, if_neg (by omega), if_pos hn, if_pos hr]
      obtain rfl : a = 0 := by omega
      constructor
      · simp [paAll, paOne, paStep, e0]; omega
      · have e : List.take (m - 0 - n).toNat (List.drop n.toNat T) = T.drop (0 + n).toNat := by rw [Int.zero_add, List.take_of_length_le (by rw [List.length_drop]; omega)]
        simp [paF, paStep, hX0] at e ⊢; exact e
    · rw [if_neg ha, if_neg (by omega), if_pos hn, if_neg hr]
      obtain rfl : a = 0 := by omega
      constructor
      · simp [paAll, paOne, paStep, e0]; omega
      · have e : T.drop (0 + n).toNat = [] := by rw [List.drop_eq_nil_iff]; omega
        simp [paF, paStep, hX0, e]; omega
end Go.Proofs.YtlealeecmmpckaaGreat
namespace Go.Proofs.YtlealeecmmpckaaGreat
set_option linter.unusedVariables false
set_option linter.unusedSimpArgs false
open Go.RowKit Go.Lib Go.Shelf

set_option maxRecDepth 100000 in
set_option maxHeartbeats 2000000 in
theorem fits_any (s : ByteArray) (a : Option Addr) (c : Nat) (d : List PcV) (w : World) (hr : PRow w a d) (hs : d.length ≤ 1000000) (hc : d.length ≤ c) (hl : lenS d = ((s.size : Int), (lenS d).2.1, 0)) :
    Calls Tryz.prog 105 #[.string s, .slice a d.length c] w fun e w' => e = .returned (.int .i64 0) ∧ Below w.heap.size w w' := by
  have h1 := lengths_any a c d w hr hs hc
  rw [hl] at h1
  have H1 := Lib.hid h1
  clear h1 hl
  go_enter Tryz.func105, Tryz.ntmps105
  go_wp2_with (first | (go_at_call 107; refine H1.out.mono ?_; rintro e w1 ⟨rfl, hB1⟩))
  go_returns
  exact ⟨rfl, hB1⟩
theorem wpList_lookup_one {P : Program} (w : World) {ops : Array Oper} {rest : List Oper} {o : Oper} {a : Act} {Q : Exit → Act → World → Prop}
    (hg : o.guard = none) (m x : Operand) (t : TypeId) (hop : o.op = Op.lookup t m x false) (k e : TypeId) (ht : P.underlying t = some (.map k e)) (q : IntKind) (hk : P.underlying k = some (.int q))
    (b clock : Nat) (es : Array MapEntry) (i : Int) (hb : w.heap[b]? = some (.map es clock)) (hm : a.eval m = .map (some b)) (hx : a.eval x = .int q i) (j : Nat) (val : Value) (hf : Instr.findNow (.int q) (.int q i) es.toList 0 = some (some (j, val)))
    (hK : wpList P ops Q rest (a.put o.dst val) w) : wpList P ops Q (o :: rest) a w := by
  refine wpList_plain hg fun K' hK' => ?_
  have hc : (Instr.checkKey es.isEmpty 10000 k (.int q i)).run P w = .ok () w := MapKept.run_checkKey (k := .int q i) hk (by simp [MapKept.IsKey]) _ 9999
  have hrun : (Instr.lookup t (.map (some b)) (.int q i) false).run P w = .ok val w := by
    simp [Instr.lookup, run_underlying ht, MapKept.run_getObj_map hb, hc, MapKept.run_findKey hk hf, Result.andThen]
  unfold Oper.wp
  simp [execOp, hop, hm, hx, hrun, Result.andThen]
  exact hK' _ _ hK
def paE (B : Nat) : Array MapEntry := #[⟨.int .u8 1, .func (.func 141) #[] #[.pointer (some ⟨B + 1, 0, none⟩), .pointer (some ⟨B + 4, 0, none⟩)], 0⟩, ⟨.int .u8 3, .func (.func 143) #[] #[.pointer (some ⟨B + 2, 0, none⟩), .pointer (some ⟨B + 4, 0, none⟩)], 1⟩, ⟨.int .u8 2, .func (.func 144) #[] #[.pointer (some ⟨B + 1, 0, none⟩), .pointer (some ⟨B + 3, 0, none⟩)], 2⟩]
/-- The blocks of apply.parts in a state. -/
structure PaW (w : World) (B : Nat) (s : PaS) (r : ByteArray) (vo vg vi : Value) : Prop where
  rest : r.data.toList = s.rest
  text : Txt w B r
  out : Bv w (B + 1) vo B (Lib.byteCells s.out)
  gone : Bv w (B + 2) vg B (Lib.byteCells s.gone)
  ins : Bv w (B + 3) vi B (Lib.byteCells s.ins)
  take : Tak w B
  map : w.heap[B + 5]? = some (.map (paE B) 3)
theorem Bv.below {w w' : World} {b lo : Nat} {v : Value} {bs : List Value} (h : Bv w b v lo bs) (hb : Below w.heap.size w w') : Bv w' b v lo bs := h.keep (F := fun _ => False) (KeepF.of_below hb) (fun h => h) (fun _ _ h => h)
theorem PaW.below {w w' : World} {B : Nat} {s : PaS} {r : ByteArray} {vo vg vi : Value} (h : PaW w B s r vo vg vi) (hb : Below w.heap.size w w') : PaW w' B s r vo vg vi :=
  ⟨h.rest, (hb.block _ (Array.getElem?_eq_some_iff.1 h.text).1).trans h.text, h.out.below hb, h.gone.below hb, h.ins.below hb, (hb.block _ (Array.getElem?_eq_some_iff.1 h.take).1).trans h.take, (hb.block _ (Array.getElem?_eq_some_iff.1 h.map).1).trans h.map⟩
/-- Told apart, as long as something is written on. -/
def PaSep (vo vg vi : Value) : Prop := ∀ g, (vg.ownBlock = some g ∨ vi.ownBlock = some g) → vo.ownBlock ≠ some g
theorem own_nil {w : World} {b lo : Nat} {v : Value} {l : List UInt8} (h : Bv w b v lo (Lib.byteCells l)) (hl : l = []) : v.ownBlock = none := by
  rw [h.nil_ (by rw [hl]; rfl)]; rfl
theorem ext_take (r : ByteArray) (n : Nat) : Lib.strCells (r.extract 0 n) = Lib.byteCells (r.data.toList.take n) := by
  rw [Lib.strCells_eq]; congr 1; simp [ByteArray.data_extract]
theorem ext_drop (r : ByteArray) (n : Nat) : (r.extract n r.size).data.toList = r.data.toList.drop n := by
  simp [ByteArray.data_extract]
  exact List.take_of_length_le (by simp)
theorem own_lt {w : World} {b lo : Nat} {v : Value} {bs : List Value} (h : Bv w b v lo bs) : ∀ k, v.ownBlock = some k → lo ≤ k ∧ k < w.heap.size := fun k hk => h.own.lt k hk
theorem own_ty {w : World} {b lo k : Nat} {v : Value} {bs : List Value} {cs : Array Value} {T : TypeId} (h : Bv w b v lo bs) (hk : w.heap[k]? = some (.cells cs T (0, 0))) (hT : T ≠ 5) : v.ownBlock ≠ some k := Lib.ownBlock_neF h.own hk hT
theorem own_bl {w : World} {b b2 lo lo2 : Nat} {v v2 : Value} {bs bs2 : List Value} (h : Bv w b v lo bs) (h2 : Bv w b2 v2 lo2 bs2) : v.ownBlock ≠ some b2 := by
  rcases h2.blk with h3 | h3
  · exact own_ty h h3 (by decide)
  · exact own_ty h h3 (by decide)
theorem own_map {w : World} {b lo k c : Nat} {v : Value} {bs : List Value} {es : Array MapEntry} (h : Bv w b v lo bs) (hk : w.heap[k]? = some (.map es c)) : v.ownBlock ≠ some k := by
  rcases h.own.2 with ⟨rfl, _⟩ | ⟨g, cap, cur, fz, rfl, _, hg, _⟩
  · simp [Value.ownBlock]
  · intro e
    simp only [Value.ownBlock, Option.some.injEq] at e
    subst e
    rw [hk] at hg; cases hg
theorem paOne_split {s : PaS} {p : PcV} {last : Bool} (h : paOne s p last = true) : (0 ≤ p.n ∧ p.n ≤ 100000) ∧ p.text.size ≤ 100000 ∧ s.out.length ≤ 300000 ∧ s.gone.length ≤ 300000 ∧ s.ins.length ≤ 300000 ∧ (p.kind = 2 ∨ (p.kind = 1 ∨ p.kind = 3) ∧ p.n.toNat ≤ s.rest.length) ∧ ((last = true ∧ p.kind = 1) ∨ (s.gone = [] ∧ s.ins = [])) := by
  unfold paOne at h
  simp only [Bool.and_eq_true, Bool.or_eq_true, decide_eq_true_eq, beq_iff_eq, List.isEmpty_iff] at h
  obtain ⟨⟨⟨⟨⟨⟨⟨h1, h2⟩, h3⟩, h4⟩, h5⟩, h6⟩, h7⟩, h8⟩ := h
  exact ⟨⟨h1, h2⟩, h3, h4, h5, h6, h7, h8⟩
/-- A piece that is kept. -/
theorem pa_keep {w w' : World} {B : Nat} {s : PaS} {r : ByteArray} {vo vg vi vo' : Value} {p : PcV} (h : PaW w B s r vo vg vi) (hs : PaSep vo vg vi) (hk : p.kind = 1) (ht : Txt w' B (r.extract p.n.toNat r.size)) (ho : Bv w' (B + 1) vo' B (Lib.byteCells s.out ++ Lib.strCells (r.extract 0 p.n.toNat))) (hkf : KeepF (fun k => k = B ∨ k = B + 1 ∨ vo.ownBlock = some k) w w') :
    PaW w' B (paStep s p) (r.extract p.n.toNat r.size) vo' vg vi := by
  have e : paStep s p = { s with out := s.out ++ s.rest.take p.n.toNat, rest := s.rest.drop p.n.toNat } := by unfold paStep; rw [if_pos hk]
  rw [e]
  rw [ext_take, ← Lib.byteCells_append, h.rest] at ho
  refine ⟨by rw [ext_drop, h.rest], ht, ho, h.gone.keep hkf (by rintro (h' | h' | h'); omega; omega; exact own_bl h.out h.gone h') (fun k hk' => ?_), h.ins.keep hkf (by rintro (h' | h' | h'); omega; omega; exact own_bl h.out h.ins h') (fun k hk' => ?_), (hkf.block _ (Array.getElem?_eq_some_iff.1 h.take).1 (by rintro (h' | h' | h'); omega; omega; exact own_ty h.out h.take (by decide) h')).trans h.take, (hkf.block _ (Array.getElem?_eq_some_iff.1 h.map).1 (by rintro (h' | h' | h'); omega; omega; exact own_map h.out h.map h')).trans h.map⟩
  · rintro (h' | h' | h')
    · exact own_ty h.gone h.text (by decide) (by rw [hk', h'])
    · exact own_bl h.gone h.out (by rw [hk', h'])
    · exact hs k (.inl hk') h'
  · rintro (h' | h' | h')
    · exact own_ty h.ins h.text (by decide) (by rw [hk', h'])
    · exact own_bl h.ins h.out (by rw [hk', h'])
    · exact hs k (.inr hk') h'
/-- A piece that is removed. -/
theorem pa_gone {w w' : World} {B : Nat} {s : PaS} {r : ByteArray} {vo vg vi vg' : Value} {p : PcV} (h : PaW w B s r vo vg vi) (he : s.gone = [] ∧ s.ins = []) (hk : p.kind = 3) (ht : Txt w' B (r.extract p.n.toNat r.size)) (ho : Bv w' (B + 2) vg' w.heap.size (Lib.byteCells s.gone ++ Lib.strCells (r.extract 0 p.n.toNat))) (hBw : B ≤ w.heap.size) (hkf : KeepF (fun k => k = B ∨ k = B + 2 ∨ vg.ownBlock = some k) w w') :
    PaW w' B (paStep s p) (r.extract p.n.toNat r.size) vo vg' vi ∧ PaSep vo vg' vi := by
  have e : paStep s p = { s with gone := s.gone ++ s.rest.take p.n.toNat, rest := s.rest.drop p.n.toNat } := by unfold paStep; rw [if_neg (by omega), if_neg (by omega)]
  have n1 := own_nil h.gone he.1
  have n2 := own_nil h.ins he.2
  rw [e]
  rw [ext_take, ← Lib.byteCells_append, h.rest] at ho
  refine ⟨⟨by rw [ext_drop, h.rest], ht, h.out.keep hkf (by rintro (h' | h' | h'); omega; omega; rw [n1] at h'; cases h') (fun k hk' => ?_), ho.lo hBw, h.ins.keep hkf (by rintro (h' | h' | h'); omega; omega; rw [n1] at h'; cases h') (fun k hk' => by rw [n2] at hk'; cases hk'), (hkf.block _ (Array.getElem?_eq_some_iff.1 h.take).1 (by rintro (h' | h' | h'); omega; omega; rw [n1] at h'; cases h')).trans h.take, (hkf.block _ (Array.getElem?_eq_some_iff.1 h.map).1 (by rintro (h' | h' | h'); omega; omega; rw [n1] at h'; cases h')).trans h.map⟩, ?_⟩
  · rintro (h' | h' | h')
    · exact own_ty h.out h.text (by decide) (by rw [hk', h'])
    · exact own_bl h.out h.gone (by rw [hk', h'])
    · rw [n1] at h'; cases h'
  · rintro g (hg | hg) ho'
    · have := (own_lt ho g hg).1; have := (own_lt h.out g ho').2; omega
    · rw [n2] at hg; cases hg
/-- A piece that is inserted. -/
theorem pa_ins {w w' : World} {B : Nat} {s : PaS} {r : ByteArray} {vo vg vi vo' vi' : Value} {p : PcV} (h : PaW w B s r vo vg vi) (he : s.gone = [] ∧ s.ins = []) (hk : p.kind = 2) (ho : Bv w' (B + 1) vo' B (Lib.byteCells s.out ++ Lib.strCells p.text)) (hi : Bv w' (B + 3) vi' B (Lib.byteCells s.ins ++ Lib.strCells p.text)) (hs : ∀ k, vi'.ownBlock = some k → vo'.ownBlock ≠ some k) (hkf : KeepF (fun k => k = B + 1 ∨ k = B + 3 ∨ vo.ownBlock = some k) w w') :
    PaW w' B (paStep s p) r vo' vg vi' ∧ PaSep vo' vg vi' := by
  have e : paStep s p = { s with out := s.out ++ p.text.data.toList, ins := s.ins ++ p.text.data.toList } := by unfold paStep; rw [if_neg (by omega), if_pos hk]
  have n1 := own_nil h.gone he.1
  rw [e]
  rw [Lib.strCells_eq, ← Lib.byteCells_append] at ho hi
  refine ⟨⟨h.rest, (hkf.block _ (Array.getElem?_eq_some_iff.1 h.text).1 (by rintro (h' | h' | h'); omega; omega; exact own_ty h.out h.text (by decide) h')).trans h.text, ho, h.gone.keep hkf (by rintro (h' | h' | h'); omega; omega; exact own_bl h.out h.gone h') (fun k hk' => by rw [n1] at hk'; cases hk'), hi, (hkf.block _ (Array.getElem?_eq_some_iff.1 h.take).1 (by rintro (h' | h' | h'); omega; omega; exact own_ty h.out h.take (by decide) h')).trans h.take, (hkf.block _ (Array.getElem?_eq_some_iff.1 h.map).1 (by rintro (h' | h' | h'); omega; omega; exact own_map h.out h.map h')).trans h.map⟩, ?_⟩
  rintro g (hg | hg)
  · rw [n1] at hg; cases hg
  · exact hs g hg
theorem sep_nil {w : World} {B : Nat} {s : PaS} {r : ByteArray} {vo vg vi vo' : Value} (h : PaW w B s r vo vg vi) (he : s.gone = [] ∧ s.ins = []) : PaSep vo' vg vi := by
  rintro g (hg | hg)
  · rw [own_nil h.gone he.1] at hg; cases hg
  · rw [own_nil h.ins he.2] at hg; cases hg
end Go.Proofs.YtlealeecmmpckaaGreat
namespace Go.Proofs.YtlealeecmmpckaaGreat
set_option linter.unusedVariables false
set_option linter.unusedSimpArgs false
open Go.RowKit Go.Lib Go.Shelf

/-- A builder that can be read. -/
def Rb (w : World) (lo b : Nat) (l : List UInt8) : Prop :=
  ∃ p v, w.heap[b]? = some (.cells #[p, v] 175 (0, 0)) ∧ ((l = [] ∧ v = .slice none 0 0) ∨ (l ≠ [] ∧ ∃ g cap m, v = .slice (some ⟨g, 0, none⟩) l.length cap ∧ lo ≤ g ∧ l.length ≤ cap ∧ w.shape? g = some (5, m) ∧ l.length ≤ m ∧ ∀ (j : Nat) (x : UInt8), l[j]? = some x → w.cell? ((⟨g, 0, none⟩ : Addr).add j) = some (.int .u8 x.toNat)))
theorem Bv.rb {w : World} {b lo : Nat} {v : Value} {l : List UInt8} (h : Bv w b v lo (Lib.byteCells l)) : Rb w lo b l := by
  obtain ⟨p, hp⟩ : ∃ p, w.heap[b]? = some (.cells #[p, v] 175 (0, 0)) := h.blk.elim (fun h => ⟨_, h⟩) (fun h => ⟨_, h⟩)
  refine ⟨p, v, hp, ?_⟩
  by_cases hl : l = []
  · exact .inl ⟨hl, h.nil_ (by rw [hl]; rfl)⟩
  · have ho := h.own
    rw [Lib.byteCells_length] at ho
    refine .inr ⟨hl, ?_⟩
    have ho2 := ho.2
    rcases ho2 with ⟨_, h0⟩ | ⟨g, cap, cur, fz, rfl, hb, hg, hf, hc, hm, hs, ht⟩
    · exact absurd (List.eq_nil_of_length_eq_zero h0) hl
    · exact ⟨g, cap, cur.size, rfl, hb, hc, by simp [World.shape?, hg], by omega, fun j x hx => ho.cells (g := g) rfl j (.int .u8 x.toNat) (by simp [Lib.byteCells, hx])⟩
theorem freeze_heap (w : World) (a : Addr) (n k : Nat) : (w.freeze a n).heap[k]? = w.heap[k]? ∨ ∃ c e f f', w.heap[k]? = some (.cells c e f) ∧ (w.freeze a n).heap[k]? = some (.cells c e f') := by
  unfold World.freeze
  split
  · exact .inl rfl
  · simp only [Array.getElem?_modify]
    split
    · cases h2 : w.heap[k]? with
      | none => exact .inl rfl
      | some o =>
        cases o with
        | cells c e f => obtain ⟨lo, hi⟩ := f; exact .inr ⟨c, e, _, _, rfl, rfl⟩
        | _ => exact .inl rfl
    · exact .inl rfl
theorem freeze_cell (w : World) (a p : Addr) (n : Nat) : (w.freeze a n).cell? p = w.cell? p := by
  unfold World.cell?
  rcases freeze_heap w a n p.block with h | ⟨c, e, f, f', h1, h2⟩
  · rw [h]
  · rw [h1, h2]
theorem freeze_shape (w : World) (a : Addr) (k n : Nat) : (w.freeze a n).shape? k = w.shape? k := by
  unfold World.shape?
  rcases freeze_heap w a n k with h | ⟨c, e, f, f', h1, h2⟩
  · rw [h]
  · rw [h1, h2]
theorem freeze_block (w : World) (a : Addr) (k n : Nat) (h : k ≠ a.block) : (w.freeze a n).heap[k]? = w.heap[k]? := by
  unfold World.freeze
  split
  · rfl
  · simp only [Array.getElem?_modify]
    rw [if_neg (fun e => h e.symm)]
theorem Rb.freeze {w : World} {lo b g m n : Nat} {l : List UInt8} (h : Rb w lo b l) (hs : w.shape? g = some (5, m)) : Rb (w.drew.freeze ⟨g, 0, none⟩ n) lo b l := by
  obtain ⟨p, v, hb, hr⟩ := h
  have hne : b ≠ g := by
    rintro rfl
    have hb2 : w.heap[b]? = some (.cells #[p, v] 175 (0, 0)) := hb
    simp [World.shape?, hb2] at hs
  refine ⟨p, v, (freeze_block _ _ _ _ hne).trans hb, ?_⟩
  rcases hr with hr | ⟨h1, g2, cap, m2, h2, h3, h4, h5, h6, h7⟩
  · exact .inl hr
  · exact .inr ⟨h1, g2, cap, m2, h2, h3, h4, (freeze_shape _ _ _ _).trans h5, h6, fun j x hx => (freeze_cell _ _ _ _).trans (h7 j x hx)⟩
theorem Rb.drew {w : World} {lo b : Nat} {l : List UInt8} (h : Rb w lo b l) : Rb w.drew lo b l := h
theorem bstr_rb (lo b : Nat) (l : List UInt8) (w : World) (h : Rb w lo b l) (hl : l.length ≤ 1000000) :
    Calls Tryz.prog 145 #[.pointer (some ⟨b, 0, none⟩)] w fun e w' => e = .returned (.string ⟨l.toArray⟩) ∧ (∀ b2 l2, Rb w lo b2 l2 → Rb w' lo b2 l2) ∧ Below lo w w' := by
  obtain ⟨p, v, hb, hr⟩ := h
  rcases hr with ⟨rfl, rfl⟩ | ⟨h1, g, cap, m, rfl, h3, h4, h5, h6, h7⟩
  · refine (bstr_nil b p w hb).mono ?_
    rintro e w' ⟨rfl, rfl⟩
    exact ⟨rfl, fun b2 l2 h => h.drew, Below.drew (Below.refl _ w)⟩
  · refine (bstr_row b g cap m l p w hb h1 h4 hl h5 h6 h7).mono ?_
    rintro e w' ⟨rfl, rfl⟩
    exact ⟨rfl, fun b2 l2 h => h.freeze h5, Lib.below_freeze (Below.drew (Below.refl _ w)) (p := ⟨g, 0, none⟩) h3 _⟩
theorem paF_rest (s : List UInt8) : ∀ (d : List PcV), (paF s d).rest.length ≤ s.length := by
  have key : ∀ (d : List PcV) (st : PaS), (d.foldl paStep st).rest.length ≤ st.rest.length := by
    intro d
    induction d with
    | nil => intro st; exact Nat.le_refl _
    | cons p d ih =>
      intro st
      rw [List.foldl_cons]
      refine Nat.le_trans (ih _) ?_
      unfold paStep
      (repeat' split) <;> simp
  intro d
  exact key d _
theorem paF_len (N : Nat) : ∀ (d : List PcV) (st : PaS), st.rest.length ≤ N → (∀ p ∈ d, p.text.size ≤ N) → (d.foldl paStep st).out.length ≤ st.out.length + d.length * N ∧ (d.foldl paStep st).gone.length ≤ st.gone.length + d.length * N ∧ (d.foldl paStep st).ins.length ≤ st.ins.length + d.length * N
  | [], st, _, _ => by simp
  | p :: d, st, h1, h2 => by
    have hp := h2 p (by simp)
    have ht : p.text.data.toList.length = p.text.size := Array.length_toList
    have hr : (paStep st p).rest.length ≤ N := by unfold paStep; (repeat' split) <;> simp <;> omega
    have h3 : (paStep st p).out.length ≤ st.out.length + N ∧ (paStep st p).gone.length ≤ st.gone.length + N ∧ (paStep st p).ins.length ≤ st.ins.length + N := by
      unfold paStep; (repeat' split) <;> simp only [List.length_append, List.length_take] <;> omega
    obtain ⟨i1, i2, i3⟩ := paF_len N d (paStep st p) hr (fun q hq => h2 q (by simp [hq]))
    rw [List.foldl_cons, List.length_cons, Nat.succ_mul]
    omega
theorem below_keepF {F : Nat → Prop} {B : Nat} {w0 w w' : World} (h : Below B w0 w) (hk : KeepF F w w') (hF : ∀ k, F k → B ≤ k) (hB : B ≤ w.heap.size) : Below B w0 w' :=
  ⟨hk.os.trans h.os, hk.tape.trans h.tape, hk.output.trans h.output, Nat.le_trans h.size hk.size, fun k hk' => (hk.block k (by omega) (fun hf => absurd (hF k hf) (by omega))).trans (h.block k hk')⟩
/-- A state of the loop. -/
structure PaI (w : World) (wr : World) (s : ByteArray) (d : List PcV) (k : Nat) (r : ByteArray) (vo vg vi : Value) : Prop where
  pa : PaW wr w.heap.size (paF s.data.toList (d.take k)) r vo vg vi
  sep : k < d.length → PaSep vo vg vi
  bl : Below w.heap.size w wr
theorem paw_start {w W : World} {s : ByteArray} {es : Array MapEntry} (hm : W.heap[w.heap.size + 5]? = some (.map es 3)) (he : es = paE w.heap.size)
    (hB : Below (w.heap.size + 5) (((((w.alloc (.cells #[.string s] 9)).alloc (.cells #[.pointer none, .slice none 0 0] 175)).alloc (.cells #[.pointer none, .slice none 0 0] 175)).alloc (.cells #[.pointer none, .slice none 0 0] 175)).alloc (.cells #[.func (.func 140) #[] #[.pointer (some ⟨w.heap.size, 0, none⟩)]] 176)) W) :
    PaW W w.heap.size ⟨[], [], [], s.data.toList⟩ s (.slice none 0 0) (.slice none 0 0) (.slice none 0 0) := by
  have b0 : W.heap[w.heap.size]? = some (.cells #[.string s] 9 (0, 0)) := by
    rw [hB.block _ (by omega), heap_alloc_old _ _ (by simp [World.size_alloc]; try omega), heap_alloc_old _ _ (by simp [World.size_alloc]; try omega), heap_alloc_old _ _ (by simp [World.size_alloc]; try omega), heap_alloc_old _ _ (by simp [World.size_alloc]; try omega), heap_alloc_new]
  have b1 : W.heap[w.heap.size + 1]? = some (.cells #[.pointer none, .slice none 0 0] 175 (0, 0)) := by
    rw [hB.block _ (by omega), heap_alloc_old _ _ (by simp; try omega), heap_alloc_old _ _ (by simp; try omega), heap_alloc_old _ _ (by simp)]
    have := heap_alloc_new (w.alloc (.cells #[.string s] 9)) (.cells #[.pointer none, .slice none 0 0] 175)
    rwa [World.size_alloc] at this
  have b2 : W.heap[w.heap.size + 2]? = some (.cells #[.pointer none, .slice none 0 0] 175 (0, 0)) := by
    rw [hB.block _ (by omega), heap_alloc_old _ _ (by simp; try omega), heap_alloc_old _ _ (by simp)]
    have := heap_alloc_new ((w.alloc (.cells #[.string s] 9)).alloc (.cells #[.pointer none, .slice none 0 0] 175)) (.cells #[.pointer none, .slice none 0 0] 175)
    rwa [World.size_alloc, World.size_alloc] at this
  have b3 : W.heap[w.heap.size + 3]? = some (.cells #[.pointer none, .slice none 0 0] 175 (0, 0)) := by
    rw [hB.block _ (by omega), heap_alloc_old _ _ (by simp)]
    have := heap_alloc_new (((w.alloc (.cells #[.string s] 9)).alloc (.cells #[.pointer none, .slice none 0 0] 175)).alloc (.cells #[.pointer none, .slice none 0 0] 175)) (.cells #[.pointer none, .slice none 0 0] 175)
    rwa [World.size_alloc, World.size_alloc, World.size_alloc] at this
  have b4 : Tak W w.heap.size := by
    show W.heap[w.heap.size + 4]? = _
    rw [hB.block _ (by omega)]
    have := heap_alloc_new ((((w.alloc (.cells #[.string s] 9)).alloc (.cells #[.pointer none, .slice none 0 0] 175)).alloc (.cells #[.pointer none, .slice none 0 0] 175)).alloc (.cells #[.pointer none, .slice none 0 0] 175)) (.cells #[.func (.func 140) #[] #[.pointer (some ⟨w.heap.size, 0, none⟩)]] 176)
    rwa [World.size_alloc, World.size_alloc, World.size_alloc, World.size_alloc] at this
  exact ⟨rfl, b0, ⟨.inl b1, World.ownsRowF_nil _ _ _ _, fun _ => rfl⟩, ⟨.inl b2, World.ownsRowF_nil _ _ _ _, fun _ => rfl⟩, ⟨.inl b3, World.ownsRowF_nil _ _ _ _, fun _ => rfl⟩, b4, by rw [← he]; exact hm⟩
set_option maxRecDepth 100000 in
set_option maxHeartbeats 4000000 in
theorem parts_any (s : ByteArray) (a : Option Addr) (c : Nat) (d : List PcV) (w : World) (hr : PRow w a d) (hc : d.length ≤ c) (hok : paAll d ⟨[], [], [], s.data.toList⟩ = true) (hlen : d.length ≤ 4) (hs : s.size ≤ 100000) :
    Calls Tryz.prog 106 #[.string s, .slice a d.length c] w fun e w' => ∃ x y, e = .returned (.tuple #[.string ⟨(paF s.data.toList d).out.toArray⟩, .string x, .string y]) ∧ Below w.heap.size w w' := by
  obtain ⟨W5, hW5⟩ : ∃ W5, W5 = (((((w.alloc (.cells #[.string s] 9)).alloc (.cells #[.pointer none, .slice none 0 0] 175)).alloc (.cells #[.pointer none, .slice none 0 0] 175)).alloc (.cells #[.pointer none, .slice none 0 0] 175)).alloc (.cells #[.func (.func 140) #[] #[.pointer (some ⟨w.heap.size, 0, none⟩)]] 176)) := ⟨_, rfl⟩
  have hsz : W5.heap.size = w.heap.size + 1 + 1 + 1 + 1 + 1 := by rw [hW5]; simp
  have hBw : Below w.heap.size w W5 := by rw [hW5]; exact (((((Below.refl _ w).alloc (Nat.le_refl _) _).alloc (by simp) _).alloc (by simp; try omega) _).alloc (by simp; try omega) _).alloc (by simp; try omega) _
  have hmb := heap_alloc_new W5 (.map #[] 0)
  rw [hsz] at hmb
  have hB := (Below.refl (w.heap.size + 5) W5).alloc (by omega) (.map #[] 0)
  have HBw := Lib.hid hBw
  have hlens : (paF s.data.toList d).out.length ≤ 1000000 ∧ (paF s.data.toList d).gone.length ≤ 1000000 ∧ (paF s.data.toList d).ins.length ≤ 1000000 := by
    have h := paF_len 100000 d ⟨[], [], [], s.data.toList⟩ (by show s.data.toList.length ≤ _; rw [Array.length_toList]; exact hs) (fun p hp => by
      obtain ⟨k, hk⟩ := List.getElem?_of_mem hp
      exact (paOne_split (paAll_get hok hk)).2.1)
    have h4 : d.length * 100000 ≤ 400000 := by omega
    obtain ⟨a1, a2, a3⟩ := h
    refine ⟨Nat.le_trans a1 ?_, Nat.le_trans a2 ?_, Nat.le_trans a3 ?_⟩ <;> simp only [List.length_nil] <;> omega
  have HL := Lib.hid hlens
  clear hBw hsz hlens
  subst hW5
  go_enter Tryz.func106, Tryz.ntmps106
  go_wp2_with (first | (refine wpList_makeMap_lit _ rfl _ rfl ?_) | (refine wpList_insert_lit _ rfl _ _ _ _ rfl _ _ Tryz.underlying181 _ Tryz.underlying5 _ _ _ _ hmb rfl rfl _ rfl (by rfl) ?_; intro v hm; replace hB := below_mapW hB (by omega) hm; replace hmb := hm.blk; clear hm))
  have hP0 := paw_start (s := s) hmb rfl hB
  have hBl : Below w.heap.size w _ := HBw.out.trans (hB.mono (by omega))
  clear hB hmb HBw
  go_loopw [13, 22, 23, 24, 25, 26, 27, 28, 29, 30, 31, 32] (fun x13 i x23 x24 x25 x26 x27 x28 x29 x30 x31 x32 wr => ∃ (k : Nat) (r : ByteArray) (vo vg vi : Value), i = .int .i64 k ∧ k ≤ d.length ∧ PaI w wr s d k r vo vg vi) (fun x13 i x23 x24 x25 x26 x27 x28 x29 x30 x31 x32 wr => d.length - (intOf i).toNat)
  case atStart => exact ⟨0, s, _, _, _, rfl, by omega, hP0, fun _ => by rintro g (h | h) <;> simp [Value.ownBlock] at h, hBl⟩
  case round =>
    clear hP0 hBl
    obtain ⟨k, r, vo, vg, vi, rfl, hk, hI⟩ := hrel
    by_cases hlt : k < d.length
    · have hx := List.getElem?_eq_getElem hlt
      generalize d[k] = p at hx
      have hone := paOne_split (paAll_get hok hx)
      have hnx := paF_take (s := s.data.toList) hx
      have hrest := paF_rest s.data.toList (d.take k)
      have hpa := hI.pa
      have hsep := hI.sep hlt
      have hbl := hI.bl
      change (0 ≤ p.n ∧ p.n ≤ 100000) ∧ p.text.size ≤ 100000 ∧ (paF s.data.toList (d.take k)).out.length ≤ 300000 ∧ (paF s.data.toList (d.take k)).gone.length ≤ 300000 ∧ (paF s.data.toList (d.take k)).ins.length ≤ 300000 ∧ (p.kind = 2 ∨ (p.kind = 1 ∨ p.kind = 3) ∧ p.n.toNat ≤ (paF s.data.toList (d.take k)).rest.length) ∧ ((decide (k + 1 = d.length) = true ∧ p.kind = 1) ∨ ((paF s.data.toList (d.take k)).gone = [] ∧ (paF s.data.toList (d.take k)).ins = [])) at hone
      generalize paF s.data.toList (d.take k) = S at hone hnx hrest hpa
      obtain ⟨⟨hn0, hn1⟩, htx, ho1, ho2, ho3, hkd, hlast⟩ := hone
      have hrs : r.size = S.rest.length := by rw [← hpa.rest]; exact Array.length_toList.symm
      have hss : s.data.toList.length = s.size := Array.length_toList
      have hrz : r.size ≤ 300000 := by omega
      rcases hr.on hbl with ⟨_, h2⟩ | ⟨b, off, rfl, hb, hcell⟩
      · rw [h2] at hlt; simp at hlt
      have c0 : wr.cell? ⟨b, off + k * 3, none⟩ = some (.int .u8 p.kind) := hcell k p hx 0 _ rfl
      have c1 : wr.cell? ⟨b, off + k * 3 + 1, none⟩ = some (.int .i64 p.n) := hcell k p hx 1 _ rfl
      have c2 : wr.cell? ⟨b, off + k * 3 + 2, none⟩ = some (.string p.text) := hcell k p hx 2 _ rfl
      have hsz := hbl.size
      have hb1 := (Below.refl wr.heap.size wr).alloc (Nat.le_refl _) (.cells #[.int .u8 p.kind, .int .i64 p.n, .string p.text] 132)
      have hP1 := hpa.below hb1
      have hm1 := hP1.map
      have hbl1 := hbl.trans (hb1.mono hsz)
      have hss1 : (wr.alloc (.cells #[.int .u8 p.kind, .int .i64 p.n, .string p.text] 132)).heap.size = wr.heap.size + 1 := by simp
      clear hI hpa hcell hok hr hbl hb1
      have HNX := Lib.hid hnx
      have HLA := Lib.hid hlast
      clear hnx hlast hss
      have hown : ∀ v lo bs b', Bv wr b' v lo bs → True := fun _ _ _ _ _ => trivial
      clear hown
      have kO := fun k hk => (own_lt hP1.out k hk).1
      have kG := fun k hk => (own_lt hP1.gone k hk).1
      rcases hkd with hk2 | ⟨hk1 | hk3, hfit⟩
      · obtain ⟨pk, pn, pt⟩ := p
        obtain rfl : pk = 2 := hk2
        have he := HLA.out.resolve_left (fun h => by have := h.2; dsimp only at this; omega)
        have HE := Lib.hid he
        clear he
        go_wp2_with (first | (refine wpList_lookup_one _ rfl _ _ _ rfl _ _ Tryz.underlying181 _ Tryz.underlying5 _ _ _ _ hm1 rfl rfl _ _ (by rfl) ?_) | (go_at_call 144; refine (parts4_any w.heap.size ⟨2, pn, pt⟩ _ _ _ _ _ hP1.out hP1.ins (by rw [HE.out.2]; rfl) (by dsimp only at htx ⊢; omega) (by rw [Lib.byteCells_length]; exact ho1)).mono ?_; rintro e w2 ⟨rfl, ⟨vo', vi', hq1, hq2, hq3⟩, hkf⟩; obtain ⟨hP2, hS2⟩ := pa_ins hP1 HE.out rfl hq1 hq2 hq3 hkf; have hbl2 := below_keepF hbl1 hkf (by rintro k (rfl | rfl | hk); omega; omega; exact kO k hk) (by omega)))
        go_roundw
        case rel => exact ⟨k + 1, r, vo', vg, vi', by go_num, by omega, by rw [HNX.out]; exact hP2, fun _ => hS2, hbl2⟩
        case measure => simp [intOf]; omega
      · obtain ⟨pk, pn, pt⟩ := p
        obtain rfl : pk = 1 := hk1
        dsimp only at hn0 hn1 hfit
        go_wp2_with (first | (refine wpList_lookup_one _ rfl _ _ _ rfl _ _ Tryz.underlying181 _ Tryz.underlying5 _ _ _ _ hm1 rfl rfl _ _ (by rfl) ?_) | (go_at_call 141; refine (parts2_any w.heap.size w.heap.size ⟨1, pn, pt⟩ r _ _ _ hP1.text hP1.take hP1.out (by omega) hn0 (by dsimp only; omega) (by omega) (by rw [Lib.byteCells_length]; exact ho1)).mono ?_; rintro e w2 ⟨rfl, hq1, ⟨vo', hq2⟩, hkf⟩; have hP2 := pa_keep hP1 hsep rfl hq1 hq2 hkf; have hbl2 := below_keepF hbl1 hkf (by rintro k (rfl | rfl | hk); omega; omega; exact kO k hk) (by omega)))
        go_roundw
        case rel =>
          exact ⟨k + 1, _, vo', vg, vi, by go_num, by omega, by rw [HNX.out]; exact hP2, fun hl => by
            rcases HLA.out with ⟨h1, _⟩ | he
            · have := of_decide_eq_true h1; omega
            · exact sep_nil hP1 he, hbl2⟩
        case measure => simp [intOf]; omega
      · obtain ⟨pk, pn, pt⟩ := p
        obtain rfl : pk = 3 := hk3
        dsimp only at hn0 hn1 hfit
        have he := HLA.out.resolve_left (fun h => by have := h.2; dsimp only at this; omega)
        have HE := Lib.hid he
        clear he
        go_wp2_with (first | (refine wpList_lookup_one _ rfl _ _ _ rfl _ _ Tryz.underlying181 _ Tryz.underlying5 _ _ _ _ hm1 rfl rfl _ _ (by rfl) ?_) | (go_at_call 143; refine (parts3_any w.heap.size _ ⟨3, pn, pt⟩ r _ _ _ hP1.text hP1.take (hP1.gone.fresh (by rw [HE.out.1]; rfl) _) (Nat.le_refl _) hn0 (by dsimp only; omega) (by omega) (by rw [Lib.byteCells_length]; exact ho2)).mono ?_; rintro e w2 ⟨rfl, hq1, ⟨vg', hq2⟩, hkf⟩; obtain ⟨hP2, hS2⟩ := pa_gone hP1 HE.out rfl hq1 hq2 (by omega) hkf; have hbl2 := below_keepF hbl1 hkf (by rintro k (rfl | rfl | hk); omega; omega; exact kG k hk) (by omega)))
        go_roundw
        case rel => exact ⟨k + 1, _, vo, vg', vi, by go_num, by omega, by rw [HNX.out]; exact hP2, fun _ => hS2, hbl2⟩
        case measure => simp [intOf]; omega
    · obtain rfl : k = d.length := by omega
      have hP := hI.pa
      have hbl := hI.bl
      rw [List.take_length] at hP
      have r1 := hP.out.rb
      have r2 := hP.gone.rb
      have r3 := hP.ins.rb
      have hsz := hbl.size
      obtain ⟨l1, l2, l3⟩ := HL.out
      clear hP hI HL hok
      obtain ⟨xo, hxo⟩ : ∃ xo, (paF s.data.toList d).out = xo := ⟨_, rfl⟩
      rw [hxo] at r1 l1
      have HXO := Lib.hid hxo
      clear hxo
      generalize (paF s.data.toList d).gone = xg at r2 l2
      generalize (paF s.data.toList d).ins = xi at r3 l3
      go_wp2_with (first | (go_at_call 145; have h2 := q2; refine (bstr_rb w.heap.size (w.heap.size + 3) xi _ q2 l3).mono ?_; rintro e w3 ⟨rfl, _, hb3⟩) | (go_at_call 145; have h1 := q1; refine (bstr_rb w.heap.size (w.heap.size + 2) xg _ q1 l2).mono ?_; rintro e w2 ⟨rfl, hk2, hb2⟩; have q2 := hk2 _ _ (hk1 _ _ r3)) | (go_at_call 145; refine (bstr_rb w.heap.size (w.heap.size + 1) xo _ r1 l1).mono ?_; rintro e w1 ⟨rfl, hk1, hb1⟩; have q1 := hk1 _ _ r2))
      go_returns
      exact ⟨⟨xg.toArray⟩, ⟨xi.toArray⟩, by rw [HXO.out]; rfl, ((hbl.trans hb1).trans hb2).trans hb3⟩
set_option maxRecDepth 100000 in
set_option maxHeartbeats 2000000 in
theorem apply_any (s : ByteArray) (at_ n : Int) (x : ByteArray) (a : Option Addr) (c : Nat) (w : World) (hrep : RepOK s.size at_ n x) (hr : PRow w a (repD s.size at_ n x)) (hc : (repD s.size at_ n x).length ≤ c) :
    Calls Tryz.prog 64 #[.string s, .slice a (repD s.size at_ n x).length c] w fun e w' => e = .returned (.tuple #[.string (repT s at_ n x), .int .i64 0]) ∧ Below w.heap.size w w' := by
  obtain ⟨_, _, _, hlen⟩ := rep_ok hrep
  obtain ⟨hpa, hout⟩ := rep_pa s at_ n x hrep
  have hl4 := repD_len s.size at_ n x
  have hsz : s.size ≤ 100000 := by have := hrep.2.2.2.1; omega
  have hf := fits_any s a c (repD s.size at_ n x) w hr (by omega) hc (by rw [hlen])
  have hp := fun W (hW : PRow W a (repD s.size at_ n x)) => parts_any s a c (repD s.size at_ n x) W hW hc hpa hl4 hsz
  have he : (⟨(paF s.data.toList (repD s.size at_ n x)).out.toArray⟩ : ByteArray) = repT s at_ n x := by rw [hout]
  rw [he] at hp
  have HF := Lib.hid hf; have HP := Lib.hid hp
  clear hf hp he hout hpa hlen
  generalize repD s.size at_ n x = D at *
  go_enter Tryz.func64, Tryz.ntmps64
  go_wp2_with (first | (go_at_call 105; refine HF.out.mono ?_; rintro e w1 ⟨rfl, hB1⟩) | (go_at_call 106; refine (HP.out _ (hr.on hB1)).mono ?_; rintro e w2 ⟨x1, x2, rfl, hB2⟩))
  go_returns
  exact ⟨rfl, hB1.trans (hB2.mono hB1.size)⟩
end Go.Proofs.YtlealeecmmpckaaGreat
namespace Go.Proofs.YtlealeecmmpckaaGreat
set_option linter.unusedVariables false
set_option linter.unusedSimpArgs false

/-- What an operation on a snapshot does to a seat. -/
def reaF (se : SeV) (o : OpV) : ResV × SeV :=
  if slotE se o ≠ 0 then (failR (slotE se o), se) else
  ((snpS (se.slots.getD o.slot.toNat default) o).1, { se with slots := se.slots.set o.slot.toNat (snpS (se.slots.getD o.slot.toNat default) o).2 })
theorem rea_F (st : MS) (c : Nat) (o : OpV) : reaS st c o = ((reaF (st.seat c) o).1, st.put c (reaF (st.seat c) o).2) := by
  unfold reaS reaF
  split
  · rw [put_self]
  · rfl
theorem putE_len (st : MS) (c : Nat) (s : SeV) : (st.put c s).seats.length = st.seats.length := by unfold MS.put; exact List.length_set ..
theorem op_put {st : MS} {c d : Nat} {s : SeV} (q : OpV) (h : c ≠ d) : opS (st.put c s) d q = ((opS st d q).1, (opS st d q).2.put c s) := by
  have hs : (st.put c s).seat d = st.seat d := put_seat_ne h
  unfold opS
  split
  · have e : insE (st.put c s) q = insE st q := rfl
    unfold insS; rw [e]; split <;> rfl
  split
  · have e : delE (st.put c s) q = delE st q := rfl
    unfold delS; rw [e]; split <;> rfl
  split
  · have e : setE (st.put c s) q = setE st q := rfl
    unfold setS; rw [e]; split
    · rfl
    · show (if hasM q.id st.marks = true ∨ st.marks.length < 64 then _ else _) = _
      split <;> rfl
  split
  · unfold drpS
    show (if st.closed then _ else _) = _
    split
    · rfl
    · show (if hasM q.id st.marks then _ else _) = _
      split <;> rfl
  split
  · unfold acqS
    rw [hs]
    show (if st.closed then _ else _) = _
    split
    · rfl
    · cases (st.seat d).slots.findIdx? (fun s => !s.held) with
      | none => rfl
      | some k =>
        show ((_ : ResV), (st.put c s).put d { (st.put c s).seat d with slots := ((st.put c s).seat d).slots.set k _ }) = _
        rw [hs, put_comm h]
        rfl
  split
  · unfold subS
    rw [hs]
    show (if (st.seat d).sub then _ else if st.closed then _ else _) = _
    split
    · rfl
    · split
      · rfl
      · rw [put_comm h]; rfl
  split
  · unfold recS
    rw [hs]
    show (if !(st.seat d).sub then _ else if st.closed then _ else _) = _
    split
    · rfl
    · split <;> rfl
  split
  · unfold cloS
    show (if st.closed then _ else _) = _
    split <;> rfl
  · rw [rea_F, rea_F, hs, put_comm h]
theorem stat_put (st : MS) (c : Nat) (s : SeV) (d : Int) (q : OpV) : statE (st.put c s) d q = statE st d q := by unfold statE; rw [putE_len]
theorem do_put {st : MS} {c : Nat} {d : Int} {s : SeV} (q : OpV) (h : (c : Int) ≠ d) : doS (st.put c s) d q = ((doS st d q).1, (doS st d q).2.put c s) := by
  unfold doS
  rw [stat_put]
  split
  · rfl
  · rename_i he
    obtain ⟨h0, _, _⟩ := statE_ok (Decidable.not_not.1 he)
    exact op_put q (by omega)
theorem op_seat {st : MS} {c d : Nat} (q : OpV) (h : c ≠ d) : (opS st d q).2.seat c = st.seat c ∧ (opS st d q).2.seats.length = st.seats.length := by
  have hp : ∀ s : SeV, (st.put d s).seat c = st.seat c ∧ (st.put d s).seats.length = st.seats.length := fun s => ⟨put_seat_ne (Ne.symm h), putE_len _ _ _⟩
  unfold opS
  split
  · unfold insS; split <;> exact ⟨rfl, rfl⟩
  split
  · unfold delS; split <;> exact ⟨rfl, rfl⟩
  split
  · unfold setS; split
    · exact ⟨rfl, rfl⟩
    · split <;> exact ⟨rfl, rfl⟩
  split
  · unfold drpS; split
    · exact ⟨rfl, rfl⟩
    · split <;> exact ⟨rfl, rfl⟩
  split
  · unfold acqS; split
    · exact ⟨rfl, rfl⟩
    · split
      · exact ⟨rfl, rfl⟩
      · exact hp _
  split
  · unfold subS; split
    · exact ⟨rfl, rfl⟩
    · split
      · exact ⟨rfl, rfl⟩
      · exact hp _
  split
  · unfold recS; split
    · exact ⟨rfl, rfl⟩
    · split <;> exact ⟨rfl, rfl⟩
  split
  · unfold cloS; split <;> exact ⟨rfl, rfl⟩
  · rw [rea_F]; exact hp _
theorem do_seat {st : MS} {c : Nat} {d : Int} (q : OpV) (h : (c : Int) ≠ d) : (doS st d q).2.seat c = st.seat c ∧ (doS st d q).2.seats.length = st.seats.length := by
  unfold doS
  split
  · exact ⟨rfl, rfl⟩
  · rename_i he
    obtain ⟨h0, _, _⟩ := statE_ok (Decidable.not_not.1 he)
    exact op_seat q (by omega)
theorem do_len (st : MS) (d : Int) (q : OpV) : (doS st d q).2.seats.length = st.seats.length := by
  by_cases hd : 0 ≤ d
  · obtain ⟨c, hc⟩ : ∃ c : Nat, (c : Int) ≠ d := ⟨d.toNat + 1, by omega⟩
    exact (do_seat q hc).2
  · exact (do_seat (c := 0) q (by omega)).2
theorem do_stat {st : MS} {c : Int} {p : OpV} (he : statE st c p ≠ 0) : doS st c p = (failR (statE st c p), st) := by unfold doS; rw [if_pos he]
/-- THE LAW: an operation on a snapshot, and any operation of another client. -/
theorem do_comm {st : MS} {c d : Int} {p q : OpV} (hcd : c ≠ d) (hk : 6 ≤ p.kind ∧ p.kind ≤ 13) :
    (doS st c p).1 = (doS (doS st d q).2 c p).1 ∧ (doS (doS st c p).2 d q).1 = (doS st d q).1 ∧ (doS (doS st c p).2 d q).2 = (doS (doS st d q).2 c p).2 := by
  have hl := do_len st d q
  have hs : statE (doS st d q).2 c p = statE st c p := by unfold statE; rw [hl]
  by_cases he : statE st c p = 0
  · obtain ⟨h0, h1, _⟩ := statE_ok he
    have e1 := do_rea he hk
    have e2 := do_rea (st := (doS st d q).2) (by rw [hs]; exact he) hk
    have hcn : (c.toNat : Int) ≠ d := by omega
    rw [e1, e2, rea_F, rea_F, (do_seat q hcn).1]
    refine ⟨rfl, ?_, ?_⟩
    · show (doS (st.put c.toNat (reaF (st.seat c.toNat) p).2) d q).1 = _
      rw [do_put q hcn]
    · show (doS (st.put c.toNat (reaF (st.seat c.toNat) p).2) d q).2 = _
      rw [do_put q hcn]
  · have e1 := do_stat he
    have e2 := do_stat (st := (doS st d q).2) (by rw [hs]; exact he)
    rw [hs] at e2
    rw [e1, e2]
    exact ⟨rfl, rfl, rfl⟩
end Go.Proofs.YtlealeecmmpckaaGreat
namespace Go.Proofs.YtlealeecmmpckaaGreat
set_option linter.unusedVariables false
set_option linter.unusedSimpArgs false

/-- What an edit that was accepted makes of the text and the marks. -/
inductive EdT (st st' : MS) (q : OpV) : Prop
  | rep : (q.kind = 1 ∨ q.kind = 2) → RepOK st.text.size q.at_ q.n q.text → st'.text = repT st.text q.at_ q.n q.text → st'.marks = shiftM (repD st.text.size q.at_ q.n q.text) st.marks → EdT st st' q
  | set : q.kind = 3 → MkIn bigN ⟨q.id, q.at_, q.grav⟩ → (hasM q.id st.marks = true ∨ st.marks.length < 64) → st'.text = st.text → st'.marks = setM ⟨q.id, q.at_, q.grav⟩ st.marks → EdT st st' q
  | drop : q.kind = 4 → hasM q.id st.marks = true → st'.text = st.text → st'.marks = dropM q.id st.marks → EdT st st' q
/-- The text, the marks and the number. -/
def Sam3 (a b : MS) : Prop := a.text = b.text ∧ a.marks = b.marks ∧ a.number = b.number
def EdOut (st : MS) (q : OpV) (R : ResV × MS) : Prop :=
  (R.1.err = 0 ∧ q.kind ≤ 4 → R.1.rev = st.number + 1 ∧ R.2.number = st.number + 1 ∧ EdT st R.2 q) ∧ (¬ (R.1.err = 0 ∧ q.kind ≤ 4) → Sam3 R.2 st)
theorem EdOut.fail {st : MS} {q : OpV} {e : Int} (he : e ≠ 0) : EdOut st q (failR e, st) := ⟨fun h => absurd h.1 he, fun _ => ⟨rfl, rfl, rfl⟩⟩
theorem EdOut.same {st : MS} {q : OpV} {R : ResV × MS} (hk : 4 < q.kind) (h : Sam3 R.2 st) : EdOut st q R := ⟨fun h => absurd h.2 (by omega), fun _ => h⟩
theorem nil_text {x : ByteArray} (h : x.size = 0) : x = ⟨#[]⟩ := by
  apply ByteArray.ext
  exact Array.eq_empty_of_size_eq_zero h
theorem op_edit {st : MS} {K : Int} {c : Nat} {q : OpV} (h : MSok st K) (hi : OpIn q) (ho : opE q = 0) : EdOut st q (opS st c q) := by
  obtain ⟨⟨hk1, hk2, g1, g2, g3, g4, g5, g6, g7, g8, g9, g10, g11⟩, gs, gv⟩ := opE_ok ho
  have hsz := h.size
  unfold opS
  split
  · rename_i hk
    unfold insS
    split
    · rename_i he; exact .fail he
    · rename_i he
      obtain ⟨e1, e2, e3⟩ := insE_ok (Decidable.not_not.1 he)
      obtain ⟨e4, e5⟩ := bndE_ok e2
      have hn : q.n = 0 := by omega
      have hrep : RepOK st.text.size q.at_ 0 q.text := ⟨g1, by omega, by omega, by omega, by omega, .inl ⟨rfl, by omega⟩⟩
      exact ⟨fun _ => ⟨rfl, rfl, .rep (.inl hk) (by rw [hn]; exact hrep) (by rw [hn]; rfl) (by rw [hn]; rfl)⟩, fun hh => absurd ⟨rfl, by omega⟩ hh⟩
  split
  · rename_i hk
    unfold delS
    split
    · rename_i he; exact .fail he
    · rename_i he
      obtain ⟨e1, e2, e3, e4, e5⟩ := delE_ok (Decidable.not_not.1 he)
      have hn := g11 hk
      have hx : q.text = ⟨#[]⟩ := nil_text (by omega)
      have hrep : RepOK st.text.size q.at_ q.n q.text := ⟨g1, by omega, by omega, by omega, by omega, .inr ⟨by omega, by omega⟩⟩
      exact ⟨fun _ => ⟨rfl, rfl, .rep (.inr hk) hrep (by rw [hx]; rfl) (by rw [hx]; rfl)⟩, fun hh => absurd ⟨rfl, by omega⟩ hh⟩
  split
  · rename_i hk
    unfold setS
    split
    · rename_i he; exact .fail he
    · rename_i he
      have he := Decidable.not_not.1 he
      unfold setE at he
      split at he
      · simp at he
      · obtain ⟨e4, e5⟩ := bndE_ok he
        have := hi.id0; have := hi.id1; have := hi.g0
        have hm : MkIn bigN ⟨q.id, q.at_, q.grav⟩ := ⟨by show 1 ≤ q.id; omega, by show q.id ≤ 4294967295; omega, by show q.grav = 0 ∨ q.grav = 1; omega, g1, by show q.at_ ≤ 9223372036854775807; omega⟩
        split
        · rename_i hl; exact ⟨fun _ => ⟨rfl, rfl, .set hk hm hl rfl rfl⟩, fun hh => absurd ⟨rfl, by omega⟩ hh⟩
        · exact .fail (by decide)
  split
  · rename_i hk
    unfold drpS
    split
    · exact .fail (by decide)
    · split
      · rename_i hl; exact ⟨fun _ => ⟨rfl, rfl, .drop hk hl rfl rfl⟩, fun hh => absurd ⟨rfl, by omega⟩ hh⟩
      · exact .fail (by decide)
  split
  · refine .same (by omega) ?_
    unfold acqS; split
    · exact ⟨rfl, rfl, rfl⟩
    · split <;> exact ⟨rfl, rfl, rfl⟩
  split
  · refine .same (by omega) ?_
    unfold subS; split
    · exact ⟨rfl, rfl, rfl⟩
    · split <;> exact ⟨rfl, rfl, rfl⟩
  split
  · refine .same (by omega) ?_
    unfold recS; split
    · exact ⟨rfl, rfl, rfl⟩
    · split <;> exact ⟨rfl, rfl, rfl⟩
  split
  · refine .same (by omega) ?_
    unfold cloS; split <;> exact ⟨rfl, rfl, rfl⟩
  · refine .same (by omega) ?_
    unfold reaS; split <;> exact ⟨rfl, rfl, rfl⟩
theorem do_edit {st : MS} {K c : Int} {q : OpV} (h : MSok st K) (hi : OpIn q) : EdOut st q (doS st c q) := by
  unfold doS
  split
  · rename_i he; exact .fail he
  · rename_i he
    exact op_edit h hi (statE_ok (Decidable.not_not.1 he)).2.2
end Go.Proofs.YtlealeecmmpckaaGreat
namespace Go.Proofs.YtlealeecmmpckaaGreat
set_option linter.unusedVariables false
set_option linter.unusedSimpArgs false
open Go.RowKit Go.Lib Go.Shelf

set_option maxRecDepth 100000 in
set_option maxHeartbeats 2000000 in
theorem moved_any (st st' : MS) (K : Int) (q : OpV) (a : Option Addr) (c : Nat) (w : World) (hed : EdT st st' q) (hok : MSok st K) (hr : MRow w a st.marks) (hc : st.marks.length ≤ c) :
    Calls Tryz.prog 34 #[.string st.text, .slice a st.marks.length c, .agg #[.int .u8 q.kind, .int .i64 q.slot, .int .i64 q.at_, .int .i64 q.n, .int .u32 q.id, .int .u8 q.grav, .string q.text]] w fun e w' => ∃ v, e = .returned (.tuple #[.string st'.text, v, .bool true]) ∧ MOwn w' w.heap.size v st'.marks ∧ Below w.heap.size w w' := by
  obtain ⟨qk, qs, qa, qn, qi, qg, qt⟩ := q
  have hB0 := (Below.refl w.heap.size w).alloc (Nat.le_refl _) (.cells #[.int .u8 qk, .int .i64 qs, .int .i64 qa, .int .i64 qn, .int .u32 qi, .int .u8 qg, .string qt] 28)
  have hz0 := heap_alloc_new w (.cells #[.int .u8 qk, .int .i64 qs, .int .i64 qa, .int .i64 qn, .int .u32 qi, .int .u8 qg, .string qt] 28)
  have hr0 := hr.on hB0
  have hmk := hok.marks
  have hsz := hok.size
  have h64 := hmk.1
  rcases hed with ⟨hk, hrep, ht, hm⟩ | ⟨hk, hmi, hl, ht, hm⟩ | ⟨hk, hs, ht, hm⟩
  · dsimp only at hk hrep ht hm
    rw [ht, hm]
    obtain ⟨_, _, _, hlen⟩ := rep_ok hrep
    have hdl := repD_len st.text.size qa qn qt
    have hmk' : MkOK (lenS (repD st.text.size qa qn qt)).1 st.marks := by rw [hlen]; exact hmk
    have ra := fun W => replace_any st.text.size qa qn qt W hrep
    have ap := fun ad cd W (h1 : PRow W ad (repD st.text.size qa qn qt)) (h2 : (repD st.text.size qa qn qt).length ≤ cd) => apply_any st.text qa qn qt ad cd W hrep h1 h2
    have sh := fun ad cd W (h0 : MRow W a st.marks) (h1 : PRow W ad (repD st.text.size qa qn qt)) (h2 : (repD st.text.size qa qn qt).length ≤ cd) => mshift_any a ad c cd st.marks (repD st.text.size qa qn qt) W h0 h1 hmk' (by omega) h2 (by rw [hlen]) (by rw [hlen]; dsimp only; omega) (by rw [hlen]; dsimp only; omega)
    have RA := Lib.hid ra; have AP := Lib.hid ap; have SH := Lib.hid sh
    clear ra ap sh hmk' hlen ht hm
    generalize hD : repD st.text.size qa qn qt = D at *
    have hk' : (qk = 1 ∨ qk = 2) := hk
    rcases hk' with rfl | rfl
    all_goals
      go_enter Tryz.func34, Tryz.ntmps34
      go_wp2_with (first | (go_at_call 63; refine (RA.out _).mono ?_; rintro e w1 ⟨vd, rfl, hod, hB1⟩; obtain ⟨ad, cd, rfl⟩ := own_slice hod; obtain ⟨hdrow, hcd⟩ := prow_own rfl hod; have hB2 := hB0.trans (hB1.mono hB0.size)) | (go_at_call 64; refine (AP.out ad cd _ hdrow hcd).mono ?_; rintro e w2 ⟨rfl, hB3⟩; have hB4 := hB2.trans (hB3.mono hB2.size); have hdrow2 := hdrow.on hB3) | (go_at_call 65; refine (SH.out ad cd _ (hr.on hB4) hdrow2 hcd).mono ?_; rintro e w3 ⟨vm, rfl, hom, hB5⟩; obtain ⟨am, cm, rfl⟩ := own_slice hom; have hB6 := hB4.trans (hB5.mono hB4.size)))
      go_returns
      exact ⟨_, rfl, own_mono hB4.size hom, hB6⟩
  · dsimp only at hk hmi hl ht hm
    subst hk
    rw [ht, hm]
    have hbig := hmk.big (show (st.text.size : Int) ≤ bigN by unfold bigN; omega)
    have se := mset_any a c st.marks ⟨qi, qa, qg⟩ _ hr0 hbig hmi hl
    have SE := Lib.hid se
    clear se hbig hmk ht hm
    go_enter Tryz.func34, Tryz.ntmps34
    go_wp2_with (first | (go_at_call 66; refine SE.out.mono ?_; rintro e w1 ⟨vm, rfl, hom, hB1⟩; obtain ⟨am, cm, rfl⟩ := own_slice hom))
    go_returns
    exact ⟨_, rfl, own_mono hB0.size hom, hB0.trans (hB1.mono hB0.size)⟩
  · dsimp only at hk hs ht hm
    subst hk
    rw [ht, hm]
    have hbig := hmk.big (show (st.text.size : Int) ≤ bigN by unfold bigN; omega)
    have se := mdrop_any a c st.marks qi _ hr0 hbig hc hs
    have SE := Lib.hid se
    clear se hbig hmk ht hm
    go_enter Tryz.func34, Tryz.ntmps34
    go_wp2_with (first | (go_at_call 67; refine SE.out.mono ?_; rintro e w1 ⟨vm, rfl, hom, hB1⟩; obtain ⟨am, cm, rfl⟩ := own_slice hom))
    go_returns
    exact ⟨_, rfl, own_mono hB0.size hom, hB0.trans (hB1.mono hB0.size)⟩
end Go.Proofs.YtlealeecmmpckaaGreat
namespace Go.Proofs.YtlealeecmmpckaaGreat
set_option linter.unusedVariables false
set_option linter.unusedSimpArgs false
open Go.RowKit Go.Lib Go.Shelf
attribute [local go_sem, local simp] resF resL_len resL_ne
attribute [local go_sem] fldErr

def EdI (w : World) (p : Option Addr) (len cp b : Nat) (a : Act) (wr : World) : Prop :=
  ∃ (j : Nat) (M : MM) (kv : Value) (u : Nat → Value), a = { tmps := #[u 0, .slice p len cp, u 2, u 3, u 4, .pointer (some ⟨b, 0, none⟩), .string M.text, kv, .int .i64 M.number, .int .i64 j, u 10, u 11, u 12, u 13, u 14, u 15, u 16, u 17, u 18, u 19, u 20, u 21, u 22, u 23, u 24, u 25, u 26, u 27, u 28, u 29, u 30, u 31, u 32, u 33, u 34, u 35, u 36, u 37, u 38, u 39, u 40, u 41, u 42, u 43, u 44, u 45, u 46, u 47, u 48, u 49, u 50, u 51, u 52, u 53, u 54, u 55, u 56, u 57, u 58, u 59, u 60, u 61, u 62, u 63, u 64, u 65, u 66, u 67, u 68, u 69, u 70, u 71, u 72, u 73, u 74, u 75, u 76, u 77, u 78, u 79, u 80, u 81, u 82, u 83, u 84, u 85, u 86, u 87, u 88, u 89, u 90, u 91, u 92, u 93, u 94, u 95, u 96, u 97, u 98, u 99, u 100, u 101, u 102, u 103, u 104, u 105, u 106, u 107, u 108, u 109, u 110, u 111, u 112, u 113, u 114, u 115, u 116, u 117, u 118, u 119, u 120, u 121, u 122, u 123, u 124, u 125, u 126, u 127, u 128, u 129, u 130], defers := [] } ∧ j ≤ len ∧ Run w wr b M ∧ MSok M.st j ∧ MOwn wr 0 kv M.marks
theorem EdI.intro {w : World} {p : Option Addr} {len cp b : Nat} {a : Act} {wr : World} (j : Nat) (M : MM) (kv : Value) (h : a = { tmps := #[a.tmps.getD 0 undef, .slice p len cp, a.tmps.getD 2 undef, a.tmps.getD 3 undef, a.tmps.getD 4 undef, .pointer (some ⟨b, 0, none⟩), .string M.text, kv, .int .i64 M.number, .int .i64 j, a.tmps.getD 10 undef, a.tmps.getD 11 undef, a.tmps.getD 12 undef, a.tmps.getD 13 undef, a.tmps.getD 14 undef, a.tmps.getD 15 undef, a.tmps.getD 16 undef, a.tmps.getD 17 undef, a.tmps.getD 18 undef, a.tmps.getD 19 undef, a.tmps.getD 20 undef, a.tmps.getD 21 undef, a.tmps.getD 22 undef, a.tmps.getD 23 undef, a.tmps.getD 24 undef, a.tmps.getD 25 undef, a.tmps.getD 26 undef, a.tmps.getD 27 undef, a.tmps.getD 28 undef, a.tmps.getD 29 undef, a.tmps.getD 30 undef, a.tmps.getD 31 undef, a.tmps.getD 32 undef, a.tmps.getD 33 undef, a.tmps.getD 34 undef, a.tmps.getD 35 undef, a.tmps.getD 36 undef, a.tmps.getD 37 undef, a.tmps.getD 38 undef, a.tmps.getD 39 undef, a.tmps.getD 40 undef, a.tmps.getD 41 undef, a.tmps.getD 42 undef, a.tmps.getD 43 undef, a.tmps.getD 44 undef, a.tmps.getD 45 undef, a.tmps.getD 46 undef, a.tmps.getD 47 undef, a.tmps.getD 48 undef, a.tmps.getD 49 undef, a.tmps.getD 50 undef, a.tmps.getD 51 undef, a.tmps.getD 52 undef, a.tmps.getD 53 undef, a.tmps.getD 54 undef, a.tmps.getD 55 undef, a.tmps.getD 56 undef, a.tmps.getD 57 undef, a.tmps.getD 58 undef, a.tmps.getD 59 undef, a.tmps.getD 60 undef, a.tmps.getD 61 undef, a.tmps.getD 62 undef, a.tmps.getD 63 undef, a.tmps.getD 64 undef, a.tmps.getD 65 undef, a.tmps.getD 66 undef, a.tmps.getD 67 undef, a.tmps.getD 68 undef, a.tmps.getD 69 undef, a.tmps.getD 70 undef, a.tmps.getD 71 undef, a.tmps.getD 72 undef, a.tmps.getD 73 undef, a.tmps.getD 74 undef, a.tmps.getD 75 undef, a.tmps.getD 76 undef, a.tmps.getD 77 undef, a.tmps.getD 78 undef, a.tmps.getD 79 undef, a.tmps.getD 80 undef, a.tmps.getD 81 undef, a.tmps.getD 82 undef, a.tmps.getD 83 undef, a.tmps.getD 84 undef, a.tmps.getD 85 undef, a.tmps.getD 86 undef, a.tmps.getD 87 undef, a.tmps.getD 88 undef, a.tmps.getD 89 undef, a.tmps.getD 90 undef, a.tmps.getD 91 undef, a.tmps.getD 92 undef, a.tmps.getD 93 undef, a.tmps.getD 94 undef, a.tmps.getD 95 undef, a.tmps.getD 96 undef, a.tmps.getD 97 undef, a.tmps.getD 98 undef, a.tmps.getD 99 undef, a.tmps.getD 100 undef, a.tmps.getD 101 undef, a.tmps.getD 102 undef, a.tmps.getD 103 undef, a.tmps.getD 104 undef, a.tmps.getD 105 undef, a.tmps.getD 106 undef, a.tmps.getD 107 undef, a.tmps.getD 108 undef, a.tmps.getD 109 undef, a.tmps.getD 110 undef, a.tmps.getD 111 undef, a.tmps.getD 112 undef, a.tmps.getD 113 undef, a.tmps.getD 114 undef, a.tmps.getD 115 undef, a.tmps.getD 116 undef, a.tmps.getD 117 undef, a.tmps.getD 118 undef, a.tmps.getD 119 undef, a.tmps.getD 120 undef, a.tmps.getD 121 undef, a.tmps.getD 122 undef, a.tmps.getD 123 undef, a.tmps.getD 124 undef, a.tmps.getD 125 undef, a.tmps.getD 126 undef, a.tmps.getD 127 undef, a.tmps.getD 128 undef, a.tmps.getD 129 undef, a.tmps.getD 130 undef], defers := [] })
    (hj : j ≤ len) (hR : Run w wr b M) (hok : MSok M.st j) (hk : MOwn wr 0 kv M.marks) : EdI w p len cp b a wr := ⟨j, M, kv, fun i => a.tmps.getD i undef, h, hj, hR, hok, hk⟩
def EdR (w : World) (p : Option Addr) (len cp b : Nat) (M : MM) (kv : Value) (j : Nat) (R : ResV × MS) (a : Act) (wr : World) : Prop :=
  ∃ (g : Nat) (M4 : MM) (u : Nat → Value), a = { tmps := #[u 0, .slice p len cp, u 2, u 3, u 4, .pointer (some ⟨b, 0, none⟩), .string M.text, kv, .int .i64 M.number, .int .i64 j, .pointer (some ⟨g, 0, none⟩), u 11, u 12, u 13, u 14, u 15, u 16, u 17, u 18, u 19, u 20, u 21, u 22, u 23, u 24, u 25, u 26, u 27, u 28, u 29, u 30, u 31, u 32, u 33, u 34, u 35, u 36, u 37, u 38, u 39, u 40, u 41, u 42, u 43, u 44, u 45, u 46, u 47, u 48, u 49, u 50, u 51, u 52, u 53, u 54, u 55, u 56, u 57, u 58, u 59, u 60, u 61, u 62, u 63, u 64, u 65, u 66, u 67, u 68, u 69, u 70, u 71, u 72, u 73, u 74, u 75, u 76, u 77, u 78, u 79, u 80, u 81, u 82, u 83, u 84, u 85, u 86, u 87, u 88, u 89, u 90, u 91, u 92, u 93, u 94, u 95, u 96, u 97, u 98, u 99, u 100, u 101, u 102, u 103, u 104, u 105, u 106, u 107, u 108, u 109, u 110, u 111, u 112, u 113, u 114, u 115, u 116, u 117, u 118, u 119, u 120, u 121, u 122, u 123, u 124, u 125, u 126, u 127, u 128, u 129, u 130], defers := [] } ∧ Run w wr b M4 ∧ M4.st = R.2 ∧ MSok M4.st (j + 1) ∧ MOwn wr 0 kv M.marks ∧ wr.heap[g]? = some (.cells (resL R.1).toArray 36 (0, 0))
theorem EdR.intro {w : World} {p : Option Addr} {len cp b : Nat} {M : MM} {kv : Value} {j : Nat} {R : ResV × MS} {a : Act} {wr : World} (g : Nat) (M4 : MM) (h : a = { tmps := #[a.tmps.getD 0 undef, .slice p len cp, a.tmps.getD 2 undef, a.tmps.getD 3 undef, a.tmps.getD 4 undef, .pointer (some ⟨b, 0, none⟩), .string M.text, kv, .int .i64 M.number, .int .i64 j, .pointer (some ⟨g, 0, none⟩), a.tmps.getD 11 undef, a.tmps.getD 12 undef, a.tmps.getD 13 undef, a.tmps.getD 14 undef, a.tmps.getD 15 undef, a.tmps.getD 16 undef, a.tmps.getD 17 undef, a.tmps.getD 18 undef, a.tmps.getD 19 undef, a.tmps.getD 20 undef, a.tmps.getD 21 undef, a.tmps.getD 22 undef, a.tmps.getD 23 undef, a.tmps.getD 24 undef, a.tmps.getD 25 undef, a.tmps.getD 26 undef, a.tmps.getD 27 undef, a.tmps.getD 28 undef, a.tmps.getD 29 undef, a.tmps.getD 30 undef, a.tmps.getD 31 undef, a.tmps.getD 32 undef, a.tmps.getD 33 undef, a.tmps.getD 34 undef, a.tmps.getD 35 undef, a.tmps.getD 36 undef, a.tmps.getD 37 undef, a.tmps.getD 38 undef, a.tmps.getD 39 undef, a.tmps.getD 40 undef, a.tmps.getD 41 undef, a.tmps.getD 42 undef, a.tmps.getD 43 undef, a.tmps.getD 44 undef, a.tmps.getD 45 undef, a.tmps.getD 46 undef, a.tmps.getD 47 undef, a.tmps.getD 48 undef, a.tmps.getD 49 undef, a.tmps.getD 50 undef, a.tmps.getD 51 undef, a.tmps.getD 52 undef, a.tmps.getD 53 undef, a.tmps.getD 54 undef, a.tmps.getD 55 undef, a.tmps.getD 56 undef, a.tmps.getD 57 undef, a.tmps.getD 58 undef, a.tmps.getD 59 undef, a.tmps.getD 60 undef, a.tmps.getD 61 undef, a.tmps.getD 62 undef, a.tmps.getD 63 undef, a.tmps.getD 64 undef, a.tmps.getD 65 undef, a.tmps.getD 66 undef, a.tmps.getD 67 undef, a.tmps.getD 68 undef, a.tmps.getD 69 undef, a.tmps.getD 70 undef, a.tmps.getD 71 undef, a.tmps.getD 72 undef, a.tmps.getD 73 undef, a.tmps.getD 74 undef, a.tmps.getD 75 undef, a.tmps.getD 76 undef, a.tmps.getD 77 undef, a.tmps.getD 78 undef, a.tmps.getD 79 undef, a.tmps.getD 80 undef, a.tmps.getD 81 undef, a.tmps.getD 82 undef, a.tmps.getD 83 undef, a.tmps.getD 84 undef, a.tmps.getD 85 undef, a.tmps.getD 86 undef, a.tmps.getD 87 undef, a.tmps.getD 88 undef, a.tmps.getD 89 undef, a.tmps.getD 90 undef, a.tmps.getD 91 undef, a.tmps.getD 92 undef, a.tmps.getD 93 undef, a.tmps.getD 94 undef, a.tmps.getD 95 undef, a.tmps.getD 96 undef, a.tmps.getD 97 undef, a.tmps.getD 98 undef, a.tmps.getD 99 undef, a.tmps.getD 100 undef, a.tmps.getD 101 undef, a.tmps.getD 102 undef, a.tmps.getD 103 undef, a.tmps.getD 104 undef, a.tmps.getD 105 undef, a.tmps.getD 106 undef, a.tmps.getD 107 undef, a.tmps.getD 108 undef, a.tmps.getD 109 undef, a.tmps.getD 110 undef, a.tmps.getD 111 undef, a.tmps.getD 112 undef, a.tmps.getD 113 undef, a.tmps.getD 114 undef, a.tmps.getD 115 undef, a.tmps.getD 116 undef, a.tmps.getD 117 undef, a.tmps.getD 118 undef, a.tmps.getD 119 undef, a.tmps.getD 120 undef, a.tmps.getD 121 undef, a.tmps.getD 122 undef, a.tmps.getD 123 undef, a.tmps.getD 124 undef, a.tmps.getD 125 undef, a.tmps.getD 126 undef, a.tmps.getD 127 undef, a.tmps.getD 128 undef, a.tmps.getD 129 undef, a.tmps.getD 130 undef], defers := [] })
    (hR : Run w wr b M4) (hst : M4.st = R.2) (hok : MSok M4.st (j + 1)) (hk : MOwn wr 0 kv M.marks) (hg : wr.heap[g]? = some (.cells (resL R.1).toArray 36 (0, 0))) : EdR w p len cp b M kv j R a wr := ⟨g, M4, fun i => a.tmps.getD i undef, h, hR, hst, hok, hk, hg⟩
def EdM (w : World) (p : Option Addr) (len cp b : Nat) (M : MM) (kv : Value) (j : Nat) (am : Option Addr) (cm : Nat) (a : Act) (wr : World) : Prop :=
  ∃ (x : Nat) (u : Nat → Value), a = { tmps := #[u 0, .slice p len cp, u 2, u 3, u 4, .pointer (some ⟨b, 0, none⟩), .string M.text, kv, .int .i64 M.number, .int .i64 j, u 10, u 11, u 12, u 13, .slice am M.marks.length cm, .int .i64 x, u 16, u 17, u 18, u 19, u 20, u 21, u 22, u 23, u 24, u 25, u 26, u 27, u 28, u 29, u 30, u 31, u 32, u 33, u 34, u 35, u 36, u 37, u 38, u 39, u 40, u 41, u 42, u 43, u 44, u 45, u 46, u 47, u 48, u 49, u 50, u 51, u 52, u 53, u 54, u 55, u 56, u 57, u 58, u 59, u 60, u 61, u 62, u 63, u 64, u 65, u 66, u 67, u 68, u 69, u 70, u 71, u 72, u 73, u 74, u 75, u 76, u 77, u 78, u 79, u 80, u 81, u 82, u 83, u 84, u 85, u 86, u 87, u 88, u 89, u 90, u 91, u 92, u 93, u 94, u 95, u 96, u 97, u 98, u 99, u 100, u 101, u 102, u 103, u 104, u 105, u 106, u 107, u 108, u 109, u 110, u 111, u 112, u 113, u 114, u 115, u 116, u 117, u 118, u 119, u 120, u 121, u 122, u 123, u 124, u 125, u 126, u 127, u 128, u 129, u 130], defers := [] } ∧ x ≤ M.marks.length ∧ Run w wr b M ∧ MOwn wr 0 kv M.marks ∧ MOwn wr 0 (.slice am M.marks.length cm) M.marks
theorem EdM.intro {w : World} {p : Option Addr} {len cp b : Nat} {M : MM} {kv : Value} {j : Nat} {am : Option Addr} {cm : Nat} {a : Act} {wr : World} (x : Nat) (h : a = { tmps := #[a.tmps.getD 0 undef, .slice p len cp, a.tmps.getD 2 undef, a.tmps.getD 3 undef, a.tmps.getD 4 undef, .pointer (some ⟨b, 0, none⟩), .string M.text, kv, .int .i64 M.number, .int .i64 j, a.tmps.getD 10 undef, a.tmps.getD 11 undef, a.tmps.getD 12 undef, a.tmps.getD 13 undef, .slice am M.marks.length cm, .int .i64 x, a.tmps.getD 16 undef, a.tmps.getD 17 undef, a.tmps.getD 18 undef, a.tmps.getD 19 undef, a.tmps.getD 20 undef, a.tmps.getD 21 undef, a.tmps.getD 22 undef, a.tmps.getD 23 undef, a.tmps.getD 24 undef, a.tmps.getD 25 undef, a.tmps.getD 26 undef, a.tmps.getD 27 undef, a.tmps.getD 28 undef, a.tmps.getD 29 undef, a.tmps.getD 30 undef, a.tmps.getD 31 undef, a.tmps.getD 32 undef, a.tmps.getD 33 undef, a.tmps.getD 34 undef, a.tmps.getD 35 undef, a.tmps.getD 36 undef, a.tmps.getD 37 undef, a.tmps.getD 38 undef, a.tmps.getD 39 undef, a.tmps.getD 40 undef, a.tmps.getD 41 undef, a.tmps.getD 42 undef, a.tmps.getD 43 undef, a.tmps.getD 44 undef, a.tmps.getD 45 undef, a.tmps.getD 46 undef, a.tmps.getD 47 undef, a.tmps.getD 48 undef, a.tmps.getD 49 undef, a.tmps.getD 50 undef, a.tmps.getD 51 undef, a.tmps.getD 52 undef, a.tmps.getD 53 undef, a.tmps.getD 54 undef, a.tmps.getD 55 undef, a.tmps.getD 56 undef, a.tmps.getD 57 undef, a.tmps.getD 58 undef, a.tmps.getD 59 undef, a.tmps.getD 60 undef, a.tmps.getD 61 undef, a.tmps.getD 62 undef, a.tmps.getD 63 undef, a.tmps.getD 64 undef, a.tmps.getD 65 undef, a.tmps.getD 66 undef, a.tmps.getD 67 undef, a.tmps.getD 68 undef, a.tmps.getD 69 undef, a.tmps.getD 70 undef, a.tmps.getD 71 undef, a.tmps.getD 72 undef, a.tmps.getD 73 undef, a.tmps.getD 74 undef, a.tmps.getD 75 undef, a.tmps.getD 76 undef, a.tmps.getD 77 undef, a.tmps.getD 78 undef, a.tmps.getD 79 undef, a.tmps.getD 80 undef, a.tmps.getD 81 undef, a.tmps.getD 82 undef, a.tmps.getD 83 undef, a.tmps.getD 84 undef, a.tmps.getD 85 undef, a.tmps.getD 86 undef, a.tmps.getD 87 undef, a.tmps.getD 88 undef, a.tmps.getD 89 undef, a.tmps.getD 90 undef, a.tmps.getD 91 undef, a.tmps.getD 92 undef, a.tmps.getD 93 undef, a.tmps.getD 94 undef, a.tmps.getD 95 undef, a.tmps.getD 96 undef, a.tmps.getD 97 undef, a.tmps.getD 98 undef, a.tmps.getD 99 undef, a.tmps.getD 100 undef, a.tmps.getD 101 undef, a.tmps.getD 102 undef, a.tmps.getD 103 undef, a.tmps.getD 104 undef, a.tmps.getD 105 undef, a.tmps.getD 106 undef, a.tmps.getD 107 undef, a.tmps.getD 108 undef, a.tmps.getD 109 undef, a.tmps.getD 110 undef, a.tmps.getD 111 undef, a.tmps.getD 112 undef, a.tmps.getD 113 undef, a.tmps.getD 114 undef, a.tmps.getD 115 undef, a.tmps.getD 116 undef, a.tmps.getD 117 undef, a.tmps.getD 118 undef, a.tmps.getD 119 undef, a.tmps.getD 120 undef, a.tmps.getD 121 undef, a.tmps.getD 122 undef, a.tmps.getD 123 undef, a.tmps.getD 124 undef, a.tmps.getD 125 undef, a.tmps.getD 126 undef, a.tmps.getD 127 undef, a.tmps.getD 128 undef, a.tmps.getD 129 undef, a.tmps.getD 130 undef], defers := [] })
    (hx : x ≤ M.marks.length) (hR : Run w wr b M) (hk : MOwn wr 0 kv M.marks) (hm : MOwn wr 0 (.slice am M.marks.length cm) M.marks) : EdM w p len cp b M kv j am cm a wr := ⟨x, fun i => a.tmps.getD i undef, h, hx, hR, hk, hm⟩
theorem mrow_at {w : World} {B : Nat} {g c x : Nat} {l : List MkV} {m : MkV} (h : MOwn w B (.slice (some ⟨g, 0, none⟩) l.length c) l) (hx : l[x]? = some m) : w.cell? ⟨g, x * 3 + 1, none⟩ = some (.int .i64 m.at_) := by
  have hlt := (List.getElem?_eq_some_iff.1 hx).1
  obtain ⟨hr, _⟩ := mrow_own rfl h
  rcases hr with ⟨_, h2⟩ | ⟨b, off, h1, h2, h3⟩
  · rw [h2] at hlt; simp at hlt
  · injection h1 with h1
    injection h1 with e1 e2 _
    subst e1; subst e2
    have := h3 x m hx 1 _ rfl
    rwa [Nat.zero_add] at this
theorem own_some' {W : World} {B n s c : Nat} {e : TypeId} {a : Option Addr} {xs : List Value} (h : W.ownsRow B e s (.slice a n c) n xs) (hn : n ≠ 0) : ∃ g, a = some ⟨g, 0, none⟩ := by
  rcases h.2 with ⟨_, e2⟩ | ⟨g, cap, cur, e1, _⟩
  · exact absurd e2 hn
  · injection e1 with e1 _ _; exact ⟨g, e1⟩
set_option maxRecDepth 100000 in
set_option maxHeartbeats 4000000 in
theorem edits_short (c : CfgV) (p : Option Addr) (cp : Nat) (l : List ActV) (w : World) (hsh : cfgE c ≠ 0 ∨ 2000 < c.text.size ∨ 60 < l.length) :
    Calls Tryz.prog 11 #[c.v, .slice p l.length cp] w fun e w' => e = .returned (.bool true) ∧ Below w.heap.size w w' := by
  have hB0 := (Below.refl w.heap.size w).alloc (Nat.le_refl _) (.cells #[.int .i64 c.slots, .int .u64 c.gens, .int .i64 c.clients, .int .i64 c.readers, .int .i64 c.queue, .int .i64 c.batch, .int .i64 c.feed, .string c.text] 24)
  have hz0 := heap_alloc_new w (.cells #[.int .i64 c.slots, .int .u64 c.gens, .int .i64 c.clients, .int .i64 c.readers, .int .i64 c.queue, .int .i64 c.batch, .int .i64 c.feed, .string c.text] 24)
  have hlo := fun W => long_any c l.length W
  obtain ⟨x, hx⟩ : ∃ x, (decide (2000 < c.text.size) || decide (60 < l.length)) = x := ⟨_, rfl⟩
  rw [hx] at hlo
  by_cases hc : cfgE c = 0
  · obtain rfl : x = true := by
      rw [← hx]; rcases hsh with h | h | h
      · exact absurd hc h
      · simp; omega
      · simp; omega
    have hpl := fun W => play_some c none 0 [] W hc (Or.inl rfl) (by simp)
    clear hx hsh
    unfold CfgV.v at *
    go_enter Tryz.func11, Tryz.ntmps11
    go_wp2_with (first | (go_at_call 14; refine (hpl _).mono ?_; rintro e w1 ⟨b, M1, rfl, hP1, hst1⟩; have hB1 := hB0.trans (hP1.bl.mono hB0.size); have hz1 := (hP1.bl.block _ (by simp)).trans hz0; obtain ⟨z0, z1, z2, z3, z4, z5, z6, z7⟩ := blk8 hz1) | (go_at_call 12; refine (hlo _).mono ?_; rintro e w2 ⟨rfl, hb2⟩; have hB2 := hB1.trans (hb2.mono hB1.size)) | (go_at_call 13; refine (known_any _).mono ?_; rintro e w3 ⟨rfl, hb3⟩; have hB3 := hB2.trans (hb3.mono hB2.size)))
    go_returns
    exact ⟨rfl, hB3⟩
  · have hpl := fun W => play_nil c none 0 0 W hc
    clear hx hsh
    unfold CfgV.v at *
    cases x
    all_goals
      go_enter Tryz.func11, Tryz.ntmps11
      go_wp2_with (first | (go_at_call 14; refine (hpl _).mono ?_; rintro e w1 ⟨rfl, hb1⟩; have hB1 := hB0.trans (hb1.mono hB0.size); have hz1 := (hb1.block _ (by simp)).trans hz0; obtain ⟨z0, z1, z2, z3, z4, z5, z6, z7⟩ := blk8 hz1) | (go_at_call 12; refine (hlo _).mono ?_; rintro e w2 ⟨rfl, hb2⟩; have hB2 := hB1.trans (hb2.mono hB1.size)) | (go_at_call 13; refine (known_any _).mono ?_; rintro e w3 ⟨rfl, hb3⟩; have hB3 := hB2.trans (hb3.mono hB2.size)))
      go_returns
      exact ⟨rfl, hB3⟩
set_option maxRecDepth 100000 in
set_option maxHeartbeats 8000000 in
theorem edits_main (c : CfgV) (p : Option Addr) (cp : Nat) (l : List ActV) (w : World) (hA : ArgActs w p l) (hc : cfgE c = 0) (h1 : c.text.size ≤ 2000) (h2 : l.length ≤ 60) :
    Calls Tryz.prog 11 #[c.v, .slice p l.length cp] w fun e w' => e = .returned (.bool true) ∧ Below w.heap.size w w' := by
  have hB0 := (Below.refl w.heap.size w).alloc (Nat.le_refl _) (.cells #[.int .i64 c.slots, .int .u64 c.gens, .int .i64 c.clients, .int .i64 c.readers, .int .i64 c.queue, .int .i64 c.batch, .int .i64 c.feed, .string c.text] 24)
  have hz0 := heap_alloc_new w (.cells #[.int .i64 c.slots, .int .u64 c.gens, .int .i64 c.clients, .int .i64 c.readers, .int .i64 c.queue, .int .i64 c.batch, .int .i64 c.feed, .string c.text] 24)
  have hlo := fun W => long_any c l.length W
  have e1 : (decide (2000 < c.text.size) || decide (60 < l.length)) = false := by simp; omega
  rw [e1] at hlo
  have hpl := fun W => play_some c none 0 [] W hc (Or.inl rfl) (by simp)
  have hok0 := newS_ok hc
  unfold CfgV.v at *
  go_enter Tryz.func11, Tryz.ntmps11
  go_wp2_with (first | (go_at_call 14; refine (hpl _).mono ?_; rintro e w1 ⟨b, M1, rfl, hP1, hst1⟩; have hB1 := hB0.trans (hP1.bl.mono hB0.size); have hz1 := (hP1.bl.block _ (by simp)).trans hz0; obtain ⟨z0, z1, z2, z3, z4, z5, z6, z7⟩ := blk8 hz1; have hR1 : Run w w1 b M1 := ⟨hP1.at_, fun k hk => Nat.le_trans hB0.size (hP1.own k hk), hB1⟩) | (go_at_call 12; refine (hlo _).mono ?_; rintro e w2 ⟨rfl, hb2⟩; have hR2 := hR1.on hb2; have hz2 := (hb2.block _ (Array.getElem?_eq_some_iff.1 hz1).1).trans hz1; obtain ⟨y0, y1, y2, y3, y4, y5, y6, y7⟩ := blk8 hz2))
  have hs1 : M1.st = newS c := hst1
  have htx : M1.text = c.text := congrArg MS.text hs1
  have hmk : M1.marks = [] := congrArg MS.marks hs1
  have hnm : M1.number = 0 := congrArg MS.number hs1
  have hok1 : MSok M1.st (0 : Nat) := by rw [hs1]; exact hok0
  rw [← htx]
  refine wp_loop (EdI w p l.length cp b) (fun a _ => l.length - (intOf (a.tmps.getD 9 undef)).toNat) ?_ ?_
  · exact EdI.intro 0 M1 (.slice none 0 0) (by rw [hnm]; rfl) (by omega) hR2 hok1 (by rw [hmk]; exact World.ownsRow_nil _ _ _ _)
  · clear hR2 hok1 hmk hnm htx hs1 hst1 hR1 hP1 hz0 hz1 hz2 hlo hpl e1 z0 z1 z2 z3 z4 z5 z6 z7 y0 y1 y2 y3 y4 y5 y6 y7 hb2 hok0
    rintro a0 wr ⟨j, M, kv, u, rfl, hj, hR, hok, hkv⟩
    obtain ⟨ak, ck, rfl⟩ := own_slice hkv
    have hm64 := (MM.fits hok).2.2
    by_cases hlt : j < l.length
    · have hx := List.getElem?_eq_getElem hlt
      generalize l[j] = a at hx
      obtain ⟨bl, off, rfl, hl63, hcl8⟩ := hA.get hx
      have hqi := hA.ok a (List.mem_of_getElem? hx)
      have hx0 : Below wr.heap.size wr wr.drew := (Below.refl _ _).drew
      have hRd := hR.on hx0
      have hkvd := own_below6 hkv hx0
      have Hdo := Lib.hid (fun W (hW : Run w W b M) => do_run b a.client M a.q w W _ hW hok (by omega) hqi)
      have hed := do_edit (c := a.client) hok hqi
      obtain ⟨R5, hR5⟩ : ∃ R5, doS M.st a.client a.q = R5 := ⟨_, rfl⟩
      rw [hR5] at Hdo hed
      have HED := Lib.hid hed
      have HOK := Lib.hid hok
      have Kx := Lib.hid hcl8
      clear hcl8 hed hok
      have hbw := hR.bl
      have hbw0 := hRd.bl
      go_wp2
      refine Code.wp_mono (Q := fun e a' w' => e = .normal ∧ EdR w (some ⟨bl, off, none⟩) l.length cp b M (.slice ak M.marks.length ck) j R5 a' w') ?_ ?region
      case region =>
        refine wp_region_noPanic ?_
        refine wp_region_held_drew (S := fun W => W.cell? ⟨bl, off + j * 8, none⟩ = some (.int .i64 a.client) ∧ W.cell? ⟨bl, off + j * 8 + 1, none⟩ = some (.int .u8 a.q.kind) ∧ W.cell? ⟨bl, off + j * 8 + 2, none⟩ = some (.int .i64 a.q.slot) ∧ W.cell? ⟨bl, off + j * 8 + 3, none⟩ = some (.int .i64 a.q.at_) ∧ W.cell? ⟨bl, off + j * 8 + 4, none⟩ = some (.int .i64 a.q.n) ∧ W.cell? ⟨bl, off + j * 8 + 5, none⟩ = some (.int .u32 a.q.id) ∧ W.cell? ⟨bl, off + j * 8 + 6, none⟩ = some (.int .u8 a.q.grav) ∧ W.cell? ⟨bl, off + j * 8 + 7, none⟩ = some (.string a.q.text)) (by kernel_rfl) ?_ (fun hHeld => ?_)
        · first | exact Kx.out _ hR4.bl | exact Kx.out _ (hQ.bl.alloc hQ.bl.size _) | exact Kx.out _ hQ.bl | exact Kx.out _ hRa.bl | exact Kx.out _ hbw | exact Kx.out _ hbw0
        refine np_take (i := 0) (v := ?_) rfl (by kernel_rfl) (by kernel_rfl) (by kernel_rfl) (by rfl) ?_ (by assumption) ?_; rotate_left 1; (· (intro w hSw; (try dsimp only at hSw); go_simp; all_goals with_reducible rfl)); (try simp only [Act.put, List.setIfInBounds_toArray, List.set_cons_zero, List.set_cons_succ])
        refine np_take (i := 1) (v := ?_) rfl (by kernel_rfl) (by kernel_rfl) (by kernel_rfl) (by rfl) ?_ (by assumption) ?_; rotate_left 1; (· (intro w hSw; (try dsimp only at hSw); go_simp; all_goals with_reducible rfl)); (try simp only [Act.put, List.setIfInBounds_toArray, List.set_cons_zero, List.set_cons_succ])
        refine np_take (i := 2) (v := ?_) rfl (by kernel_rfl) (by kernel_rfl) (by kernel_rfl) (by rfl) ?_ (by assumption) ?_; rotate_left 1; (· (intro w hSw; (try dsimp only at hSw); go_simp; all_goals with_reducible rfl)); (try simp only [Act.put, List.setIfInBounds_toArray, List.set_cons_zero, List.set_cons_succ])
        refine np_take (i := 3) (v := ?_) rfl (by kernel_rfl) (by kernel_rfl) (by kernel_rfl) (by rfl) ?_ (by assumption) ?_; rotate_left 1; (· (intro w hSw; (try dsimp only at hSw); go_simp; all_goals with_reducible rfl)); (try simp only [Act.put, List.setIfInBounds_toArray, List.set_cons_zero, List.set_cons_succ])
        refine np_take (i := 4) (v := ?_) rfl (by kernel_rfl) (by kernel_rfl) (by kernel_rfl) (by rfl) ?_ (by assumption) ?_; rotate_left 1; (· (intro w hSw; (try dsimp only at hSw); go_simp; all_goals with_reducible rfl)); (try simp only [Act.put, List.setIfInBounds_toArray, List.set_cons_zero, List.set_cons_succ])
        refine np_take (i := 5) (v := ?_) rfl (by kernel_rfl) (by kernel_rfl) (by kernel_rfl) (by rfl) ?_ (by assumption) ?_; rotate_left 1; (· (intro w hSw; (try dsimp only at hSw); go_simp; all_goals with_reducible rfl)); (try simp only [Act.put, List.setIfInBounds_toArray, List.set_cons_zero, List.set_cons_succ])
        refine np_take (i := 6) (v := ?_) rfl (by kernel_rfl) (by kernel_rfl) (by kernel_rfl) (by rfl) ?_ (by assumption) ?_; rotate_left 1; (· (intro w hSw; (try dsimp only at hSw); go_simp; all_goals with_reducible rfl)); (try simp only [Act.put, List.setIfInBounds_toArray, List.set_cons_zero, List.set_cons_succ])
        refine np_take (i := 7) (v := ?_) rfl (by kernel_rfl) (by kernel_rfl) (by kernel_rfl) (by rfl) ?_ (by assumption) ?_; rotate_left 1; (· (intro w hSw; (try dsimp only at hSw); go_simp; all_goals with_reducible rfl)); (try simp only [Act.put, List.setIfInBounds_toArray, List.set_cons_zero, List.set_cons_succ])
        refine np_take (i := 8) (v := ?_) rfl (by kernel_rfl) (by kernel_rfl) (by kernel_rfl) (by rfl) ?_ (by assumption) ?_; rotate_left 1; (· (intro w hSw; (try dsimp only at hSw); go_simp; all_goals with_reducible rfl)); (try simp only [Act.put, List.setIfInBounds_toArray, List.set_cons_zero, List.set_cons_succ])
        refine np_take (i := 9) (v := ?_) rfl (by kernel_rfl) (by kernel_rfl) (by kernel_rfl) (by rfl) ?_ (by assumption) ?_; rotate_left 1; (· (intro w hSw; (try dsimp only at hSw); go_simp; all_goals with_reducible rfl)); (try simp only [Act.put, List.setIfInBounds_toArray, List.set_cons_zero, List.set_cons_succ])
        refine np_take (i := 10) (v := ?_) rfl (by kernel_rfl) (by kernel_rfl) (by kernel_rfl) (by rfl) ?_ (by assumption) ?_; rotate_left 1; (· (intro w hSw; (try dsimp only at hSw); go_simp; all_goals with_reducible rfl)); (try simp only [Act.put, List.setIfInBounds_toArray, List.set_cons_zero, List.set_cons_succ])
        refine wpAnyH_ready (rs := [11, 12]) (by kernel_rfl) (by simp) (AllReadyH.cons rfl (fun K hK => ?_) (AllReadyH.cons rfl (fun K hK => ?_) AllReadyH.nil))
        · rw [if_pos (by rfl)]; go_simp; ((go_at_call 16; refine (Hdo.out _ hRd).mono ?_; rintro e v ⟨M4, rfl, hQ, hst4, hk4, hok4⟩; obtain ⟨V4, hs4, hg4, hb4⟩ := rnew_pkg v R5.1; have hR4 := hQ.on hb4; have hum4 := own_below6 (hRd.at_.keepOwn hk4 hkvd (by decide) (by decide) (by decide)) hb4)); (try go_wp2_with fail); refine hK.out _ _ ?_ (fun hHeld => ?_); (· (first | exact Kx.out _ hR4.bl | exact Kx.out _ (hQ.bl.alloc hQ.bl.size _) | exact Kx.out _ hQ.bl | exact Kx.out _ hRa.bl | exact Kx.out _ hbw | exact Kx.out _ hbw0)); clear hK K; (try simp only [Act.put, List.setIfInBounds_toArray, List.set_cons_zero, List.set_cons_succ])
          refine np_step (i := 12) rfl (by kernel_rfl) (fun K hK => ?_); rw [if_pos (by rfl)]; go_simp; (skip); (try go_wp2_with fail); refine hK.out _ _ ?_ (fun hHeld => ?_); (· (first | exact Kx.out _ hR4.bl | exact Kx.out _ (hQ.bl.alloc hQ.bl.size _) | exact Kx.out _ hQ.bl | exact Kx.out _ hRa.bl | exact Kx.out _ hbw | exact Kx.out _ hbw0)); clear hK K; (try simp only [Act.put, List.setIfInBounds_toArray, List.set_cons_zero, List.set_cons_succ])
          refine np_step (i := 13) rfl (by kernel_rfl) (fun K hK => ?_); rw [if_pos (by rfl)]; go_simp; (skip); (try go_wp2_with fail); refine hK.out _ _ ?_ (fun hHeld => ?_); (· (first | exact Kx.out _ hR4.bl | exact Kx.out _ (hQ.bl.alloc hQ.bl.size _) | exact Kx.out _ hQ.bl | exact Kx.out _ hRa.bl | exact Kx.out _ hbw | exact Kx.out _ hbw0)); clear hK K; (try simp only [Act.put, List.setIfInBounds_toArray, List.set_cons_zero, List.set_cons_succ])
          refine wpAnyH_done (by kernel_rfl) ?_ _
          refine NoPanic.normal ?_
          exact ⟨rfl, EdR.intro _ M4 rfl hR4 hst4 hok4 hum4 hg4⟩
        · rw [if_pos (by rfl)]; go_simp; (have hRa := hRd.on ((Below.refl _ _).alloc (Nat.le_refl _) (.cells (resL {}).toArray 36)); have hga : (wr.drew.alloc (.cells (resL {}).toArray 36)).heap[wr.heap.size]? = some (.cells (resL {}).toArray 36 (0, 0)) := heap_alloc_new wr.drew (.cells (resL {}).toArray 36); have huma := own_below6 hkvd ((Below.refl _ _).alloc (Nat.le_refl _) (.cells (resL {}).toArray 36))); refine hK.out _ _ ?_ (fun hHeld => ?_); (· (first | exact Kx.out _ hR4.bl | exact Kx.out _ (hQ.bl.alloc hQ.bl.size _) | exact Kx.out _ hQ.bl | exact Kx.out _ hRa.bl | exact Kx.out _ hbw | exact Kx.out _ hbw0)); clear hK K; (try simp only [Act.put, List.setIfInBounds_toArray, List.set_cons_zero, List.set_cons_succ])
          refine np_step (i := 11) rfl (by kernel_rfl) (fun K hK => ?_); rw [if_pos (by rfl)]; go_simp; ((go_at_call 16; refine (Hdo.out _ hRa).mono ?_; rintro e v ⟨M4, rfl, hQ, hst4, hk4, hok4⟩; have hgb := hRa.at_.keep hk4 hga (by decide) (by decide) (by decide); obtain ⟨V4, hs4, hg4, hV4, hW4⟩ := rput_pkg hgb rfl R5.1; have hR4 := hW4 hQ hRd.bl.size; have hum4 := own_keep (hRa.at_.keepOwn hk4 huma (by decide) (by decide) (by decide)) hgb (by decide) (fun k _ hk => hV4 k hk))); (try go_wp2_with fail); refine hK.out _ _ ?_ (fun hHeld => ?_); (· (first | exact Kx.out _ hR4.bl | exact Kx.out _ (hQ.bl.alloc hQ.bl.size _) | exact Kx.out _ hQ.bl | exact Kx.out _ hRa.bl | exact Kx.out _ hbw | exact Kx.out _ hbw0)); clear hK K; (try simp only [Act.put, List.setIfInBounds_toArray, List.set_cons_zero, List.set_cons_succ])
          refine np_step (i := 13) rfl (by kernel_rfl) (fun K hK => ?_); rw [if_pos (by rfl)]; go_simp; (skip); (try go_wp2_with fail); refine hK.out _ _ ?_ (fun hHeld => ?_); (· (first | exact Kx.out _ hR4.bl | exact Kx.out _ (hQ.bl.alloc hQ.bl.size _) | exact Kx.out _ hQ.bl | exact Kx.out _ hRa.bl | exact Kx.out _ hbw | exact Kx.out _ hbw0)); clear hK K; (try simp only [Act.put, List.setIfInBounds_toArray, List.set_cons_zero, List.set_cons_succ])
          refine wpAnyH_done (by kernel_rfl) ?_ _
          refine NoPanic.normal ?_
          exact ⟨rfl, EdR.intro _ M4 rfl hR4 hst4 hok4 hum4 hg4⟩
      rintro _ a5 w5 ⟨rfl, g, M4, u, rfl, hR4, hst4, hok4, hkv4, hg4⟩
      obtain ⟨r5, s5⟩ := R5
      dsimp only at hst4 hg4
      subst hst4
      obtain ⟨hed1, hed2⟩ := HED.out
      dsimp only at hed1 hed2
      have hm64' := (MM.fits hok4).2.2
      have r0 := (blk13 hg4).1
      have r1 := (blk13 hg4).2.1
      obtain ⟨q0, q1, q2, q3, q4, q5, q6, q7⟩ := Kx.out _ hR4.bl
      have hn0 : 0 ≤ M.number := HOK.out.num0
      have hn1 : M.number ≤ j := HOK.out.num1
      by_cases hk : r5.err = 0 ∧ a.q.kind ≤ 4
      · obtain ⟨hrv, hnv, hedt⟩ := hed1 hk
        obtain ⟨hk1, hk2⟩ := hk
        have hN4 : M4.number = M.number + 1 := hnv
        have hrv' : r5.rev = M.number + 1 := hrv
        rw [hk1] at r0
        rw [hrv'] at r1
        have d2 : decide (a.q.kind ≤ 4) = true := by simpa using hk2
        have mv : Calls Tryz.prog 34 #[.string M.text, .slice ak M.marks.length ck, .agg #[.int .u8 a.q.kind, .int .i64 a.q.slot, .int .i64 a.q.at_, .int .i64 a.q.n, .int .u32 a.q.id, .int .u8 a.q.grav, .string a.q.text]] w5 fun e w' => ∃ v, e = .returned (.tuple #[.string M4.text, v, .bool true]) ∧ MOwn w' w5.heap.size v M4.marks ∧ Below w5.heap.size w5 w' := moved_any M.st M4.st j a.q ak ck w5 hedt HOK.out (mrow_own rfl hkv4).1 (mrow_own rfl hkv4).2
        have HRV := Lib.hid hrv'
        have HG4 := Lib.hid hg4
        have MV := Lib.hid mv
        have HN4 := Lib.hid hN4
        clear mv hed1 hed2 hrv hnv hrv' hN4 hk1 hk2 hg4 hedt
        go_wp2_with (go_at_call 34; refine MV.out.mono ?_; rintro e w6 ⟨v6, rfl, hv6, hb6⟩; have hg6 := (hb6.block _ (Array.getElem?_eq_some_iff.1 HG4.out).1).trans HG4.out; have s1 := (blk13 hg6).2.1; rw [HRV.out] at s1; obtain ⟨a7, c7, rfl⟩ := own_slice hv6; have hR6 := hR4.on hb6; have hkv6 := own_mono (Nat.zero_le _) hv6)
        have hN4 := HN4.out
        have h4c := hok4
        clear HN4 HRV HG4 MV
        have hv4 := hok4.valid
        have hz4 := hok4.size
        have hcm := hok4.marks
        have hbd := hok4.bound
        have n4a := hok4.num0
        have n4b := hok4.num1
        have d65 : decide (65536 < (M4.text.size : Int)) = false := by have : M4.text.size ≤ 65536 := hz4; simp; omega
        have d66 : decide (65536 < M4.text.size) = false := by have : M4.text.size ≤ 65536 := hz4; simp; omega
        have HCM := Lib.hid hcm
        have HBD := Lib.hid hbd
        have HV := Lib.hid hv4
        have HO4 := Lib.hid hok4
        clear hcm hbd hv4 hok4 n4a n4b hz4
        have hb5 : (0 : Int) ≤ M4.text.size := Int.natCast_nonneg _
        go_wp2_with (first | (go_at_call 31; refine (marks_any b M4 _ hR6.at_ (by omega)).mono ?_; rintro e w7 ⟨um, rfl, hum, hbm⟩; obtain ⟨am, cm, rfl⟩ := own_slice hum; have hR7 := hR6.on hbm; have hkv7 := own_below6 hkv6 hbm; have hum7 := own_mono (Nat.zero_le _) hum) | (go_at_call 27; refine (text_any b M4 _ hR7.at_).mono ?_; rintro e z2 ⟨rfl, rfl⟩) | (go_at_call 28; refine (number_any b M4 _ hR7.at_).mono ?_; (try rw [hN4]); rintro e z3 ⟨rfl, rfl⟩) | (go_at_call 32; refine (equal_eq am a7 cm c7 M4.marks _ (mrow_own rfl hum7).1 (mrow_own rfl hkv7).1 (by omega)).mono ?_; rintro e w8 ⟨rfl, hb8⟩; have hR8 := hR7.on hb8; have hkv8 := own_below6 hkv7 hb8; have hum8 := own_below6 hum7 hb8) | (go_at_call 35; refine (valid_any M4.text _).mono ?_; rw [show validL M4.text.data.toList = true from HV.out]; rintro e z4 ⟨rfl, rfl⟩) | (go_at_call 36; refine (mcheck_any am cm M4.text.size M4.marks _ (mrow_own rfl hum8).1 HCM.out hb5).mono ?_; rintro e w9 ⟨rfl, hb9⟩; have hR9 := hR8.on hb9; have hkv9 := own_below6 hkv8 hb9; have hum9 := own_below6 hum8 hb9))
        refine wp_loop (EdM w (some ⟨bl, off, none⟩) l.length cp b M4 (.slice a7 M4.marks.length c7) j am cm) (fun a _ => M4.marks.length - (intOf (a.tmps.getD 15 undef)).toNat) ?_ ?_
        · exact EdM.intro 0 (by first | rfl | (rw [hN4]; rfl)) (by omega) hR9 hkv9 hum9
        · clear hR6 hkv6 hR7 hkv7 hum7 hR8 hkv8 hum8 hR9 hkv9 hum9 hum hbm hb8 hb9
          rintro a8 wq ⟨x, u, rfl, hx4, hRq, hkvq, humq⟩
          by_cases hlx : x < M4.marks.length
          · obtain ⟨gm, rfl⟩ := own_some' humq (by omega)
            have hxm := List.getElem?_eq_getElem hlx
            generalize M4.marks[x] = mm at hxm
            have cx := mrow_at humq hxm
            have hbb := HBD.out mm (List.mem_of_getElem? hxm)
            have HBB := Lib.hid hbb
            clear hbb hxm
            go_wp2_with (go_at_call 37; refine (boundary_any M4.text mm.at_ _).mono ?_; rw [show bndB M4.text.data.toList mm.at_ = true from HBB.out]; rintro e z5 ⟨rfl, rfl⟩)
            exact ⟨EdM.intro (x + 1) (by first | rfl | (rw [hN4]; rfl)) (by omega) hRq hkvq humq, by simp [intOf]; omega⟩
          · go_wp2
            exact ⟨EdI.intro (j + 1) M4 (.slice a7 M4.marks.length c7) (by first | rfl | (rw [hN4]; rfl)) (by omega) hRq (HO4.out.mono (by omega)) hkvq, by simp [intOf]; omega⟩
      · have hsm := hed2 hk
        have hT4 : M4.text = M.text := hsm.1
        have hM4 : M4.marks = M.marks := hsm.2.1
        have hN5 : M4.number = M.number := hsm.2.2
        rw [← hM4] at hkv4
        rw [← hT4, ← hM4, ← hN5]
        have hR6 := hR4
        have hkv6 := hkv4
        obtain ⟨a7, ha7⟩ : ∃ a7, a7 = ak := ⟨_, rfl⟩
        obtain ⟨c7, hc7⟩ : ∃ c7, c7 = ck := ⟨_, rfl⟩
        subst ha7; subst hc7
        clear hkv4 hsm hed1 hed2 hT4 hM4 hN5 hR4 hg4 HED
        by_cases hk1 : r5.err = 0
        · have d2 : decide (a.q.kind ≤ 4) = false := by simp; omega
          rw [hk1] at r0
          clear hk hk1
          have hv4 := hok4.valid
          have hz4 := hok4.size
          have hcm := hok4.marks
          have hbd := hok4.bound
          have n4a := hok4.num0
          have n4b := hok4.num1
          have d65 : decide (65536 < (M4.text.size : Int)) = false := by have : M4.text.size ≤ 65536 := hz4; simp; omega
          have d66 : decide (65536 < M4.text.size) = false := by have : M4.text.size ≤ 65536 := hz4; simp; omega
          have HCM := Lib.hid hcm
          have HBD := Lib.hid hbd
          have HV := Lib.hid hv4
          have HO4 := Lib.hid hok4
          clear hcm hbd hv4 hok4 n4a n4b hz4
          have hb5 : (0 : Int) ≤ M4.text.size := Int.natCast_nonneg _
          go_wp2_with (first | (go_at_call 31; refine (marks_any b M4 _ hR6.at_ (by omega)).mono ?_; rintro e w7 ⟨um, rfl, hum, hbm⟩; obtain ⟨am, cm, rfl⟩ := own_slice hum; have hR7 := hR6.on hbm; have hkv7 := own_below6 hkv6 hbm; have hum7 := own_mono (Nat.zero_le _) hum) | (go_at_call 27; refine (text_any b M4 _ hR7.at_).mono ?_; rintro e z2 ⟨rfl, rfl⟩) | (go_at_call 28; refine (number_any b M4 _ hR7.at_).mono ?_; (try rw [hN4]); rintro e z3 ⟨rfl, rfl⟩) | (go_at_call 32; refine (equal_eq am a7 cm c7 M4.marks _ (mrow_own rfl hum7).1 (mrow_own rfl hkv7).1 (by omega)).mono ?_; rintro e w8 ⟨rfl, hb8⟩; have hR8 := hR7.on hb8; have hkv8 := own_below6 hkv7 hb8; have hum8 := own_below6 hum7 hb8) | (go_at_call 35; refine (valid_any M4.text _).mono ?_; rw [show validL M4.text.data.toList = true from HV.out]; rintro e z4 ⟨rfl, rfl⟩) | (go_at_call 36; refine (mcheck_any am cm M4.text.size M4.marks _ (mrow_own rfl hum8).1 HCM.out hb5).mono ?_; rintro e w9 ⟨rfl, hb9⟩; have hR9 := hR8.on hb9; have hkv9 := own_below6 hkv8 hb9; have hum9 := own_below6 hum8 hb9))
          refine wp_loop (EdM w (some ⟨bl, off, none⟩) l.length cp b M4 (.slice a7 M4.marks.length c7) j am cm) (fun a _ => M4.marks.length - (intOf (a.tmps.getD 15 undef)).toNat) ?_ ?_
          · exact EdM.intro 0 (by first | rfl | (rw [hN4]; rfl)) (by omega) hR9 hkv9 hum9
          · clear hR6 hkv6 hR7 hkv7 hum7 hR8 hkv8 hum8 hR9 hkv9 hum9 hum hbm hb8 hb9
            rintro a8 wq ⟨x, u, rfl, hx4, hRq, hkvq, humq⟩
            by_cases hlx : x < M4.marks.length
            · obtain ⟨gm, rfl⟩ := own_some' humq (by omega)
              have hxm := List.getElem?_eq_getElem hlx
              generalize M4.marks[x] = mm at hxm
              have cx := mrow_at humq hxm
              have hbb := HBD.out mm (List.mem_of_getElem? hxm)
              have HBB := Lib.hid hbb
              clear hbb hxm
              go_wp2_with (go_at_call 37; refine (boundary_any M4.text mm.at_ _).mono ?_; rw [show bndB M4.text.data.toList mm.at_ = true from HBB.out]; rintro e z5 ⟨rfl, rfl⟩)
              exact ⟨EdM.intro (x + 1) (by first | rfl | (rw [hN4]; rfl)) (by omega) hRq hkvq humq, by simp [intOf]; omega⟩
            · go_wp2
              exact ⟨EdI.intro (j + 1) M4 (.slice a7 M4.marks.length c7) (by first | rfl | (rw [hN4]; rfl)) (by omega) hRq (HO4.out.mono (by omega)) hkvq, by simp [intOf]; omega⟩
        · have d1 : (r5.err == 0) = false := by simpa using hk1
          clear hk hk1
          have hv4 := hok4.valid
          have hz4 := hok4.size
          have hcm := hok4.marks
          have hbd := hok4.bound
          have n4a := hok4.num0
          have n4b := hok4.num1
          have d65 : decide (65536 < (M4.text.size : Int)) = false := by have : M4.text.size ≤ 65536 := hz4; simp; omega
          have d66 : decide (65536 < M4.text.size) = false := by have : M4.text.size ≤ 65536 := hz4; simp; omega
          have HCM := Lib.hid hcm
          have HBD := Lib.hid hbd
          have HV := Lib.hid hv4
          have HO4 := Lib.hid hok4
          clear hcm hbd hv4 hok4 n4a n4b hz4
          have hb5 : (0 : Int) ≤ M4.text.size := Int.natCast_nonneg _
          go_wp2_with (first | (go_at_call 31; refine (marks_any b M4 _ hR6.at_ (by omega)).mono ?_; rintro e w7 ⟨um, rfl, hum, hbm⟩; obtain ⟨am, cm, rfl⟩ := own_slice hum; have hR7 := hR6.on hbm; have hkv7 := own_below6 hkv6 hbm; have hum7 := own_mono (Nat.zero_le _) hum) | (go_at_call 27; refine (text_any b M4 _ hR7.at_).mono ?_; rintro e z2 ⟨rfl, rfl⟩) | (go_at_call 28; refine (number_any b M4 _ hR7.at_).mono ?_; (try rw [hN4]); rintro e z3 ⟨rfl, rfl⟩) | (go_at_call 32; refine (equal_eq am a7 cm c7 M4.marks _ (mrow_own rfl hum7).1 (mrow_own rfl hkv7).1 (by omega)).mono ?_; rintro e w8 ⟨rfl, hb8⟩; have hR8 := hR7.on hb8; have hkv8 := own_below6 hkv7 hb8; have hum8 := own_below6 hum7 hb8) | (go_at_call 35; refine (valid_any M4.text _).mono ?_; rw [show validL M4.text.data.toList = true from HV.out]; rintro e z4 ⟨rfl, rfl⟩) | (go_at_call 36; refine (mcheck_any am cm M4.text.size M4.marks _ (mrow_own rfl hum8).1 HCM.out hb5).mono ?_; rintro e w9 ⟨rfl, hb9⟩; have hR9 := hR8.on hb9; have hkv9 := own_below6 hkv8 hb9; have hum9 := own_below6 hum8 hb9))
          refine wp_loop (EdM w (some ⟨bl, off, none⟩) l.length cp b M4 (.slice a7 M4.marks.length c7) j am cm) (fun a _ => M4.marks.length - (intOf (a.tmps.getD 15 undef)).toNat) ?_ ?_
          · exact EdM.intro 0 (by first | rfl | (rw [hN4]; rfl)) (by omega) hR9 hkv9 hum9
          · clear hR6 hkv6 hR7 hkv7 hum7 hR8 hkv8 hum8 hR9 hkv9 hum9 hum hbm hb8 hb9
            rintro a8 wq ⟨x, u, rfl, hx4, hRq, hkvq, humq⟩
            by_cases hlx : x < M4.marks.length
            · obtain ⟨gm, rfl⟩ := own_some' humq (by omega)
              have hxm := List.getElem?_eq_getElem hlx
              generalize M4.marks[x] = mm at hxm
              have cx := mrow_at humq hxm
              have hbb := HBD.out mm (List.mem_of_getElem? hxm)
              have HBB := Lib.hid hbb
              clear hbb hxm
              go_wp2_with (go_at_call 37; refine (boundary_any M4.text mm.at_ _).mono ?_; rw [show bndB M4.text.data.toList mm.at_ = true from HBB.out]; rintro e z5 ⟨rfl, rfl⟩)
              exact ⟨EdM.intro (x + 1) (by first | rfl | (rw [hN4]; rfl)) (by omega) hRq hkvq humq, by simp [intOf]; omega⟩
            · go_wp2
              exact ⟨EdI.intro (j + 1) M4 (.slice a7 M4.marks.length c7) (by first | rfl | (rw [hN4]; rfl)) (by omega) hRq (HO4.out.mono (by omega)) hkvq, by simp [intOf]; omega⟩
    · obtain rfl : j = l.length := by omega
      go_wp2_with (go_at_call 13; refine (known_any _).mono ?_; rintro e w9 ⟨rfl, hb9⟩)
      go_returns
      exact ⟨rfl, (hR.on hb9).bl⟩
theorem walkModelEdits (c : CfgV) (p : Option Addr) (cp : Nat) (l : List ActV) (w : World) (hA : ArgActs w p l) :
    Calls Tryz.prog 11 #[c.v, .slice p l.length cp] w fun e w' => e = .returned (.bool true) ∧ Below w.heap.size w w' := by
  by_cases h : cfgE c ≠ 0 ∨ 2000 < c.text.size ∨ 60 < l.length
  · exact edits_short c p cp l w h
  · exact edits_main c p cp l w hA (Decidable.not_not.1 fun hc => h (.inl hc)) (by omega) (by omega)
end Go.Proofs.YtlealeecmmpckaaGreat
namespace Go.Proofs.YtlealeecmmpckaaGreat.modelEdits
set_option linter.unusedVariables false
set_option linter.unusedSimpArgs false
open Go.ChangeShapes Go.WideShapes Go.ChangeAt Go.RowKit
open Go.ChangeMaps (open_string shut_string)
set_option linter.unusedVariables false

set_option maxRecDepth 100000 in
theorem lifted (os : Os) (started : os.Started) (H : Type) (enc : TypeId × Value → H) :
    ReturnsInHanded {} Tryz.checked os 11 .any (Rows.modelEditsSpec.pre6 enc Tryz.prog Tryz.f11 Rows.modelEditsRow.domain false) (Rows.modelEditsSpec.post enc Tryz.prog Tryz.f11 false true false false) := by
  refine returnsInHanded_of_change_sized (C := Tryz.checked) own started (by kernel_rfl) Tryz.func11
    (ChangeSpec.witness6 (enc := enc) (C := Tryz.checked) false ⟨#[], #[.agg #[.int .i64 0, .int .u64 0, .int .i64 0, .int .i64 0, .int .i64 0, .int .i64 0, .int .i64 0, .string ⟨#[]⟩], .slice none 0 0], []⟩ 8 (by kernel_rfl) (by kernel_rfl) (by kernel_rfl) (by kernel_rfl)) ?_
  intro W base args ds gs before hval0 hW hcnd hsz0 _
  have hval : ∀ (j : Nat) t v, Tryz.f11.params[j]? = some t → args[j]? = some v → Value.okWide Tryz.prog W .any base t v := hval0
  have hW' := hW
  obtain ⟨p, q, hA0, hV, rfl, hfz, hnd⟩ := hW
  have hA : DataW.TrodAll enc Tryz.prog W 0 (fun _ => true) true Tryz.f11.params.toList args.toList ds p := hA0
  rw [Tryz.params11] at hA hval
  obtain ⟨v0, vs0, d0, ds0, p0, q0, hargs, rfl, rfl, h0, r0⟩ := trodAll_cons hA
  obtain ⟨v1, vs1, d1, ds1, p1, q1, rfl, rfl, rfl, h1, r1⟩ := trodAll_cons r0
  obtain ⟨rfl, rfl, rfl⟩ := trodAll_nil r1
  obtain rfl : args = #[v0, v1] := by cases args; simp_all
  obtain ⟨rfl, rfl⟩ := trodVars_none hV
  obtain ⟨c0, rfl⟩ := open_cfg (hval 0 24 v0 rfl rfl) h0
  obtain ⟨q1, c1, l1, rfl, w1⟩ := open_acts (hval 1 25 v1 rfl rfl) h1
  clear hA0 hval0
  (try simp only [List.append_nil, List.nil_append] at hW')
  refine (walkModelEdits c0 q1 c1 l1 W w1).mono fun e W' ⟨he, hg⟩ => ?_
  subst he
  have hlt0 : ∀ x ∈ p0, x.block < W.heap.size := fun x hx => hW'.lt x (by simp [hx])
  have hlt1 : ∀ x ∈ p1, x.block < W.heap.size := fun x hx => hW'.lt x (by simp [hx])
  exact ⟨_, rfl, post_of_below (pa := (p0 ++ (p1 ++ []))) (pv := []) hW' (fun _ _ _ => (trodAll_cons_mk (shut_bool Tryz.underlying4 _) trodAll_mk0)) (fun sp hsp => (trodAll_cons_mk (WideElems.Trod_stays (by kernel_rfl) (by kernel_rfl) (of_decide_eq_true (by kernel_rfl)) h0 (fun x hx => hg.same (hlt0 x hx)) (fun x hx => hsp x (by simp [hx]))) (trodAll_cons_mk (WideElems.Trod_stays (by kernel_rfl) (by kernel_rfl) (of_decide_eq_true (by kernel_rfl)) h1 (fun x hx => hg.same (hlt1 x hx)) (fun x hx => hsp x (by simp [hx]))) trodAll_mk0))) (fun _ _ => rfl) (by simp)
    hg (ok_one (by kernel_rfl) rfl (okWide_bool_mk Tryz.underlying4 _))⟩

theorem proved : Rows.ModelEditsSaid :=
  OpenClaim.holds_of_wide 11 Tryz.f11 rfl rfl rfl rfl rfl rfl rfl ⟨rfl, rfl, rfl, rfl, rfl⟩ rfl rfl rfl rfl rfl (by kernel_rfl) Tryz.func11 (by kernel_rfl)
    (of_decide_eq_true (by kernel_rfl)) (by unfold Func.isWrapper; first | (rw [if_pos (by decide +kernel)]; kernel_rfl) | (rw [if_neg (by decide +kernel)]; exact ⟨rfl, rfl⟩))
    (fun os started H enc _ => lifted os started H enc)
#print axioms proved
end Go.Proofs.YtlealeecmmpckaaGreat.modelEdits
