/- The texts MdN RunesQ MsQ MdS MdT MdO Reg RegT MdQ MdR MdZ MdAc MdAa. -/
import Derived.Test.YtdeiocppghhfdaaGreatPue
import Derived.Test.YtdeiocppghhfdaaGreatPua
import Derived.Test.YtdeiocppghhfdaaGreatPuc
import Derived.Test.YtdeiocppghhfdaaGreatChecked
import Derived.Deep.MidRow
import Derived.Deep.RegionHeld3
namespace Go.Proofs.YtdeiocppghhfdaaGreat
set_option linter.unusedVariables false
set_option linter.unusedSimpArgs false
set_option maxRecDepth 100000
set_option maxHeartbeats 8000000
open Go.RowKit Go.Lib Go.Shelf
attribute [local go_sem, local simp] resF resL_len resL_ne rset0 rset1 rset2 rset3 rset4 rset5
theorem rep_eq (t : ByteArray) (a n : Int) (x : ByteArray) : t.extract 0 a.toNat ++ x ++ t.extract (a + n).toNat t.size = repT t a n x := by
  apply ByteArray.ext
  apply Array.toList_inj.1
  unfold repT
  simp [ByteArray.data_extract]
  exact List.take_of_length_le (by simp)
theorem MdAt.row {W : World} {b g : Nat} {M : MM} {cs : Array Value} (h : MdAt W b M) (hg : W.heap[g]? = some (.cells cs 51 (0, 0))) (r : Array Value) : MdAt (W.setRow g r) b M := by
  have hk : ∀ k, k < W.heap.size → k ≠ g → (W.setRow g r).heap[k]? = W.heap[k]? := fun k _ hk => setRow_other _ _ _ _ hk
  have hbg : b ≠ g := fun e => by subst e; have := h.blk; rw [hg] at this; injection this with this; injection this with _ h2 _; exact absurd h2 (by decide)
  exact ⟨(hk b (Array.getElem?_eq_some_iff.1 h.blk).1 hbg).trans h.blk, own_keep h.marks hg (by decide) hk, own_keep h.seats hg (by decide) hk, fun S hS => own_keep (h.slots S hS) hg (by decide) hk, fun S hS x hx => own_keep (h.smarks S hS x hx) hg (by decide) hk, h.some_, h.nodup⟩
theorem KeepF.drew {F : Nat → Prop} {w w' : World} (h : KeepF F w w') : KeepF F w w'.drew := ⟨h.os, h.tape, h.output, h.size, h.block⟩
theorem KeepF.row {F : Nat → Prop} {w w' : World} {g : Nat} (h : KeepF F w w') (hg : w.heap.size ≤ g) (r : Array Value) : KeepF F w (w'.setRow g r) :=
  ⟨h.os, h.tape, h.output, by rw [setRow_size]; exact h.size, fun k hk hF => (setRow_other _ _ _ _ (by omega)).trans (h.block k hk hF)⟩
theorem mreplace_any (b : Nat) (M : MM) (a n : Int) (x : ByteArray) (w : World) (h : MdAt w b M) (hrep : RepOK M.text.size a n x) (hmk : MkOK M.text.size M.marks) (hn : 0 ≤ M.number) (hn2 : M.number ≤ 100000) :
    Calls Tryz.prog 192 #[.pointer (some ⟨b, 0, none⟩), .int .i64 a, .int .i64 n, .string x] w fun e w' => e = .returned (.agg (resL { rev := M.number + 1 }).toArray) ∧ (∃ mv, MdAt w' b { M with text := repT M.text a n x, mv := mv, marks := shiftM (repD M.text.size a n x) M.marks, number := M.number + 1 }) ∧ KeepF (fun k => k = b) w w' := by
  obtain ⟨hok, hfin, hsm, hlen⟩ := rep_ok hrep
  have hrl := repD_len M.text.size a n x
  have hrep' := hrep
  obtain ⟨ha, hn0, han, hsz, hxs, _⟩ := hrep
  have c0 : w.cell? ⟨b, 0, none⟩ = some (.string M.text) := by simp [World.cell?, h.blk, mdL]
  have c0' := fun o => Lib.cell?_alloc_some o c0
  have hlt := (Array.getElem?_eq_some_iff.1 h.blk).1
  have hB0 := (Below.refl w.heap.size w).alloc (Nat.le_refl _) (.cells (resL {}).toArray 51)
  have hz0 := heap_alloc_new w (.cells (resL {}).toArray 51)
  obtain ⟨ao, cp, hmv⟩ := own_slice h.marks
  have h1 := h.marks
  rw [hmv] at h1
  obtain ⟨hrow, hcp⟩ := mrow_own rfl h1
  have hmk' : MkOK (lenS (repD M.text.size a n x)).1 M.marks := by rw [hlen]; exact hmk
  have ra := fun W => replace_any M.text.size a n x W hrep'
  have hwr : IntKind.i64.wrap (a + n) = a + n := IntWalk.i64_in _ (by omega)
  have b1 : a ≤ (M.text.size : Int) := by omega
  have b2 : 0 ≤ a + n := by omega
  go_enter Tryz.func192, Tryz.ntmps192
  go_wp2_with (first | (go_at_call 239; refine (ra _).mono ?_; rintro e w1 ⟨vd, rfl, hod, hB1⟩; obtain ⟨ad, cd, rfl⟩ := own_slice hod; obtain ⟨hdrow, hcd⟩ := prow_own rfl hod; have hB2 := hB0.trans (hB1.mono (by simp)); have hM1 := h.below hB2; have e0 : w1.cell? ⟨b, 0, none⟩ = some (.string M.text) := (by simp [World.cell?, hM1.blk, mdL]); have e1 : w1.cell? ⟨b, 1, none⟩ = some (.slice ao M.marks.length cp) := (by simp [World.cell?, hM1.blk, mdL, hmv]); have hz1 := (hB1.block _ (by simp)).trans hz0) | (go_at_call 240; refine (mshift_any ao ad cp cd M.marks (repD M.text.size a n x) _ (hrow.on hB2) hdrow hmk' (by omega) hcd (by rw [hlen]) (by rw [hlen]; dsimp only; omega) (by rw [hlen]; dsimp only; omega)).mono ?_; rintro e w2 ⟨vm, rfl, hom, hB3⟩; obtain ⟨am, cm, rfl⟩ := own_slice hom; have hB4 := hB2.trans (hB3.mono hB2.size); have hM2 := h.below hB4; have g0 : w2.cell? ⟨b, 0, none⟩ = some (.string M.text) := (by simp [World.cell?, hM2.blk, mdL]); have g1 : w2.cell? ⟨b, 1, none⟩ = some (.slice ao M.marks.length cp) := (by simp [World.cell?, hM2.blk, mdL, hmv]); have f0 : w2.frozen? ⟨b, 0, none⟩ = false := (by simp [World.frozen?, hM2.blk]); have f1 : w2.frozen? ⟨b, 1, none⟩ = false := (by simp [World.frozen?, hM2.blk]); have hz2 := (hB3.block _ (Array.getElem?_eq_some_iff.1 hz1).1).trans hz1))
  go_region
  have hre := rep_eq M.text a n x
  rw [hre]
  obtain ⟨M3, hM3e⟩ : ∃ M3 : MM, M3 = { M with text := repT M.text a n x, mv := .slice am (shiftM (repD M.text.size a n x) M.marks).length cm, marks := shiftM (repD M.text.size a n x) M.marks } := ⟨_, rfl⟩
  have hM3 : MdAt ((w2.setCell ⟨b, 0, none⟩ (.string (repT M.text a n x))).setCell ⟨b, 1, none⟩ (.slice am (shiftM (repD M.text.size a n x) M.marks).length cm)).drew b M3 := by
    have hk : ∀ k, k < w2.heap.size → k ≠ b → ((w2.setCell ⟨b, 0, none⟩ (.string (repT M.text a n x))).setCell ⟨b, 1, none⟩ (.slice am (shiftM (repD M.text.size a n x) M.marks).length cm)).heap[k]? = w2.heap[k]? := fun k _ hk => (setCell_ne _ _ _ _ hk).trans (setCell_ne _ _ _ _ hk)
    refine hM2.upd ?_ hk ?_ (by rw [hM3e]) (by rw [hM3e])
    · have := blk_set (blk_set hM2.blk 0 (.string (repT M.text a n x))) 1 (.slice am (shiftM (repD M.text.size a n x) M.marks).length cm)
      rw [hM3e]; exact this
    · rw [hM3e]; exact own_keep (own_mono (Nat.zero_le _) hom) hM2.blk (by decide) hk
  have hK3 : KeepF (fun k => k = b) w2 ((w2.setCell ⟨b, 0, none⟩ (.string (repT M.text a n x))).setCell ⟨b, 1, none⟩ (.slice am (shiftM (repD M.text.size a n x) M.marks).length cm)).drew := ((KeepF.set (F := fun k => k = b) (a := ⟨b, 0, none⟩) rfl _).trans (KeepF.set (F := fun k => k = b) (a := ⟨b, 1, none⟩) rfl _)).drew
  have hz3 := (hK3.block w.heap.size (Array.getElem?_eq_some_iff.1 hz2).1 (by omega)).trans hz2
  generalize ((w2.setCell ⟨b, 0, none⟩ (.string (repT M.text a n x))).setCell ⟨b, 1, none⟩ (.slice am (shiftM (repD M.text.size a n x) M.marks).length cm)).drew = w3 at *
  have hed := edited_any b M3 w3 hM3 (by rw [hM3e]; exact hn) (by rw [hM3e]; exact hn2)
  have hnum : M3.number = M.number := by rw [hM3e]
  rw [hnum] at hed
  go_wp2_with (go_at_call 195; refine hed.mono ?_; rintro e w4 ⟨rfl, hM4, hK4⟩; have hz4 := (hK4.block w.heap.size (Array.getElem?_eq_some_iff.1 hz3).1 (by omega)).trans hz3; have hst := res_st hz4 rfl)
  have hB4' := below_row (Below.refl w.heap.size w4) (Nat.le_refl _) (resL { rev := M.number + 1 }).toArray
  have hs4 : w.heap.size < w4.heap.size := (Array.getElem?_eq_some_iff.1 hz4).1
  refine ⟨rfl, _, results_cell_row rfl _ _ _ _ _ _ _ rfl (setRow_heap _ _ _ _ _ _ hz4) Tryz.underlying51 rfl (by kernel_rfl), rfl, ⟨.slice am (shiftM (repD M.text.size a n x) M.marks).length cm, ?_⟩, ?_⟩
  · have := hM4.row hz4 (resL { rev := M.number + 1 }).toArray
    rw [hM3e] at this
    exact this
  · refine ((KeepF.of_below hB4).trans (hK3.trans hK4)).row ?_ _
    exact Nat.le_refl _
end Go.Proofs.YtdeiocppghhfdaaGreat
namespace Go.Proofs.YtdeiocppghhfdaaGreat
set_option linter.unusedVariables false
set_option linter.unusedSimpArgs false
set_option maxRecDepth 100000
set_option maxHeartbeats 8000000
theorem ann_cont {b : Int} (h : contB b = true) : annB b = 0 := by have := cont_bd h; unfold annB; repeat (first | omega | split)
theorem dec_back {l : List UInt8} {r n : Int} (h : decL l = (r, n, 0)) : encL r = l.take n.toNat ∧ encE r = 0 ∧ 1 ≤ n ∧ n ≤ l.length ∧ n ≤ 4 ∧ lenB r = n := by
  rcases dec_inv l with ⟨n', r', he, h1, h2, h3, ha, hc, hr, hl⟩ | ⟨_, he⟩ | ⟨_, he⟩
  · rw [h] at he
    simp only [Prod.mk.injEq] at he
    obtain ⟨rfl, rfl, _⟩ := he
    have hx := ann_of ha
    have hb := byt_lo l 0
    have := enc_take h1 h2 h3 hc (by rw [hr]; exact hl) (by omega)
    rw [hr] at this
    refine ⟨this, ?_, h1, h3, h2, hl⟩
    rcases len_of hl with h0 | ⟨h0, _⟩
    · omega
    · simp [encE, h0]
  · rw [h] at he; simp at he
  · rw [h] at he; simp at he
theorem dec_local {l m : List UInt8} {r n : Int} (h : decL l = (r, n, 0)) (hm : n ≤ m.length) (hb : ∀ k : Nat, (k : Int) < n → byt m k = byt l k) : decL m = (r, n, 0) := by
  rcases dec_inv l with ⟨n', r', he, h1, h2, h3, ha, hc, hr, hl⟩ | ⟨_, he⟩ | ⟨_, he⟩
  · rw [h] at he
    simp only [Prod.mk.injEq] at he
    obtain ⟨rfl, rfl, _⟩ := he
    have b0 := hb 0 (by omega)
    have hn : n = 1 ∨ n = 2 ∨ n = 3 ∨ n = 4 := by omega
    refine dec_yes (by rw [b0]; exact ha) h1 hm ?_ ?_ hl
    · rw [← hr]
      rcases hn with rfl | rfl | rfl | rfl <;> unfold decR <;> simp [b0, hb 1, hb 2, hb 3]
    · rw [← hc]
      rcases hn with rfl | rfl | rfl | rfl <;> unfold decC <;> simp [hb 1, hb 2, hb 3]
  · rw [h] at he; simp at he
  · rw [h] at he; simp at he
theorem dec_append {l : List UInt8} {r n : Int} (h : decL l = (r, n, 0)) (m : List UInt8) : decL (l ++ m) = (r, n, 0) := by
  have hb := dec_back h
  refine dec_local h (by rw [List.length_append]; omega) fun k hk => byt_append_left _ _ _ (by omega)
theorem dec_take {l : List UInt8} {r n : Int} (h : decL l = (r, n, 0)) (k : Nat) (hk : n ≤ k) : decL (l.take k) = (r, n, 0) := by
  have hb := dec_back h
  refine dec_local h (by rw [List.length_take]; omega) fun j hj => byt_take _ _ _ (by omega)
theorem dec_conts {l : List UInt8} {r n : Int} (h : decL l = (r, n, 0)) : contB (byt l 0) = false ∧ ∀ k : Nat, 1 ≤ k → (k : Int) < n → contB (byt l k) = true := by
  rcases dec_inv l with ⟨n', r', he, h1, h2, h3, ha, hc, hr, hl⟩ | ⟨_, he⟩ | ⟨_, he⟩
  · rw [h] at he
    simp only [Prod.mk.injEq] at he
    obtain ⟨rfl, rfl, _⟩ := he
    constructor
    · cases hx : contB (byt l 0) with
      | false => rfl
      | true => rw [ann_cont hx] at ha; omega
    · intro k hk hkn
      unfold decC at hc
      simp only [Bool.and_eq_true, Bool.or_eq_true, decide_eq_true_eq] at hc
      obtain ⟨⟨c1, c2⟩, c3⟩ := hc
      have : k = 1 ∨ k = 2 ∨ k = 3 := by omega
      rcases this with rfl | rfl | rfl
      · exact c1.resolve_left (by omega)
      · exact c2.resolve_left (by omega)
      · exact c3.resolve_left (by omega)
  · rw [h] at he; simp at he
  · rw [h] at he; simp at he
theorem valid_dec {l : List UInt8} (h : validL l = true) (hl : l ≠ []) : ∃ r n, decL l = (r, n, 0) ∧ validL (l.drop n.toNat) = true := by
  rw [validL_step hl] at h
  split at h
  · next h0 =>
    refine ⟨(decL l).1, (decL l).2.1, ?_, h⟩
    rw [← h0]
  · cases h
theorem valid_of_dec {l : List UInt8} {r n : Int} (h : decL l = (r, n, 0)) : validL l = validL (l.drop n.toNat) := by
  have hb := dec_back h
  rw [validL_step (by rintro rfl; simp at hb; omega), h, if_pos rfl]
theorem valid_append (m : List UInt8) (hm : validL m = true) : ∀ (f : Nat) (l : List UInt8), l.length ≤ f → validL l = true → validL (l ++ m) = true := by
  intro f
  induction f with
  | zero =>
    intro l hl _
    have : l = [] := List.eq_nil_of_length_eq_zero (by omega)
    subst this
    exact hm
  | succ f ih =>
    intro l hl hv
    by_cases he : l = []
    · subst he; exact hm
    obtain ⟨r, n, hd, hr⟩ := valid_dec hv he
    have hb := dec_back hd
    rw [valid_of_dec (dec_append hd m), List.drop_append_of_le_length (by omega)]
    exact ih _ (by rw [List.length_drop]; omega) hr
theorem bnd_drop (l : List UInt8) (a : Nat) (n : Int) (h : 0 ≤ n) (ha : a ≤ l.length) : bndB (l.drop a) n = bndB l (a + n) := by
  unfold bndB
  rw [byt_drop, List.length_drop]
  have e1 : ((l.length - a : Nat) : Int) = l.length - a := by omega
  rw [e1, show a + n.toNat = ((a : Int) + n).toNat from by omega]
  congr 1
  · simp; omega
  · congr 1
    · congr 1; simp; omega
    · rw [Bool.eq_iff_iff]; simp; omega
theorem valid_cut : ∀ (f : Nat) (l : List UInt8), l.length ≤ f → validL l = true → ∀ k : Nat, k ≤ l.length → validL (l.take k) = bndB l k ∧ validL (l.drop k) = bndB l k := by
  intro f
  induction f with
  | zero =>
    intro l hl _ k hk
    have : l = [] := List.eq_nil_of_length_eq_zero (by omega)
    subst this
    simp at hk
    subst hk
    exact ⟨rfl, rfl⟩
  | succ f ih =>
    intro l hl hv k hk
    by_cases he : l = []
    · subst he
      simp at hk
      subst hk
      exact ⟨rfl, rfl⟩
    obtain ⟨r, n, hd, hr⟩ := valid_dec hv he
    have hb := dec_back hd
    have hc := dec_conts hd
    by_cases hkn : (k : Int) < n
    · by_cases hk0 : k = 0
      · subst hk0
        have : bndB l ((0 : Nat) : Int) = true := by
          unfold bndB
          simp [hc.1]
          omega
        rw [this]
        exact ⟨rfl, hv⟩
      · have hcon := hc.2 k (by omega) hkn
        have : bndB l (k : Int) = false := by
          unfold bndB
          simp [hcon]
          omega
        rw [this]
        have ha : annB (byt l 0) = n := by
          rcases dec_inv l with ⟨n', r', he', h1, h2, h3, ha, _⟩ | ⟨_, he'⟩ | ⟨_, he'⟩
          · rw [hd] at he'
            simp only [Prod.mk.injEq] at he'
            rw [ha, he'.2.1]
          · rw [hd] at he'; simp at he'
          · rw [hd] at he'; simp at he'
        constructor
        · have hne : l.take k ≠ [] := by
            intro e
            have := congrArg List.length e
            rw [List.length_take, List.length_nil] at this
            omega
          rw [validL_step hne, dec_no (List.length_pos_iff.2 hne) (.inr ?_)]
          · rfl
          · rw [byt_take _ _ _ (by omega), ha, List.length_take]
            omega
        · have hne : l.drop k ≠ [] := by
            intro e
            have := congrArg List.length e
            rw [List.length_drop, List.length_nil] at this
            omega
          rw [validL_step hne, dec_no (List.length_pos_iff.2 hne) (.inl ?_)]
          · rfl
          · rw [byt_drop]
            exact ann_cont hcon
    · have hr' := ih (l.drop n.toNat) (by rw [List.length_drop]; omega) hr (k - n.toNat) (by rw [List.length_drop]; omega)
      rw [bnd_drop _ _ _ (by omega) (by omega), show ((n.toNat : Nat) : Int) + ((k - n.toNat : Nat) : Int) = k from by omega] at hr'
      constructor
      · rw [valid_of_dec (dec_take hd k (by omega)), ← hr'.1, List.drop_take]
      · rw [← hr'.2, List.drop_drop, show n.toNat + (k - n.toNat) = k from by omega]
end Go.Proofs.YtdeiocppghhfdaaGreat
namespace Go.Proofs.YtdeiocppghhfdaaGreat
set_option linter.unusedVariables false
set_option linter.unusedSimpArgs false
set_option maxRecDepth 100000
set_option maxHeartbeats 8000000
structure OpIn (o : OpV) : Prop where
  k0 : 0 ≤ o.kind
  k1 : o.kind ≤ 255
  id0 : 0 ≤ o.id
  id1 : o.id ≤ 4294967295
  g0 : 0 ≤ o.grav
  slot : -9223372036854775808 ≤ o.slot ∧ o.slot ≤ 9223372036854775807
  at_ : -9223372036854775808 ≤ o.at_ ∧ o.at_ ≤ 9223372036854775807
  n : -9223372036854775808 ≤ o.n ∧ o.n ≤ 9223372036854775807
theorem opE_ok {o : OpV} (h : opE o = 0) : opP o ∧ o.text.size ≤ 256 ∧ validL o.text.data.toList = true := by
  unfold opE at h
  split at h
  · rename_i hp
    split at h
    · simp at h
    · split at h
      · rename_i h2 h3; exact ⟨hp, by omega, h3⟩
      · simp at h
  · simp at h
theorem statE_ok {st : MS} {c : Int} {o : OpV} (h : statE st c o = 0) : 0 ≤ c ∧ c < st.seats.length ∧ opE o = 0 := by
  unfold statE at h
  split at h
  · simp at h
  · exact ⟨by omega, by omega, h⟩
theorem bsz (t : ByteArray) : t.data.toList.length = t.size := Array.length_toList
theorem repT_size (t : ByteArray) (a n : Int) (x : ByteArray) (ha : 0 ≤ a) (hn : 0 ≤ n) (hl : a + n ≤ t.size) : ((repT t a n x).size : Int) = t.size - n + x.size := by
  have e1 := bsz t
  have e2 := bsz x
  rw [← bsz]
  unfold repT
  simp only [List.length_append, List.length_take, List.length_drop, e1, e2]
  omega
theorem repT_nat (t x : ByteArray) (a n : Nat) : repT t a n x = ⟨(t.data.toList.take a ++ x.data.toList ++ t.data.toList.drop (a + n)).toArray⟩ := by
  unfold repT; rw [← Int.natCast_add, Int.toNat_natCast, Int.toNat_natCast]
theorem bndB_valid {l : List UInt8} (h : validL l = true) (k : Nat) (hk : k ≤ l.length) : validL (l.take k) = bndB l k ∧ validL (l.drop k) = bndB l k := valid_cut l.length l (Nat.le_refl _) h k hk
theorem rep_valid {l x : List UInt8} (a n : Nat) (hv : validL l = true) (hx : validL x = true) (h1 : bndB l a = true) (h2 : bndB l (a + n : Nat) = true) (hl : a + n ≤ l.length) : validL (l.take a ++ x ++ l.drop (a + n)) = true := by
  have e1 := (bndB_valid hv a (by omega)).1
  have e2 := (bndB_valid hv (a + n) (by omega)).2
  exact valid_append _ (by rw [e2]; exact h2) _ _ (Nat.le_refl _) (valid_append _ hx _ _ (Nat.le_refl _) (by rw [e1]; exact h1))
theorem leftF_0 (p a t r : Int) : leftF p [] a t r = r := rfl
theorem leftF_1 (p n a t r : Int) (x : ByteArray) (d : List PcV) : leftF p (⟨1, n, x⟩ :: d) a t r = if p ≤ a then r else leftF p d (a + n) (t + n) (t + min n (p - a)) := by simp [leftF]
theorem leftF_2 (p n a t r : Int) (x : ByteArray) (d : List PcV) : leftF p (⟨2, n, x⟩ :: d) a t r = leftF p d a (t + x.size) r := by simp [leftF]
theorem leftF_3 (p n a t r : Int) (x : ByteArray) (d : List PcV) : leftF p (⟨3, n, x⟩ :: d) a t r = leftF p d (a + n) t r := by simp [leftF]
theorem rightF_0 (p a t e : Int) : rightF p [] a t e = e := rfl
theorem rightF_1 (p n a t e : Int) (x : ByteArray) (d : List PcV) : rightF p (⟨1, n, x⟩ :: d) a t e = if p < a + n then t + max 0 (p - a) else rightF p d (a + n) (t + n) e := by simp [rightF]
theorem rightF_2 (p n a t e : Int) (x : ByteArray) (d : List PcV) : rightF p (⟨2, n, x⟩ :: d) a t e = rightF p d a (t + x.size) e := by simp [rightF]
theorem rightF_3 (p n a t e : Int) (x : ByteArray) (d : List PcV) : rightF p (⟨3, n, x⟩ :: d) a t e = rightF p d (a + n) t e := by simp [rightF]
theorem pos_left (N a k : Int) (x : ByteArray) (p : Int) (ha : 0 ≤ a) (hk : 0 ≤ k) (hl : a + k ≤ N) (hp : 0 ≤ p) (hp2 : p ≤ N) : leftF p (repD N a k x) 0 0 0 = if p ≤ a + k then min a p else p - k + x.size := by
  unfold repD
  by_cases h1 : 0 < a <;> by_cases h2 : x.size = 0 <;> by_cases h3 : 0 < k <;> by_cases h4 : 0 < N - a - k <;> simp only [h1, h2, h3, h4, ne_eq, not_true_eq_false, not_false_eq_true, if_true, if_false, List.nil_append, List.cons_append, List.append_nil] <;> (repeat' (first | rw [leftF_0] | rw [leftF_1] | rw [leftF_2] | rw [leftF_3] | split)) <;> omega
theorem pos_right (N a k : Int) (x : ByteArray) (p e : Int) (ha : 0 ≤ a) (hk : 0 ≤ k) (hl : a + k ≤ N) (hp : 0 ≤ p) (hp2 : p ≤ N) (he : e = N - k + x.size) : rightF p (repD N a k x) 0 0 e = if p < a then p else a + x.size + max 0 (p - a - k) := by
  unfold repD
  by_cases h1 : 0 < a <;> by_cases h2 : x.size = 0 <;> by_cases h3 : 0 < k <;> by_cases h4 : 0 < N - a - k <;> simp only [h1, h2, h3, h4, ne_eq, not_true_eq_false, not_false_eq_true, if_true, if_false, List.nil_append, List.cons_append, List.append_nil] <;> (repeat' (first | rw [rightF_0] | rw [rightF_1] | rw [rightF_2] | rw [rightF_3] | split)) <;> omega
theorem pos_rep {N a k : Int} {x : ByteArray} (h : RepOK N a k x) (p g : Int) (hp : 0 ≤ p) (hp2 : p ≤ N) : posS (repD N a k x) p g = if g = 0 then (if p ≤ a + k then min a p else p - k + x.size) else (if p < a then p else a + x.size + max 0 (p - a - k)) := by
  have hlen := (rep_ok h).2.2.2
  obtain ⟨ha, hk, hl, _⟩ := h
  unfold posS
  rw [pos_left N a k x p ha hk hl hp hp2, pos_right N a k x p _ ha hk hl hp hp2 (by rw [hlen])]
theorem pos_bnd {l x : List UInt8} (a k : Nat) (hv : validL l = true) (hx : validL x = true) (h1 : bndB l a = true) (h2 : bndB l (a + k : Nat) = true) (hl : a + k ≤ l.length) (p q : Nat) (hp : bndB l p = true) (hpl : p ≤ l.length)
    (hq : (q = p ∧ p ≤ a) ∨ q = a ∨ q = a + x.length ∨ (q + k = p + x.length ∧ a + k ≤ p)) : bndB (l.take a ++ x ++ l.drop (a + k)) q = true := by
  have hV := rep_valid a k hv hx h1 h2 hl
  have et : (l.take a).length = a := by rw [List.length_take]; omega
  have hlen : (l.take a ++ x ++ l.drop (a + k)).length = a + x.length + (l.length - (a + k)) := by simp only [List.length_append, et, List.length_drop]
  have hql : q ≤ (l.take a ++ x ++ l.drop (a + k)).length := by rw [hlen]; omega
  rw [← (bndB_valid hV q hql).1]
  rcases hq with ⟨rfl, hq⟩ | rfl | rfl | ⟨hq, hq2⟩
  · rw [List.append_assoc, List.take_append_of_le_length (by rw [et]; exact hq), List.take_take, Nat.min_eq_left hq, (bndB_valid hv q hpl).1]; exact hp
  · rw [List.append_assoc, List.take_append_of_le_length (by rw [et]; exact Nat.le_refl _), List.take_take, Nat.min_self, (bndB_valid hv q (by omega)).1]; exact h1
  · have e : (l.take a ++ x).length = a + x.length := by rw [List.length_append, et]
    rw [List.take_append_of_le_length (by rw [e]; exact Nat.le_refl _), ← e, List.take_length]
    exact valid_append _ hx _ _ (Nat.le_refl _) (by rw [(bndB_valid hv a (by omega)).1]; exact h1)
  · have e : (l.take a ++ x).length = a + x.length := by rw [List.length_append, et]
    rw [List.take_append, List.take_of_length_le (by rw [e]; omega), e]
    have hd : validL (l.drop (a + k)) = true := by rw [(bndB_valid hv (a + k) hl).2]; exact h2
    have he : q - (a + x.length) = p - (a + k) := by omega
    rw [he]
    refine valid_append _ ?_ _ _ (Nat.le_refl _) (valid_append _ hx _ _ (Nat.le_refl _) (by rw [(bndB_valid hv a (by omega)).1]; exact h1))
    rw [(bndB_valid hd (p - (a + k)) (by rw [List.length_drop]; omega)).1, bnd_drop l (a + k) _ (by omega) hl]
    have : ((a + k : Nat) : Int) + ((p - (a + k) : Nat) : Int) = (p : Int) := by omega
    rw [this]; exact hp
theorem repS_ok {st : MS} {K : Int} (h : MSok st K) {a n : Int} {x : ByteArray} (hr : RepOK st.text.size a n x) (hx : validL x.data.toList = true) (hs : (st.text.size : Int) - n + x.size ≤ 65536) (h1 : bndB st.text.data.toList a = true) (h2 : bndB st.text.data.toList (a + n) = true) : MSok (repS st a n x).2 (K + 1) := by
  have hr' := hr
  obtain ⟨ha, hn, han, _⟩ := hr
  have hsz := repT_size st.text a n x ha hn han
  obtain ⟨a', rfl⟩ := Int.eq_ofNat_of_zero_le ha
  obtain ⟨n', rfl⟩ := Int.eq_ofNat_of_zero_le hn
  have hl : a' + n' ≤ st.text.data.toList.length := by rw [bsz]; omega
  have h2' : bndB st.text.data.toList (a' + n' : Nat) = true := by rw [Int.natCast_add]; exact h2
  have hpos : ∀ m ∈ st.marks, 0 ≤ posS (repD st.text.size a' n' x) m.at_ m.grav ∧ posS (repD st.text.size a' n' x) m.at_ m.grav ≤ (repT st.text a' n' x).size ∧ bndB (repT st.text a' n' x).data.toList (posS (repD st.text.size a' n' x) m.at_ m.grav) = true := by
    intro m hm
    obtain ⟨_, _, _, g1, g2⟩ := h.marks.2.2 m hm
    have hb := h.bound m hm
    rw [pos_rep hr' m.at_ m.grav g1 g2]
    generalize hq : (if m.grav = 0 then (if m.at_ ≤ (a' : Int) + n' then min (a' : Int) m.at_ else m.at_ - n' + x.size) else (if m.at_ < (a' : Int) then m.at_ else (a' : Int) + x.size + max 0 (m.at_ - a' - n'))) = q
    have hq0 : 0 ≤ q ∧ q ≤ (st.text.size : Int) - n' + x.size := by subst hq; (repeat' split) <;> omega
    refine ⟨hq0.1, by rw [hsz]; exact hq0.2, ?_⟩
    obtain ⟨p, hp⟩ := Int.eq_ofNat_of_zero_le g1
    obtain ⟨q', rfl⟩ := Int.eq_ofNat_of_zero_le hq0.1
    have := pos_bnd a' n' h.valid hx h1 h2' hl p q' (by rw [← hp]; exact hb) (by rw [bsz]; omega) (by
      rw [bsz]
      rw [hp] at hq
      split at hq
      · split at hq
        · rw [Int.min_def] at hq; split at hq <;> omega
        · omega
      · split at hq
        · omega
        · rw [Int.max_def] at hq; split at hq <;> omega)
    rw [repT_nat]
    exact this
  refine ⟨?_, ?_, ?_, ?_, ?_, ?_, h.readers, h.clients, h.slots⟩
  · have : ((repT st.text a' n' x).size : Int) ≤ 65536 := by rw [hsz]; exact hs
    exact Int.ofNat_le.1 this
  · have := rep_valid a' n' h.valid hx h1 h2' hl
    show validL (repT st.text a' n' x).data.toList = true
    rw [repT_nat]
    exact this
  · refine ⟨by show (shiftM _ _).length ≤ 64; unfold shiftM; rw [List.length_map]; exact h.marks.1, ?_, ?_⟩
    · show (shiftM _ _).Pairwise _
      unfold shiftM
      rw [List.pairwise_map]
      exact h.marks.2.1
    · intro m hm
      obtain ⟨m0, hm0, rfl⟩ := List.mem_map.1 hm
      obtain ⟨g1, g2, g3, _, _⟩ := h.marks.2.2 m0 hm0
      exact ⟨g1, g2, g3, (hpos m0 hm0).1, (hpos m0 hm0).2.1⟩
  · intro m hm
    obtain ⟨m0, hm0, rfl⟩ := List.mem_map.1 hm
    exact (hpos m0 hm0).2.2
  · have := h.num0; show 0 ≤ st.number + 1; omega
  · have := h.num1; show st.number + 1 ≤ K + 1; omega
theorem MSok.mono {st : MS} {K K' : Int} (h : MSok st K) (hk : K ≤ K') : MSok st K' := ⟨h.size, h.valid, h.marks, h.bound, h.num0, Int.le_trans h.num1 hk, h.readers, h.clients, h.slots⟩
theorem bndE_ok {t : ByteArray} {n : Int} (h : bndE t n = 0) : bndB t.data.toList n = true ∧ n ≤ t.size := by
  unfold bndE at h
  split at h
  · simp at h
  · split at h
    · rename_i h1 h2; exact ⟨h2, by omega⟩
    · simp at h
theorem insE_ok {st : MS} {o : OpV} (h : insE st o = 0) : st.closed = false ∧ bndE st.text o.at_ = 0 ∧ (st.text.size : Int) + o.text.size ≤ 65536 := by
  unfold insE at h
  split at h
  · simp at h
  · rename_i h1
    split at h
    · rename_i h2; exact absurd h h2
    · rename_i h2
      split at h
      · simp at h
      · exact ⟨by simpa using h1, by omega, by omega⟩
theorem insS_ok {st : MS} {K : Int} {o : OpV} (h : MSok st K) (ho : opE o = 0) (hk : o.kind = 1) : MSok (insS st o).2 (K + 1) := by
  obtain ⟨⟨_, _, g1, g2, g3, g4, g5, g6, g7, g8, g9, g10, g11⟩, gs, gv⟩ := opE_ok ho
  unfold insS
  split
  · exact h.mono (by omega)
  · rename_i he
    obtain ⟨e1, e2, e3⟩ := insE_ok (Decidable.not_not.1 he)
    obtain ⟨e4, e5⟩ := bndE_ok e2
    have hsz := h.size
    exact repS_ok h ⟨g1, by omega, by omega, by omega, by omega, .inl ⟨rfl, by omega⟩⟩ gv (by omega) e4 (by simpa using e4)
theorem delE_ok {st : MS} {o : OpV} (h : delE st o = 0) : st.closed = false ∧ o.at_ ≤ st.text.size ∧ o.n ≤ (st.text.size : Int) - o.at_ ∧ bndE st.text o.at_ = 0 ∧ bndE st.text (o.at_ + o.n) = 0 := by
  unfold delE at h
  split at h
  · simp at h
  · rename_i h1
    split at h
    · simp at h
    · rename_i h2
      split at h
      · rename_i h3; exact absurd h h3
      · rename_i h3; exact ⟨by simpa using h1, by omega, by omega, by omega, h⟩
theorem delS_ok {st : MS} {K : Int} {o : OpV} (h : MSok st K) (ho : opE o = 0) (hk : o.kind = 2) : MSok (delS st o).2 (K + 1) := by
  obtain ⟨⟨_, _, g1, g2, g3, g4, g5, g6, g7, g8, g9, g10, g11⟩, gs, gv⟩ := opE_ok ho
  unfold delS
  split
  · exact h.mono (by omega)
  · rename_i he
    obtain ⟨e1, e2, e3, e4, e5⟩ := delE_ok (Decidable.not_not.1 he)
    have hsz := h.size
    have hn := g11 hk
    have e0 : (⟨#[]⟩ : ByteArray).size = 0 := rfl
    exact repS_ok h ⟨g1, by omega, by omega, by omega, by rw [e0]; omega, .inr ⟨by omega, rfl⟩⟩ rfl (by rw [e0]; omega) (bndE_ok e4).1 (bndE_ok e5).1
theorem setS_ok {st : MS} {K : Int} {o : OpV} (h : MSok st K) (ho : opE o = 0) (hi : OpIn o) (hk : o.kind = 3) : MSok (setS st o).2 (K + 1) := by
  obtain ⟨⟨_, _, g1, g2, g3, g4, g5, g6, g7, g8, g9, g10, g11⟩, gs, gv⟩ := opE_ok ho
  unfold setS
  split
  · exact h.mono (by omega)
  · rename_i he
    have he := Decidable.not_not.1 he
    unfold setE at he
    split at he
    · simp at he
    · obtain ⟨e4, e5⟩ := bndE_ok he
      split
      · rename_i hl
        have := hi.id0; have := hi.id1; have := hi.g0
        have hm : MkIn st.text.size ⟨o.id, o.at_, o.grav⟩ := ⟨by show 1 ≤ o.id; omega, by show o.id ≤ 4294967295; omega, by show o.grav = 0 ∨ o.grav = 1; omega, g1, e5⟩
        have n0 := h.num0
        have n1 := h.num1
        refine ⟨h.size, h.valid, setM_ok h.marks hm hl, ?_, by show 0 ≤ st.number + 1; omega, by show st.number + 1 ≤ K + 1; omega, h.readers, h.clients, h.slots⟩
        intro m hm'
        rcases List.mem_append.1 hm' with hx | hx
        · exact h.bound m (List.mem_filter.1 hx).1
        · rcases List.mem_cons.1 hx with rfl | hx
          · exact e4
          · exact h.bound m (List.mem_filter.1 hx).1
      · exact h.mono (by omega)
theorem drpS_ok {st : MS} {K : Int} {o : OpV} (h : MSok st K) : MSok (drpS st o).2 (K + 1) := by
  have n0 := h.num0
  have n1 := h.num1
  unfold drpS
  split
  · exact h.mono (by omega)
  · split
    · exact ⟨h.size, h.valid, dropM_ok h.marks, fun m hm => h.bound m (List.mem_filter.1 hm).1, by show 0 ≤ st.number + 1; omega, by show st.number + 1 ≤ K + 1; omega, h.readers, h.clients, h.slots⟩
    · exact h.mono (by omega)
theorem MS.put_ok {st : MS} {K : Int} (h : MSok st K) {c : Nat} {s : SeV} (hs : s.slots.length = st.readers ∧ ∀ x ∈ s.slots, SnOK x) : MSok (st.put c s) K :=
  ⟨h.size, h.valid, h.marks, h.bound, h.num0, h.num1, h.readers, by show (st.seats.set c s).length ≤ 8; rw [List.length_set]; exact h.clients, fun x hx => by rcases List.mem_or_eq_of_mem_set hx with hx | rfl; exact h.slots x hx; exact hs⟩
theorem MS.seat_mem {st : MS} {c : Nat} (h : c < st.seats.length) : st.seat c ∈ st.seats := by
  unfold MS.seat; rw [List.getD_eq_getElem?_getD, List.getElem?_eq_getElem h]; exact List.getElem_mem h
theorem MS.putSlot_ok {st : MS} {K : Int} (h : MSok st K) {c k : Nat} (hc : c < st.seats.length) {x : SnV} (hx : SnOK x) : MSok (st.putSlot c k x) K := by
  have hs := h.slots _ (MS.seat_mem hc)
  refine MS.put_ok h ⟨by show ((st.seat c).slots.set k x).length = _; rw [List.length_set]; exact hs.1, fun y hy => ?_⟩
  rcases List.mem_or_eq_of_mem_set hy with hy | rfl
  · exact hs.2 y hy
  · exact hx
theorem acqS_ok {st : MS} {K : Int} {c : Nat} (h : MSok st K) (hc : c < st.seats.length) : MSok (acqS st c).2 K := by
  unfold acqS
  split
  · exact h
  · split
    · exact h
    · exact MS.putSlot_ok h hc ⟨h.size, h.marks, Int.le_refl _, Int.natCast_nonneg _⟩
theorem subS_ok {st : MS} {K : Int} {c : Nat} (h : MSok st K) (hc : c < st.seats.length) : MSok (subS st c).2 K := by
  unfold subS
  split
  · exact h
  · split
    · exact h
    · exact MS.put_ok h (s := { st.seat c with sub := true }) (h.slots (st.seat c) (MS.seat_mem hc))
theorem recS_ok {st : MS} {K : Int} {c : Nat} (h : MSok st K) : MSok (recS st c).2 K := by
  unfold recS
  (repeat' split) <;> exact h
theorem cloS_ok {st : MS} {K : Int} (h : MSok st K) : MSok (cloS st).2 K := by
  unfold cloS
  split
  · exact h
  · exact ⟨h.size, h.valid, h.marks, h.bound, h.num0, h.num1, h.readers, h.clients, h.slots⟩
theorem zeroSn_ok : SnOK zeroSn := ⟨by show 0 ≤ 65536; omega, ⟨by simp [zeroSn], List.Pairwise.nil, fun m hm => by simp [zeroSn] at hm⟩, Int.le_refl _, Int.natCast_nonneg _⟩
theorem snpS_ok {s : SnV} {o : OpV} (h : SnOK s) (ho : opE o = 0) : SnOK (snpS s o).2 := by
  obtain ⟨⟨_, _, g1, g2, _⟩, _⟩ := opE_ok ho
  obtain ⟨h1, h2, h3, h4⟩ := h
  unfold snpS
  repeat' split
  all_goals first | exact ⟨h1, h2, h3, h4⟩ | exact zeroSn_ok | skip
  · exact ⟨h1, h2, g1, by show o.at_ ≤ (s.text.size : Int); omega⟩
  · exact ⟨h1, h2, by show 0 ≤ s.cursor + min o.n ((s.text.size : Int) - s.cursor); omega, by show s.cursor + min o.n ((s.text.size : Int) - s.cursor) ≤ (s.text.size : Int); omega⟩
theorem slotE_ok {se : SeV} {o : OpV} (h : slotE se o = 0) : 0 ≤ o.slot ∧ o.slot < se.slots.length ∧ (se.slots.getD o.slot.toNat default).held = true := by
  unfold slotE at h
  split at h
  · simp at h
  · split at h
    · rename_i h1 h2; exact ⟨by omega, by omega, h2⟩
    · simp at h
theorem reaS_ok {st : MS} {K : Int} {c : Nat} {o : OpV} (h : MSok st K) (hc : c < st.seats.length) (ho : opE o = 0) : MSok (reaS st c o).2 K := by
  unfold reaS
  split
  · exact h
  · rename_i he
    obtain ⟨e1, e2, e3⟩ := slotE_ok (Decidable.not_not.1 he)
    refine MS.putSlot_ok h hc (snpS_ok ((h.slots _ (MS.seat_mem hc)).2 _ ?_) ho)
    rw [List.getD_eq_getElem?_getD, List.getElem?_eq_getElem (by omega)]; exact List.getElem_mem _
theorem opS_ok {st : MS} {K : Int} {c : Nat} {o : OpV} (h : MSok st K) (hc : c < st.seats.length) (ho : opE o = 0) (hi : OpIn o) : MSok (opS st c o).2 (K + 1) := by
  unfold opS
  have hm : ∀ {s : MS}, MSok s K → MSok s (K + 1) := fun h => h.mono (by omega)
  split
  · exact insS_ok h ho (by assumption)
  split
  · exact delS_ok h ho (by assumption)
  split
  · exact setS_ok h ho hi (by assumption)
  split
  · exact drpS_ok h
  split
  · exact hm (acqS_ok h hc)
  split
  · exact hm (subS_ok h hc)
  split
  · exact hm (recS_ok (c := c) h)
  split
  · exact hm (cloS_ok h)
  · exact hm (reaS_ok h hc ho)
theorem doS_ok {st : MS} {K : Int} {c : Int} {o : OpV} (h : MSok st K) (hi : OpIn o) : MSok (doS st c o).2 (K + 1) := by
  unfold doS
  split
  · exact h.mono (by omega)
  · rename_i he
    obtain ⟨e1, e2, e3⟩ := statE_ok (Decidable.not_not.1 he)
    exact opS_ok h (by omega) e3 hi
end Go.Proofs.YtdeiocppghhfdaaGreat
namespace Go.Proofs.YtdeiocppghhfdaaGreat
set_option linter.unusedVariables false
set_option linter.unusedSimpArgs false
set_option maxRecDepth 100000
set_option maxHeartbeats 8000000
open Go.RowKit Go.Lib Go.Shelf
attribute [local go_sem, local simp] resF resL_len resL_ne rset0 rset1 rset2 rset3 rset4 rset5
theorem rset6 (r : ResV) (x : Int) : (resL r).set 6 (.int .i64 x) = resL { r with m1 := x } := rfl
theorem rset7 (r : ResV) (x : Int) : (resL r).set 7 (.int .i64 x) = resL { r with m2 := x } := rfl
theorem rset8 (r : ResV) (x : Int) : (resL r).set 8 (.int .i64 x) = resL { r with m3 := x } := rfl
def segA (cur : Array Value) (o : Nat) (L : List Value) : Array Value := (cur.toList.take o ++ L ++ cur.toList.drop (o + L.length)).toArray
theorem seg_same {cur : Array Value} {o : Nat} {L : List Value} (h : (cur.toList.drop o).take L.length = L) : segA cur o L = cur := by
  unfold segA
  have e : L ++ cur.toList.drop (o + L.length) = cur.toList.drop o := by
    have := List.take_append_drop L.length (cur.toList.drop o)
    rw [h, List.drop_drop] at this
    exact this
  rw [List.append_assoc, e, List.take_append_drop]
theorem seg_size {cur : Array Value} {o : Nat} {L : List Value} (h : o + L.length ≤ cur.size) : (segA cur o L).size = cur.size := by
  unfold segA; simp; omega
theorem seg_at {cur : Array Value} {o : Nat} {L : List Value} (h : o + L.length ≤ cur.size) : ((segA cur o L).toList.drop o).take L.length = L := by
  unfold segA
  have e : (cur.toList.take o).length = o := by rw [List.length_take, Array.length_toList]; omega
  rw [List.append_assoc, List.drop_append_of_le_length (by rw [e]; exact Nat.le_refl _), List.drop_of_length_le (by rw [e]; exact Nat.le_refl _), List.nil_append, List.take_left]
theorem seg_set {cur : Array Value} {o i : Nat} {L : List Value} {u : Value} (h : o + L.length ≤ cur.size) (hl : (cur.toList.drop o).take L.length = L) (hi : i < L.length) : cur.setIfInBounds (o + i) u = segA cur o (L.set i u) := by
  apply Array.toList_inj.1
  have e0 : cur.toList = cur.toList.take o ++ (L ++ cur.toList.drop (o + L.length)) := by
    have := List.take_append_drop L.length (cur.toList.drop o)
    rw [hl, List.drop_drop] at this
    rw [this, List.take_append_drop]
  have e : (cur.toList.take o).length = o := by rw [List.length_take, Array.length_toList]; omega
  rw [Array.toList_setIfInBounds]
  show cur.toList.set (o + i) u = (cur.toList.take o ++ L.set i u ++ cur.toList.drop (o + (L.set i u).length)).toArray.toList
  rw [List.length_set]
  conv => lhs; rw [e0]
  rw [List.set_append_right (o + i) u (by rw [e]; omega), e, Nat.add_sub_cancel_left, List.set_append_left i u hi]
  simp
structure SnAt (W : World) (g o : Nat) (cur : Array Value) (x : SnM) : Prop where
  blk : W.heap[g]? = some (.cells cur 168 (0, 0))
  sz : o + 4 ≤ cur.size
  seg : (cur.toList.drop o).take 4 = snL x
  marks : MOwn W 0 x.mv x.s.marks
theorem SnAt.cells {W : World} {g o : Nat} {cur : Array Value} {x : SnM} (h : SnAt W g o cur x) : (W.cell? ⟨g, o, none⟩ = some (.bool x.s.held) ∧ W.cell? ⟨g, o + 1, none⟩ = some (.string x.s.text) ∧ W.cell? ⟨g, o + 2, none⟩ = some x.mv ∧ W.cell? ⟨g, o + 3, none⟩ = some (.int .i64 x.s.cursor)) ∧
    (W.frozen? ⟨g, o, none⟩ = false ∧ W.frozen? ⟨g, o + 1, none⟩ = false ∧ W.frozen? ⟨g, o + 2, none⟩ = false ∧ W.frozen? ⟨g, o + 3, none⟩ = false) := by
  have hc : ∀ i u, (snL x)[i]? = some u → W.cell? ⟨g, o + i, none⟩ = some u := by
    intro i u hu
    rw [← h.seg] at hu
    have hi : i < 4 := by
      by_cases hi : i < 4
      · exact hi
      · rw [List.getElem?_take, if_neg (by omega)] at hu; cases hu
    rw [List.getElem?_take_of_lt hi, List.getElem?_drop, Array.getElem?_toList] at hu
    simp [World.cell?, h.blk, hu]
  exact ⟨⟨hc 0 _ rfl, hc 1 _ rfl, hc 2 _ rfl, hc 3 _ rfl⟩, by simp [World.frozen?, h.blk], by simp [World.frozen?, h.blk], by simp [World.frozen?, h.blk], by simp [World.frozen?, h.blk]⟩
theorem SnAt.below {W W' : World} {g o : Nat} {cur : Array Value} {x : SnM} (h : SnAt W g o cur x) (hb : Below W.heap.size W W') : SnAt W' g o cur x :=
  ⟨(hb.block g (Array.getElem?_eq_some_iff.1 h.blk).1).trans h.blk, h.sz, h.seg, own_below6 h.marks hb⟩
def SnPost (g o : Nat) (cur : Array Value) (w : World) (x : SnM) (R : ResV × SnV) (e : Ending) (w' : World) : Prop := e = .returned (.agg (resL R.1).toArray) ∧ ∃ x' : SnM, x'.s = R.2 ∧ SnAt w' g o (segA cur o (snL x')) x' ∧ KeepF (fun k => k = g) w w'
theorem SnAt.same {W : World} {g o : Nat} {cur : Array Value} {x : SnM} (h : SnAt W g o cur x) : SnAt W g o (segA cur o (snL x)) x := by
  have e : segA cur o (snL x) = cur := seg_same (by have := h.seg; exact this)
  rw [e]; exact h
theorem SnAt.set3 {W : World} {g o : Nat} {cur : Array Value} {x : SnM} (h : SnAt W g o cur x) (p : Int) : SnAt (W.setCell ⟨g, o + 3, none⟩ (.int .i64 p)) g o (segA cur o (snL ⟨{ x.s with cursor := p }, x.mv⟩)) ⟨{ x.s with cursor := p }, x.mv⟩ := by
  have hl : (cur.toList.drop o).take (snL x).length = snL x := h.seg
  have hs : o + (snL x).length ≤ cur.size := h.sz
  have e := seg_set (u := .int .i64 p) hs hl (show 3 < (snL x).length from (by show 3 < 4; omega))
  have hs2 : o + (snL ⟨{ x.s with cursor := p }, x.mv⟩).length ≤ cur.size := h.sz
  refine ⟨?_, by rw [seg_size hs2]; exact h.sz, seg_at hs2, own_keep h.marks h.blk (by decide) (fun k _ hk => setCell_ne _ _ _ _ hk)⟩
  have : (W.setCell ⟨g, o + 3, none⟩ (.int .i64 p)).heap[g]? = some (.cells (cur.setIfInBounds (o + 3) (.int .i64 p)) 168 (0, 0)) := by
    simp [World.setCell, Array.getElem?_modify, h.blk]
  rw [this, e]; rfl
theorem blk_ne {W : World} {g r : Nat} {cur cs : Array Value} (h : W.heap[g]? = some (.cells cur 168 (0, 0))) (hr : W.heap[r]? = some (.cells cs 51 (0, 0))) : g ≠ r := by
  rintro rfl; rw [h] at hr; injection hr with hr; injection hr with _ h2 _; exact absurd h2 (by decide)
theorem SnAt.row {W : World} {g o r : Nat} {cur cs : Array Value} {x : SnM} (h : SnAt W g o cur x) (hr : W.heap[r]? = some (.cells cs 51 (0, 0))) (R : Array Value) : SnAt (W.setRow r R) g o cur x :=
  ⟨(setRow_other _ _ _ _ (blk_ne h.blk hr)).trans h.blk, h.sz, h.seg, own_keep h.marks hr (by decide) (fun k _ hk => setRow_other _ _ _ _ hk)⟩
theorem snp6 {s : SnV} {q : OpV} (h : q.kind = 6) : snpS s q = ({ m1 := s.text.size, m2 := cntB begB s.text.data.toList, m3 := cntB feedB s.text.data.toList }, s) := by unfold snpS; rw [if_pos h]
theorem snp7 {s : SnV} {q : OpV} (h : q.kind = 7) : snpS s q = if (s.text.size : Int) < q.at_ ∨ (s.text.size : Int) - q.at_ < q.n then (failR 3, s) else ({ text := cutT s.text q.at_ q.n }, s) := by unfold snpS; rw [if_neg (by omega), if_pos h]
theorem snp8 {s : SnV} {q : OpV} (h : q.kind = 8) : snpS s q = ({ err := (runeS s.text.data.toList q.n).2, at_ := (runeS s.text.data.toList q.n).1 }, s) := by unfold snpS; rw [if_neg (by omega), if_neg (by omega), if_pos h]
theorem snp9 {s : SnV} {q : OpV} (h : q.kind = 9) : snpS s q = ({ err := (lineS s.text.data.toList q.n).2, at_ := (lineS s.text.data.toList q.n).1 }, s) := by unfold snpS; rw [if_neg (by omega), if_neg (by omega), if_neg (by omega), if_pos h]
theorem snp10 {s : SnV} {q : OpV} (h : q.kind = 10) : snpS s q = (match findM q.id s.marks with | none => (failR 7, s) | some m => ({ at_ := m.at_, grav := m.grav }, s)) := by unfold snpS; rw [if_neg (by omega), if_neg (by omega), if_neg (by omega), if_neg (by omega), if_pos h]; cases findM q.id s.marks <;> rfl
theorem snp11 {s : SnV} {q : OpV} (h : q.kind = 11) : snpS s q = if (s.text.size : Int) < q.at_ then (failR 3, s) else ({ at_ := q.at_ }, { s with cursor := q.at_ }) := by unfold snpS; rw [if_neg (by omega), if_neg (by omega), if_neg (by omega), if_neg (by omega), if_neg (by omega), if_pos h]
theorem snp12 {s : SnV} {q : OpV} (h : q.kind = 12) : snpS s q = ({ text := cutT s.text s.cursor (min q.n (s.text.size - s.cursor)), at_ := s.cursor + min q.n (s.text.size - s.cursor) }, { s with cursor := s.cursor + min q.n (s.text.size - s.cursor) }) := by unfold snpS; rw [if_neg (by omega), if_neg (by omega), if_neg (by omega), if_neg (by omega), if_neg (by omega), if_neg (by omega), if_pos h]
theorem snp13 {s : SnV} {q : OpV} (h : q.kind = 13) : snpS s q = ({}, zeroSn) := by unfold snpS; rw [if_neg (by omega), if_neg (by omega), if_neg (by omega), if_neg (by omega), if_neg (by omega), if_neg (by omega), if_neg (by omega)]
theorem seg_cons {cur : Array Value} {o : Nat} {v : Value} {r : List Value} (h : o < cur.size) : segA (cur.setIfInBounds o v) (o + 1) r = segA cur o (v :: r) := by
  unfold segA
  have hl : o < cur.toList.length := by rw [Array.length_toList]; exact h
  have e : (cur.toList.take o).length = o := by rw [List.length_take]; omega
  have e1 : (cur.toList.set o v).take (o + 1) = cur.toList.take o ++ [v] := by
    rw [List.set_eq_take_append_cons_drop, if_pos hl, List.take_append, e, Nat.add_sub_cancel_left, List.take_of_length_le (by omega)]
    rfl
  rw [Array.toList_setIfInBounds, e1, List.drop_set_of_lt (by omega), List.length_cons, show o + 1 + r.length = o + (r.length + 1) by omega]
  simp only [List.append_assoc, List.cons_append, List.nil_append]
theorem setCells_blk {g : Nat} {T : TypeId} : ∀ (L : List Value) (o : Nat) (cur : Array Value) (W : World), W.heap[g]? = some (.cells cur T (0, 0)) → o + L.length ≤ cur.size → (W.setCells g o L).heap[g]? = some (.cells (segA cur o L) T (0, 0))
  | [], o, cur, W, h, hs => by
    have e : segA cur o [] = cur := seg_same rfl
    rw [e]; exact h
  | v :: r, o, cur, W, h, hs => by
    have hs' : o + (r.length + 1) ≤ cur.size := hs
    rw [World.setCells, ← seg_cons (by omega)]
    refine setCells_blk r (o + 1) (cur.setIfInBounds o v) _ ?_ (by rw [Array.size_setIfInBounds]; omega)
    simp [World.setCell, Array.getElem?_modify, h]
theorem setCells_ne {g : Nat} : ∀ (L : List Value) (o : Nat) (W : World) (k : Nat), k ≠ g → (W.setCells g o L).heap[k]? = W.heap[k]?
  | [], _, _, _, _ => rfl
  | v :: r, o, W, k, h => by rw [World.setCells, setCells_ne r (o + 1) _ k h, setCell_ne _ _ _ _ h]
theorem setCells_os (g : Nat) : ∀ (L : List Value) (o : Nat) (W : World), (W.setCells g o L).os = W.os ∧ (W.setCells g o L).tape = W.tape ∧ (W.setCells g o L).output = W.output ∧ (W.setCells g o L).heap.size = W.heap.size
  | [], _, _ => ⟨rfl, rfl, rfl, rfl⟩
  | v :: r, o, W => by
    obtain ⟨h1, h2, h3, h4⟩ := setCells_os g r (o + 1) (W.setCell ⟨g, o, none⟩ v)
    rw [World.setCells]
    exact ⟨h1, h2, h3, h4.trans (setCell_size _ _ _)⟩
theorem KeepF.cells (w : World) (g o : Nat) (L : List Value) : KeepF (fun k => k = g) w (w.setCells g o L) := by
  obtain ⟨h1, h2, h3, h4⟩ := setCells_os g L o w
  exact ⟨h1, h2, h3, Nat.le_of_eq h4.symm, fun k _ hk => setCells_ne L o w k hk⟩
theorem SnAt.drew {W : World} {g o : Nat} {cur : Array Value} {x : SnM} (h : SnAt W g o cur x) : SnAt W.drew g o cur x := ⟨h.blk, h.sz, h.seg, h.marks⟩
theorem SnAt.there {W : World} {g o : Nat} {cur : Array Value} {x : SnM} (h : SnAt W g o cur x) : W.there g o 4 := by
  have hs := h.sz
  intro j hj
  refine ⟨?_, by simp [World.frozen?, h.blk]⟩
  simp only [World.cell?, h.blk]
  simp
  omega
theorem snF (a : Bool) (t : ByteArray) (v : Value) (p : Int) : Value.agg #[.bool a, .string t, v, .int .i64 p] = .agg (snL ⟨⟨a, t, [], p⟩, v⟩).toArray := rfl
theorem snL_len (x : SnM) : (snL x).length = 4 := rfl
theorem snL_ne (x : SnM) : snL x ≠ [] := by simp [snL]
theorem SnAt.st {W : World} {g o : Nat} {cur : Array Value} {x : SnM} (h : SnAt W g o cur x) (y : SnM) (hy : y.mv.oneCell' = true) : (storeCells ⟨g, o, none⟩ (snL y)).run Tryz.prog W = .ok () (W.setCells g o (snL y)) := by
  have ht := h.there
  have := run_storeCells_cells (P := Tryz.prog) g o (snL y) 0 W (fun j hj => (ht j hj).1) (fun j hj => (ht j hj).2) (fun v hv => by
    simp only [snL, List.mem_cons, List.not_mem_nil, or_false] at hv
    rcases hv with rfl | rfl | rfl | rfl
    · rfl
    · rfl
    · exact hy
    · rfl)
  exact this
@[irreducible] def putSn (W : World) (g o : Nat) (y : SnM) : World := W.setCells g o (snL y)
theorem putSn_eq (W : World) (g o : Nat) (y : SnM) : putSn W g o y = W.setCells g o (snL y) := by unfold putSn; rfl
theorem SnAt.stP {W : World} {g o : Nat} {cur : Array Value} {x : SnM} (h : SnAt W g o cur x) (y : SnM) (hy : y.mv.oneCell' = true) : (storeCells ⟨g, o, none⟩ (snL y)).run Tryz.prog W = .ok () (putSn W g o y) := by rw [putSn_eq]; exact h.st y hy
theorem putSn_ne (W : World) (g o : Nat) (y : SnM) (k : Nat) (h : k ≠ g) : (putSn W g o y).heap[k]? = W.heap[k]? := by rw [putSn_eq]; exact setCells_ne _ _ _ _ h
theorem KeepF.putSn (w : World) (g o : Nat) (y : SnM) : KeepF (fun k => k = g) w (putSn w g o y) := by rw [putSn_eq]; exact KeepF.cells _ _ _ _
theorem SnAt.setAll {W : World} {g o : Nat} {cur : Array Value} {x y : SnM} (h : SnAt W g o cur x) (hy : MOwn W 0 y.mv y.s.marks) : SnAt (W.setCells g o (snL y)) g o (segA cur o (snL y)) y := by
  have hs : o + (snL y).length ≤ cur.size := h.sz
  exact ⟨setCells_blk _ _ _ _ h.blk hs, by rw [seg_size hs]; exact h.sz, seg_at hs, own_keep hy h.blk (by decide) (fun k _ hk => setCells_ne _ _ _ _ hk)⟩
theorem SnAt.put {W : World} {g o : Nat} {cur : Array Value} {x y : SnM} (h : SnAt W g o cur x) (hy : MOwn W 0 y.mv y.s.marks) : SnAt (putSn W g o y) g o (segA cur o (snL y)) y := by rw [putSn_eq]; exact h.setAll hy
theorem SnAt.post2 {w v u : World} {g o r : Nat} {cur cs : Array Value} {x : SnM} {s' : SnV} (hN : ∃ x' : SnM, x'.s = s' ∧ SnAt u g o (segA cur o (snL x')) x') (hB : Below w.heap.size w v) (hK : KeepF (fun k => k = g) v u) (hz : u.heap[r]? = some (.cells cs 51 (0, 0))) (hr : w.heap.size ≤ r) (R : Array Value) :
    ∃ x' : SnM, x'.s = s' ∧ SnAt (u.setRow r R) g o (segA cur o (snL x')) x' ∧ KeepF (fun k => k = g) w (u.setRow r R) := by
  obtain ⟨x', h1, h2⟩ := hN
  exact ⟨x', h1, h2.row hz R, ((KeepF.of_below hB).trans hK).row hr R⟩
theorem SnAt.post {w v : World} {g o r : Nat} {cur cs : Array Value} {x : SnM} (h : SnAt w g o cur x) (hB : Below w.heap.size w v) (hz : v.heap[r]? = some (.cells cs 51 (0, 0))) (hr : w.heap.size ≤ r) (R : Array Value) :
    ∃ x' : SnM, x'.s = x.s ∧ SnAt (v.setRow r R) g o (segA cur o (snL x')) x' ∧ KeepF (fun k => k = g) w (v.setRow r R) :=
  ⟨x, rfl, ((h.below hB).row hz R).same, (KeepF.of_below hB).row hr R⟩
end Go.Proofs.YtdeiocppghhfdaaGreat
namespace Go.Proofs.YtdeiocppghhfdaaGreat
set_option linter.unusedVariables false
set_option linter.unusedSimpArgs false
set_option maxRecDepth 100000
set_option maxHeartbeats 8000000
open Go.RowKit Go.Lib Go.Shelf
theorem own_cell {w : World} {B g cp n' s n : Nat} {e : TypeId} {xs : List Value} (h : w.ownsRow B e s (.slice (some ⟨g, 0, none⟩) n' cp) n xs) (i : Nat) (u : Value) (hu : xs[i]? = some u) : w.cell? ⟨g, i, none⟩ = some u ∧ w.frozen? ⟨g, i, none⟩ = false := by
  rcases h.2 with ⟨h1, _⟩ | ⟨g', cap', cur', h1, hB, hg', h2, h3, h4, h5⟩
  · injection h1 with h1; cases h1
  · injection h1 with h1; injection h1 with h1; injection h1 with h1; subst h1
    rw [← h5] at hu
    have hi : i < n * s := by
      by_cases hi : i < n * s
      · exact hi
      · rw [List.getElem?_take, if_neg (by omega)] at hu; cases hu
    rw [List.getElem?_take_of_lt hi, Array.getElem?_toList] at hu
    exact ⟨by simp [World.cell?, hg', hu], by simp [World.frozen?, hg']⟩
theorem own_seg {w w' : World} {B g cp n' s n : Nat} {e : TypeId} {xs : List Value} {cur : Array Value} (h : w.ownsRow B e s (.slice (some ⟨g, 0, none⟩) n' cp) n xs) (hg : w.heap[g]? = some (.cells cur e (0, 0))) (i : Nat) (hi : i < n) (L : List Value) (hL : L.length = s)
    (hg' : w'.heap[g]? = some (.cells (segA cur (i * s) L) e (0, 0))) : w'.ownsRow B e s (.slice (some ⟨g, 0, none⟩) n' cp) n (xs.take (i * s) ++ L ++ xs.drop (i * s + s)) := by
  have hxs := h.1
  have his : i * s + s ≤ n * s := by have := Nat.mul_le_mul_right s (show i + 1 ≤ n from hi); rwa [Nat.succ_mul] at this
  rcases h.2 with ⟨h1, _⟩ | ⟨g2, cap', cur', h1, hB, hg2, h2, h3, h4, h5⟩
  · injection h1 with h1; cases h1
  · injection h1 with h1 hn hc; injection h1 with h1; injection h1 with h1; subst h1; subst hn; subst hc
    rw [hg] at hg2; injection hg2 with hg2; injection hg2 with hg2 _ _; subst hg2
    have hns : n' * s ≤ cur.size := by rw [h4]; exact Nat.mul_le_mul_right s h2
    have hsz : i * s + L.length ≤ cur.size := by rw [hL]; omega
    refine ⟨by simp only [List.length_append, List.length_take, List.length_drop, hL, hxs]; omega, .inr ⟨g, cp, _, rfl, hB, hg', h2, h3, by rw [seg_size hsz]; exact h4, ?_⟩⟩
    rw [← h5]
    unfold segA
    rw [hL]
    have e1 : (cur.toList.take (n' * s)).take (i * s) = cur.toList.take (i * s) := by rw [List.take_take, Nat.min_eq_left (by omega)]
    have e2 : (cur.toList.take (n' * s)).drop (i * s + s) = (cur.toList.drop (i * s + s)).take (n' * s - (i * s + s)) := List.drop_take
    have e3 : (cur.toList.take (i * s) ++ L).length = i * s + s := by rw [List.length_append, List.length_take, Array.length_toList, hL]; omega
    rw [e1, e2]
    show (cur.toList.take (i * s) ++ L ++ cur.toList.drop (i * s + s)).take (n' * s) = _
    rw [List.take_append, e3, List.take_of_length_le (by rw [e3]; exact his)]
theorem own_other {w w' : World} {B s n g : Nat} {e : TypeId} {v : Value} {xs : List Value} (h : w.ownsRow B e s v n xs) (hk : KeepF (fun k => k = g) w w') (hv : v.ownBlock ≠ some g) : w'.ownsRow B e s v n xs := by
  refine ⟨h.1, ?_⟩
  rcases h.2 with hn | ⟨g', cap, cur, rfl, hB, hg, rest⟩
  · exact .inl hn
  · exact .inr ⟨g', cap, cur, rfl, hB, (hk.block g' (Array.getElem?_eq_some_iff.1 hg).1 (fun e => hv (by rw [e]; rfl))).trans hg, rest⟩
theorem slL_len (l : List SnM) : (slL l).length = l.length * 4 := by
  induction l with
  | nil => rfl
  | cons x l ih => show (snL x ++ slL l).length = _; rw [List.length_append, ih]; simp [snL]; omega
theorem slL_app (a b : List SnM) : slL (a ++ b) = slL a ++ slL b := by unfold slL; rw [List.flatMap_append]
theorem slL_take (l : List SnM) (k : Nat) (h : k ≤ l.length) : (slL l).take (k * 4) = slL (l.take k) := by
  have e : (slL (l.take k)).length = k * 4 := by rw [slL_len, List.length_take, Nat.min_eq_left h]
  conv => lhs; rw [← List.take_append_drop k l, slL_app]
  rw [← e, List.take_left]
theorem slL_drop (l : List SnM) (k : Nat) (h : k ≤ l.length) : (slL l).drop (k * 4) = slL (l.drop k) := by
  have e : (slL (l.take k)).length = k * 4 := by rw [slL_len, List.length_take, Nat.min_eq_left h]
  conv => lhs; rw [← List.take_append_drop k l, slL_app]
  rw [← e, List.drop_left]
theorem slL_set (l : List SnM) (k : Nat) (x : SnM) (h : k < l.length) : slL (l.set k x) = (slL l).take (k * 4) ++ snL x ++ (slL l).drop (k * 4 + 4) := by
  rw [slL_take l k (by omega), show k * 4 + 4 = (k + 1) * 4 by omega, slL_drop l (k + 1) h, List.set_eq_take_append_cons_drop, if_pos h, slL_app, List.append_assoc]
  rfl
theorem slL_seg (l : List SnM) (k : Nat) (x : SnM) (h : l[k]? = some x) : ((slL l).drop (k * 4)).take 4 = snL x := by
  obtain ⟨hk, hx⟩ := List.getElem?_eq_some_iff.1 h
  rw [slL_drop l k (by omega), List.drop_eq_getElem_cons hk, hx]
  rfl
theorem sesL_app (a b : List SeM) : sesL (a ++ b) = sesL a ++ sesL b := by unfold sesL; rw [List.flatMap_append]
theorem sesL_len (l : List SeM) : (sesL l).length = l.length * 2 := by
  induction l with
  | nil => rfl
  | cons x l ih => show (seL x ++ sesL l).length = _; rw [List.length_append, ih]; simp [seL]; omega
theorem sesL_at (l : List SeM) (c : Nat) (S : SeM) (h : l[c]? = some S) : (sesL l)[c * 2]? = some (.bool S.sub) ∧ (sesL l)[c * 2 + 1]? = some S.v := by
  obtain ⟨hk, hx⟩ := List.getElem?_eq_some_iff.1 h
  have e : sesL l = sesL (l.take c) ++ (seL S ++ sesL (l.drop (c + 1))) := by
    conv => lhs; rw [← List.take_append_drop c l, sesL_app, List.drop_eq_getElem_cons hk, hx]
    rfl
  have e2 : (sesL (l.take c)).length = c * 2 := by rw [sesL_len, List.length_take, Nat.min_eq_left (by omega)]
  rw [e]
  refine ⟨?_, ?_⟩
  · rw [List.getElem?_append_right (by omega), e2, Nat.sub_self]; rfl
  · rw [List.getElem?_append_right (by omega), e2, Nat.add_sub_cancel_left]; rfl
def MM.putSlot (M : MM) (c k : Nat) (S : SeM) (x : SnM) : MM := { M with seats := M.seats.set c { S with sl := S.sl.set k x } }
def MM.putSub (M : MM) (c : Nat) (S : SeM) : MM := { M with seats := M.seats.set c { S with sub := true } }
theorem MM.seat_st {M : MM} {c : Nat} {S : SeM} (h : M.seats[c]? = some S) : M.st.seat c = S.st := by
  unfold MS.seat MM.st; rw [List.getD_eq_getElem?_getD, List.getElem?_map, h]; rfl
theorem MM.putSlot_st {M : MM} {c k : Nat} {S : SeM} {x : SnM} (h : M.seats[c]? = some S) : (M.putSlot c k S x).st = M.st.putSlot c k x.s := by
  unfold MS.putSlot MS.put
  rw [MM.seat_st h]
  show (⟨M.text, M.marks, M.number, M.closed, M.readers, (M.seats.set c { S with sl := S.sl.set k x }).map (·.st)⟩ : MS) = ⟨M.text, M.marks, M.number, M.closed, M.readers, (M.seats.map (·.st)).set c _⟩
  rw [List.map_set]
  show (⟨M.text, M.marks, M.number, M.closed, M.readers, (M.seats.map (·.st)).set c ⟨S.sub, (S.sl.set k x).map (·.s)⟩⟩ : MS) = ⟨M.text, M.marks, M.number, M.closed, M.readers, (M.seats.map (·.st)).set c ⟨S.sub, (S.sl.map (·.s)).set k x.s⟩⟩
  rw [List.map_set]
theorem MM.putSub_st {M : MM} {c : Nat} {S : SeM} (h : M.seats[c]? = some S) : (M.putSub c S).st = M.st.put c { M.st.seat c with sub := true } := by
  rw [MM.seat_st h]
  show (⟨M.text, M.marks, M.number, M.closed, M.readers, (M.seats.set c { S with sub := true }).map (·.st)⟩ : MS) = ⟨M.text, M.marks, M.number, M.closed, M.readers, (M.seats.map (·.st)).set c _⟩
  rw [List.map_set]
  rfl
structure SeatAt (W : World) (M : MM) (c : Nat) (S : SeM) (gs cs g cp : Nat) (cur : Array Value) : Prop where
  sv : M.sv = .slice (some ⟨gs, 0, none⟩) M.seats.length cs
  v : S.v = .slice (some ⟨g, 0, none⟩) S.sl.length cp
  c0 : W.cell? ⟨gs, c * 2, none⟩ = some (.bool S.sub)
  f0 : W.frozen? ⟨gs, c * 2, none⟩ = false
  c1 : W.cell? ⟨gs, c * 2 + 1, none⟩ = some (.slice (some ⟨g, 0, none⟩) S.sl.length cp)
  cap : S.sl.length ≤ cp
  blk : W.heap[g]? = some (.cells cur 168 (0, 0))
  sn : ∀ k x, S.sl[k]? = some x → SnAt W g (k * 4) cur x
theorem MdAt.seatAt {W : World} {b : Nat} {M : MM} (h : MdAt W b M) {c : Nat} {S : SeM} (hS : M.seats[c]? = some S) : ∃ gs cs g cp cur, SeatAt W M c S gs cs g cp cur := by
  have hmem := List.mem_of_getElem? hS
  have h1 := h.seats
  have h2 := h.slots S hmem
  have hv1 := h.some_.1
  have hv2 := h.some_.2 S hmem
  obtain ⟨a1, a2⟩ := sesL_at M.seats c S hS
  rcases h1.2 with ⟨e1, _⟩ | ⟨gs, cs, curS, e1, _⟩
  · rw [e1] at hv1; exact absurd rfl hv1
  rcases h2.2 with ⟨e2, _⟩ | ⟨g, cp, cur, e2, _, hg, q1, q2, q3, q4⟩
  · rw [e2] at hv2; exact absurd rfl hv2
  rw [e1] at h1
  have b1 := own_cell h1 _ _ a1
  have b2 := own_cell h1 _ _ a2
  rw [e2] at b2
  refine ⟨gs, cs, g, cp, cur, e1, e2, b1.1, b1.2, b2.1, q1, hg, fun k x hx => ?_⟩
  obtain ⟨hk, _⟩ := List.getElem?_eq_some_iff.1 hx
  have hle : k * 4 + 4 ≤ S.sl.length * 4 := by omega
  refine ⟨hg, by rw [q3]; omega, ?_, h.smarks S hmem x (List.mem_of_getElem? hx)⟩
  rw [← slL_seg S.sl k x hx, ← q4, List.drop_take, List.take_take]
  congr 1
  omega
theorem KeepF.fp {W W' : World} {g : Nat} {F : Nat → Prop} (h : KeepF (fun k => k = g) W W') (hF : F g) : KeepF F W W' := ⟨h.os, h.tape, h.output, h.size, fun k hk hn => h.block k hk (fun e => hn (e ▸ hF))⟩
theorem nodup_ne {l : List SeM} (h : (l.map (·.v.ownBlock)).Nodup) {c : Nat} {S : SeM} (hS : l[c]? = some S) {S' : SeM} {d : Nat} (hd : l[d]? = some S') (hne : d ≠ c) : S'.v.ownBlock ≠ S.v.ownBlock := by
  obtain ⟨h1, h2⟩ := List.getElem?_eq_some_iff.1 hS
  obtain ⟨h3, h4⟩ := List.getElem?_eq_some_iff.1 hd
  intro e
  apply hne
  have l1 : c < (l.map (·.v.ownBlock)).length := by rw [List.length_map]; exact h1
  have l3 : d < (l.map (·.v.ownBlock)).length := by rw [List.length_map]; exact h3
  have hp := List.pairwise_iff_getElem.1 h
  have e1 : (l.map (·.v.ownBlock))[c] = S.v.ownBlock := by rw [List.getElem_map, h2]
  have e3 : (l.map (·.v.ownBlock))[d] = S'.v.ownBlock := by rw [List.getElem_map, h4]
  rcases Nat.lt_trichotomy d c with hlt | heq | hgt
  · exact absurd (e3.trans (e.trans e1.symm)) (hp d c l3 l1 hlt)
  · exact heq
  · exact absurd (e1.trans (e.symm.trans e3.symm)) (hp c d l1 l3 hgt)
theorem mem_set_or {α : Type} {l : List α} {c : Nat} {x y : α} (h : y ∈ l.set c x) : y = x ∨ ∃ d, d ≠ c ∧ l[d]? = some y := by
  obtain ⟨d, hd, e⟩ := List.getElem_of_mem h
  rw [List.getElem_set] at e
  split at e
  · exact .inl e.symm
  · rename_i hne
    rw [List.length_set] at hd
    exact .inr ⟨d, fun e => hne e.symm, by rw [List.getElem?_eq_getElem hd, e]⟩
theorem MdAt.putSlot {W W' : World} {b : Nat} {M : MM} (h : MdAt W b M) {c k : Nat} {S : SeM} (hS : M.seats[c]? = some S) {gs cs g cp : Nat} {cur : Array Value} (hA : SeatAt W M c S gs cs g cp cur) {x x' : SnM} (hx : S.sl[k]? = some x)
    (h' : SnAt W' g (k * 4) (segA cur (k * 4) (snL x')) x') (hK : KeepF (fun k => k = g) W W') : MdAt W' b (M.putSlot c k S x') := by
  have hmem := List.mem_of_getElem? hS
  obtain ⟨hk, _⟩ := List.getElem?_eq_some_iff.1 hx
  obtain ⟨hc, hSe⟩ := List.getElem?_eq_some_iff.1 hS
  have hkb : ∀ k, k < W.heap.size → k ≠ g → W'.heap[k]? = W.heap[k]? := fun k hk hn => hK.block k hk hn
  have hbg : b ≠ g := fun e => by subst e; have := h.blk; rw [hA.blk] at this; injection this with this; injection this with _ h2 _; exact absurd h2 (by decide)
  have hlen : (M.seats.set c { S with sl := S.sl.set k x' }).length = M.seats.length := List.length_set ..
  have hmap : (M.seats.set c { S with sl := S.sl.set k x' }).map (·.v.ownBlock) = M.seats.map (·.v.ownBlock) := by
    rw [List.map_set]
    show (M.seats.map (·.v.ownBlock)).set c S.v.ownBlock = _
    refine List.ext_getElem? fun i => ?_
    rw [List.getElem?_set]
    split
    · rename_i e; subst e; rw [List.getElem?_map, hS, List.length_map, if_pos hc]; rfl
    · rfl
  have hses : sesL (M.seats.set c { S with sl := S.sl.set k x' }) = sesL M.seats := by
    unfold sesL
    rw [List.flatMap_def, List.flatMap_def]
    congr 1
    rw [List.map_set]
    show (M.seats.map seL).set c (seL S) = _
    refine List.ext_getElem? fun i => ?_
    rw [List.getElem?_set]
    split
    · rename_i e; subst e; rw [List.getElem?_map, hS, List.length_map, if_pos hc]; rfl
    · rfl
  refine ⟨(hkb b (Array.getElem?_eq_some_iff.1 h.blk).1 hbg).trans h.blk, own_keep h.marks hA.blk (by decide) hkb, ?_, ?_, ?_, ⟨h.some_.1, ?_⟩, ?_⟩
  · show W'.ownsRow 0 _ 2 M.sv (M.seats.set c _).length (sesL (M.seats.set c _))
    rw [hlen, hses]
    exact own_keep h.seats hA.blk (by decide) hkb
  · intro S' hS'
    rcases mem_set_or hS' with rfl | ⟨d, hd, hS'⟩
    · show W'.ownsRow 0 _ 4 S.v (S.sl.set k x').length (slL (S.sl.set k x'))
      have h2 := h.slots S hmem
      rw [hA.v] at h2 ⊢
      rw [List.length_set, slL_set _ _ _ hk]
      exact own_seg h2 hA.blk k hk (snL x') rfl h'.blk
    · exact own_other (h.slots S' (List.mem_of_getElem? hS')) hK (by have := nodup_ne h.nodup hS hS' hd; rw [hA.v] at this; exact this)
  · intro S' hS' y hy
    rcases mem_set_or hS' with rfl | ⟨d, hd, hS'⟩
    · rcases mem_set_or hy with rfl | ⟨j, hj, hy⟩
      · exact h'.marks
      · exact own_keep (h.smarks S hmem y (List.mem_of_getElem? hy)) hA.blk (by decide) hkb
    · exact own_keep (h.smarks S' (List.mem_of_getElem? hS') y hy) hA.blk (by decide) hkb
  · intro S' hS'
    rcases mem_set_or hS' with rfl | ⟨d, hd, hS'⟩
    · exact h.some_.2 S hmem
    · exact h.some_.2 S' (List.mem_of_getElem? hS')
  · show ((M.seats.set c _).map (·.v.ownBlock)).Nodup
    rw [hmap]; exact h.nodup
theorem MdAt.putSub {W : World} {b : Nat} {M : MM} (h : MdAt W b M) {c : Nat} {S : SeM} (hS : M.seats[c]? = some S) {gs cs g cp : Nat} {cur : Array Value} (hA : SeatAt W M c S gs cs g cp cur) : MdAt (W.setCell ⟨gs, c * 2, none⟩ (.bool true)) b (M.putSub c S) := by
  have hmem := List.mem_of_getElem? hS
  obtain ⟨hc, hSe⟩ := List.getElem?_eq_some_iff.1 hS
  have h1 := h.seats
  rw [hA.sv] at h1
  obtain ⟨curS, hgs⟩ : ∃ curS, W.heap[gs]? = some (.cells curS 139 (0, 0)) := by
    rcases h1.2 with ⟨e1, _⟩ | ⟨g', _, cu, e1, _, hg, _⟩
    · injection e1 with e1; cases e1
    · injection e1 with e1; injection e1 with e1; injection e1 with e1; subst e1; exact ⟨cu, hg⟩
  have hkb : ∀ k, k < W.heap.size → k ≠ gs → (W.setCell ⟨gs, c * 2, none⟩ (.bool true)).heap[k]? = W.heap[k]? := fun k _ hk => setCell_ne _ _ _ _ hk
  have hbg : b ≠ gs := fun e => by subst e; have := h.blk; rw [hgs] at this; injection this with this; injection this with _ h2 _; exact absurd h2 (by decide)
  have hlen : (M.seats.set c { S with sub := true }).length = M.seats.length := List.length_set ..
  have hmap : (M.seats.set c { S with sub := true }).map (·.v.ownBlock) = M.seats.map (·.v.ownBlock) := by
    rw [List.map_set]
    show (M.seats.map (·.v.ownBlock)).set c S.v.ownBlock = _
    refine List.ext_getElem? fun i => ?_
    rw [List.getElem?_set]
    split
    · rename_i e; subst e; rw [List.getElem?_map, hS, List.length_map, if_pos hc]; rfl
    · rfl
  have hses : sesL (M.seats.set c { S with sub := true }) = (sesL M.seats).set (c * 2) (.bool true) := by
    have e2 : (sesL (M.seats.take c)).length = c * 2 := by rw [sesL_len, List.length_take, Nat.min_eq_left (by omega)]
    have e : sesL M.seats = sesL (M.seats.take c) ++ (seL S ++ sesL (M.seats.drop (c + 1))) := by
      conv => lhs; rw [← List.take_append_drop c M.seats, sesL_app, List.drop_eq_getElem_cons hc, hSe]
      rfl
    rw [e, List.set_append_right _ _ (by omega), e2, Nat.sub_self, List.set_eq_take_append_cons_drop, if_pos hc, sesL_app]
    rfl
  refine ⟨(hkb b (Array.getElem?_eq_some_iff.1 h.blk).1 hbg).trans h.blk, own_keep h.marks hgs (by decide) hkb, ?_, ?_, ?_, ⟨h.some_.1, ?_⟩, ?_⟩
  · show (W.setCell ⟨gs, c * 2, none⟩ (.bool true)).ownsRow 0 _ 2 M.sv (M.seats.set c _).length (sesL (M.seats.set c _))
    rw [hlen, hses, hA.sv]
    exact (own_set1 h1 (c * 2) (by omega) (.bool true)).1
  · intro S' hS'
    rcases mem_set_or hS' with rfl | ⟨d, hd, hS'⟩
    · exact own_keep (h.slots S hmem) hgs (by decide) hkb
    · exact own_keep (h.slots S' (List.mem_of_getElem? hS')) hgs (by decide) hkb
  · intro S' hS' y hy
    rcases mem_set_or hS' with rfl | ⟨d, hd, hS'⟩
    · exact own_keep (h.smarks S hmem y hy) hgs (by decide) hkb
    · exact own_keep (h.smarks S' (List.mem_of_getElem? hS') y hy) hgs (by decide) hkb
  · intro S' hS'
    rcases mem_set_or hS' with rfl | ⟨d, hd, hS'⟩
    · exact h.some_.2 S hmem
    · exact h.some_.2 S' (List.mem_of_getElem? hS')
  · show ((M.seats.set c _).map (·.v.ownBlock)).Nodup
    rw [hmap]; exact h.nodup
end Go.Proofs.YtdeiocppghhfdaaGreat
namespace Go.Proofs.YtdeiocppghhfdaaGreat
set_option linter.unusedVariables false
set_option linter.unusedSimpArgs false
set_option maxRecDepth 100000
set_option maxHeartbeats 8000000
open Go.RowKit Go.Lib Go.Shelf
attribute [local go_sem, local simp] resF resL_len resL_ne rset0 rset1 rset2 rset3 rset4 rset5
structure Chk where
  f : Nat
  bs : Array Value
  fs : Array Value
  e : Int
def firstE : List Int → Int
  | [] => 0
  | e :: l => if e = 0 then firstE l else e
def ChkOK (w : World) (k : Chk) : Prop := (∀ args W, (callFunc k.f args).run Tryz.prog W = .ok (.enter k.f args) W) ∧ ∀ W, Below w.heap.size w W → Calls Tryz.prog k.f (k.bs ++ k.fs) W fun r w' => r = .returned (.int .i64 k.e) ∧ Below W.heap.size W w'
theorem first_any (g c : Nat) (L : List Chk) (w : World) (hg : g < w.heap.size) (hc : ∀ i k, L[i]? = some k → w.cell? ⟨g, i, none⟩ = some (.func (.func k.f) k.bs k.fs)) (hk : ∀ k ∈ L, ChkOK w k) (hl : L.length ≤ 10) :
    Calls Tryz.prog 188 #[.slice (some ⟨g, 0, none⟩) L.length c] w fun r w' => r = .returned (.int .i64 (firstE (L.map (·.e)))) ∧ Below w.heap.size w w' := by
  have HC := Lib.hid hc; have HK := Lib.hid hk; clear hc hk
  go_enter Tryz.func188, Tryz.ntmps188
  go_wp2
  go_loopw [2, 4, 5, 8, 9, 10, 11, 12, 13, 14, 15, 16, 17] (fun x2 x4 x5 i x9 x10 x11 x12 x13 x14 x15 x16 x17 wr => ∃ k : Nat, i = .int .i64 k ∧ k ≤ L.length ∧ firstE ((L.drop k).map (·.e)) = firstE (L.map (·.e)) ∧ Below w.heap.size w wr) (fun x2 x4 x5 i x9 x10 x11 x12 x13 x14 x15 x16 x17 wr => L.length - (intOf i).toNat)
  case atStart => exact ⟨0, rfl, by omega, rfl, Below.refl _ _⟩
  case round =>
    obtain ⟨k, rfl, hk, hf, hB⟩ := hrel
    have HF := Lib.hid hf; clear hf
    by_cases hlt : k < L.length
    · have hp : L[k]? = some L[k] := List.getElem?_eq_getElem hlt
      have hmem := List.getElem_mem hlt
      have hdr : L.drop k = L[k] :: L.drop (k + 1) := List.drop_eq_getElem_cons hlt
      generalize L[k] = q at hp hmem hdr
      obtain ⟨hent, hcall⟩ := HK.out q hmem
      have hcl := hcall wr hB
      have c0 : wr.cell? ⟨g, k, none⟩ = some (.func (.func q.f) q.bs q.fs) := (hB.cell (p := ⟨g, k, none⟩) hg).trans (HC.out k q hp)
      have hfe : firstE ((L.drop k).map (·.e)) = if q.e = 0 then firstE ((L.drop (k + 1)).map (·.e)) else q.e := by rw [hdr]; rfl
      have HFE := Lib.hid hfe; clear hfe hdr hmem hcall
      by_cases h0 : q.e = 0
      · rw [h0] at hcl
        go_wp2_with (go_at_fn q.f; refine hcl.mono ?_; rintro e w1 ⟨rfl, hB1⟩)
        go_roundw
        case rel => exact ⟨k + 1, by go_num, by omega, by rw [← HF.out, HFE.out, if_pos h0], hB.trans (hB1.mono hB.size)⟩
        case measure => simp [intOf]; omega
      · have hd : (q.e == 0) = false := by simpa using h0
        go_wp2_with (go_at_fn q.f; refine hcl.mono ?_; rintro e w1 ⟨rfl, hB1⟩)
        go_returns
        rw [← HF.out, HFE.out, if_neg h0]
        exact ⟨rfl, hB.trans (hB1.mono hB.size)⟩
    · go_wp2
      go_returns
      rw [← HF.out, List.drop_eq_nil_of_le (by omega)]
      exact ⟨rfl, hB⟩
theorem boundary_m (b : Nat) (a : Int) (w : World) : Calls Tryz.prog 190 #[.pointer (some ⟨b, 0, none⟩), .int .i64 a] w fun r w' => r = .returned (.func (.func 237) #[] #[.pointer (some ⟨w.heap.size + 1, 0, none⟩), .pointer (some ⟨w.heap.size, 0, none⟩)]) ∧ (w.alloc (.cells #[.pointer (some ⟨b, 0, none⟩)] 81)).alloc (.cells #[.int .i64 a] 3) = w' := by
  go_enter Tryz.func190, Tryz.ntmps190
  go_wp2
  go_returns
  exact ⟨rfl, rfl⟩
theorem boundary1_any (b ba bm : Nat) (M : MM) (a : Int) (w : World) (h : MdAt w b M) (h1 : w.cell? ⟨ba, 0, none⟩ = some (.int .i64 a)) (h2 : w.cell? ⟨bm, 0, none⟩ = some (.pointer (some ⟨b, 0, none⟩))) :
    Calls Tryz.prog 237 #[.pointer (some ⟨ba, 0, none⟩), .pointer (some ⟨bm, 0, none⟩)] w fun r w' => r = .returned (.int .i64 (bndE M.text a)) ∧ Below w.heap.size w w' := by
  have c0 : w.cell? ⟨b, 0, none⟩ = some (.string M.text) := by simp [World.cell?, h.blk, mdL]
  have bd := fun W => boundary_any M.text a W
  by_cases hd : (M.text.size : Int) < a
  · have hR : bndE M.text a = 3 := if_pos hd
    have d : decide ((M.text.size : Int) < a) = true := by simpa using hd
    rw [hR]
    go_enter Tryz.func237, Tryz.ntmps237
    go_wp2
    try go_region
    all_goals go_wp2
    all_goals (go_returns; exact ⟨rfl, by first | exact Below.refl _ _ | exact (Below.refl _ _).drew⟩)
  · have d : decide ((M.text.size : Int) < a) = false := by simpa using hd
    have hR : bndE M.text a = if bndB M.text.data.toList a then 0 else 12 := if_neg hd
    rw [hR]
    generalize bndB M.text.data.toList a = q at *
    cases q
    all_goals
      go_enter Tryz.func237, Tryz.ntmps237
      go_wp2
      go_region
      all_goals go_wp2
      all_goals go_region_with (go_at_call 238; refine (bd _).mono ?_; rintro e w' ⟨rfl, rfl⟩)
      all_goals go_wp2
      all_goals (go_returns; exact ⟨rfl, by first | exact (Below.refl _ _).drew.drew | exact (Below.refl _ _).drew | exact Below.refl _ _⟩)
theorem insert1_any (b bo bm : Nat) (M : MM) (o : OpV) (w : World) (h : MdAt w b M) (h1 : w.cell? ⟨bo, 6, none⟩ = some (.string o.text)) (h2 : w.cell? ⟨bm, 0, none⟩ = some (.pointer (some ⟨b, 0, none⟩))) (hs : M.text.size ≤ 100000) (ho : o.text.size ≤ 100000) :
    Calls Tryz.prog 191 #[.pointer (some ⟨bm, 0, none⟩), .pointer (some ⟨bo, 0, none⟩)] w fun r w' => r = .returned (.int .i64 (if 65536 < (M.text.size : Int) + o.text.size then 5 else 0)) ∧ Below w.heap.size w w' := by
  have c0 : w.cell? ⟨b, 0, none⟩ = some (.string M.text) := by simp [World.cell?, h.blk, mdL]
  have hw : IntKind.i64.wrap ((M.text.size : Int) + (o.text.size : Int)) = (M.text.size : Int) + (o.text.size : Int) := IntWalk.i64_in _ (by omega)
  by_cases hd : 65536 < (M.text.size : Int) + o.text.size
  · rw [if_pos hd]
    have d : decide (65536 < (M.text.size : Int) + (o.text.size : Int)) = true := by simpa using hd
    go_enter Tryz.func191, Tryz.ntmps191
    go_wp2
    try go_region
    all_goals go_wp2
    all_goals (go_returns; exact ⟨rfl, by first | exact Below.refl _ _ | exact (Below.refl _ _).drew⟩)
  · rw [if_neg hd]
    have d : decide (65536 < (M.text.size : Int) + (o.text.size : Int)) = false := by simpa using hd
    go_enter Tryz.func191, Tryz.ntmps191
    go_wp2
    try go_region
    all_goals go_wp2
    all_goals (go_returns; exact ⟨rfl, by first | exact Below.refl _ _ | exact (Below.refl _ _).drew⟩)
theorem remove1_any (b bo bm : Nat) (M : MM) (o : OpV) (w : World) (h : MdAt w b M) (h1 : w.cell? ⟨bo, 2, none⟩ = some (.int .i64 o.at_)) (h3 : w.cell? ⟨bo, 3, none⟩ = some (.int .i64 o.n)) (h2 : w.cell? ⟨bm, 0, none⟩ = some (.pointer (some ⟨b, 0, none⟩))) (hs : M.text.size ≤ 100000) (ho : 0 ≤ o.at_) :
    Calls Tryz.prog 193 #[.pointer (some ⟨bo, 0, none⟩), .pointer (some ⟨bm, 0, none⟩)] w fun r w' => r = .returned (.int .i64 (if (M.text.size : Int) < o.at_ ∨ (M.text.size : Int) - o.at_ < o.n then 3 else 0)) ∧ Below w.heap.size w w' := by
  have c0 : w.cell? ⟨b, 0, none⟩ = some (.string M.text) := by simp [World.cell?, h.blk, mdL]
  by_cases hd : (M.text.size : Int) < o.at_
  · rw [if_pos (.inl hd)]
    have d : decide ((M.text.size : Int) < o.at_) = true := by simpa using hd
    go_enter Tryz.func193, Tryz.ntmps193
    go_wp2
    try go_region
    all_goals go_wp2
    all_goals (go_returns; exact ⟨rfl, by first | exact Below.refl _ _ | exact (Below.refl _ _).drew⟩)
  · have d : decide ((M.text.size : Int) < o.at_) = false := by simpa using hd
    have hw : IntKind.i64.wrap ((M.text.size : Int) - o.at_) = (M.text.size : Int) - o.at_ := IntWalk.i64_in _ (by omega)
    by_cases hd2 : (M.text.size : Int) - o.at_ < o.n
    · rw [if_pos (.inr hd2)]
      have d2 : decide ((M.text.size : Int) - o.at_ < o.n) = true := by simpa using hd2
      go_enter Tryz.func193, Tryz.ntmps193
      go_wp2
      try go_region
      all_goals go_wp2
      all_goals (go_returns; exact ⟨rfl, by first | exact Below.refl _ _ | exact (Below.refl _ _).drew⟩)
    · rw [if_neg (by omega)]
      have d2 : decide ((M.text.size : Int) - o.at_ < o.n) = false := by simpa using hd2
      go_enter Tryz.func193, Tryz.ntmps193
      go_wp2
      try go_region
      all_goals go_wp2
      all_goals (go_returns; exact ⟨rfl, by first | exact Below.refl _ _ | exact (Below.refl _ _).drew⟩)
end Go.Proofs.YtdeiocppghhfdaaGreat
namespace Go.Proofs.YtdeiocppghhfdaaGreat
set_option linter.unusedVariables false
set_option linter.unusedSimpArgs false
set_option maxRecDepth 100000
set_option maxHeartbeats 8000000
section
variable {P : Program} {md : Region.Mode} {l : List Oper} {Q : Exit → Act → World → Prop} {S : World → Prop}
theorem np_take {i : Nat} {oi : Oper} {v : Value} {fuel : Nat} {listed : Array Bool} {a : Act} {w : World} (hi : l[i]? = some oi)
    (hs : Region.noSelect l.toArray = true) (hf : Region.free md l.toArray listed i = true) (hr : (Region.ready md l.toArray listed).contains i = true)
    (hw : Region.wanted oi (yielded l.toArray a.tmps) = true) (hv : ∀ w, S w → (execOp a.eval oi).run P w = .ok (.value v) w) (hS : S w)
    (h : wpAnyH P md l.toArray (NoPanic Q) S fuel (listed.setIfInBounds i true) (a.put oi.dst v) w) : wpAnyH P md l.toArray (NoPanic Q) S (fuel + 1) listed a w :=
  wpAnyH_take (by simpa using hi) hs hf hr (fun _ _ _ h => h) (.inl ⟨hw, hv⟩) hS h
theorem np_skip {i : Nat} {oi : Oper} {fuel : Nat} {listed : Array Bool} {a : Act} {w : World} (hi : l[i]? = some oi)
    (hs : Region.noSelect l.toArray = true) (hf : Region.free md l.toArray listed i = true) (hr : (Region.ready md l.toArray listed).contains i = true)
    (hw : Region.wanted oi (yielded l.toArray a.tmps) = false) (hS : S w)
    (h : wpAnyH P md l.toArray (NoPanic Q) S fuel (listed.setIfInBounds i true) (a.put oi.dst undef) w) : wpAnyH P md l.toArray (NoPanic Q) S (fuel + 1) listed a w :=
  wpAnyH_take (by simpa using hi) hs hf hr (fun _ _ _ h => h) (.inr ⟨hw, rfl⟩) hS h
theorem np_step {i : Nat} {o : Oper} {fuel : Nat} {listed : Array Bool} {a : Act} {w : World} (ho : l[i]? = some o) (hr : Region.ready md l.toArray listed = [i])
    (h : ∀ K' : Act → World → Prop, Shut (∀ a w, S w → (S w → wpAnyH P md l.toArray (NoPanic Q) S fuel (listed.setIfInBounds i true) a w) → K' a w) → if Region.wanted o (yielded l.toArray a.tmps) = true then Oper.wp P o a w K' (NoPanic Q) else K' (a.put o.dst undef) w) :
    wpAnyH P md l.toArray (NoPanic Q) S (fuel + 1) listed a w :=
  wpAnyH_ready hr (by simp) (AllReadyH.cons (by simpa using ho) h AllReadyH.nil)
end
end Go.Proofs.YtdeiocppghhfdaaGreat
namespace Go.Proofs.YtdeiocppghhfdaaGreat
set_option linter.unusedVariables false
set_option linter.unusedSimpArgs false
set_option maxRecDepth 100000
set_option maxHeartbeats 8000000
theorem nSO : (∀ (a : Act) (d : Tmp) (v : Value), a.put (some d) v = { a with tmps := a.tmps.setIfInBounds d v }) ∧ (∀ (a : Act) (v : Value), a.put none v = a) ∧ (∀ (l : List Value) (i : Nat) (v : Value), l.toArray.setIfInBounds i v = (l.set i v).toArray) ∧ (∀ (x y : Value) (l : List Value), (x :: l).set 0 y = y :: l) ∧ (∀ (x y : Value) (l : List Value) (i : Nat), (x :: l).set (i + 1) y = x :: l.set i y) :=
  ⟨fun _ _ _ => rfl, fun _ _ => rfl, fun _ _ _ => List.setIfInBounds_toArray .., fun _ _ _ => rfl, fun _ _ _ _ => rfl⟩
section
variable {P : Program} {md : Region.Mode} {l : List Oper} {Q : Exit → Act → World → Prop} {S : World → Prop}
theorem np_t (i : Nat) {oi : Oper} (v : Value) {fuel : Nat} {listed : Array Bool} {a : Act} {w : World}
    (hv : ∀ w, S w → (execOp a.eval oi).run P w = .ok (.value v) w) (h : wpAnyH P md l.toArray (NoPanic Q) S fuel (listed.setIfInBounds i true) (a.put oi.dst v) w)
    (hi : l[i]? = some oi := by rfl) (hr : (Region.ready md l.toArray listed).contains i = true := by kernel_rfl)
    (hs : Region.noSelect l.toArray = true := by kernel_rfl) (hf : Region.free md l.toArray listed i = true := by kernel_rfl)
    (hw : Region.wanted oi (yielded l.toArray a.tmps) = true := by rfl) (hS : S w := by assumption) : wpAnyH P md l.toArray (NoPanic Q) S (fuel + 1) listed a w := np_take hi hs hf hr hw hv hS h
theorem np_s (i : Nat) {oi : Oper} {fuel : Nat} {listed : Array Bool} {a : Act} {w : World}
    (h : wpAnyH P md l.toArray (NoPanic Q) S fuel (listed.setIfInBounds i true) (a.put oi.dst undef) w)
    (hi : l[i]? = some oi := by rfl) (hw : Region.wanted oi (yielded l.toArray a.tmps) = false := by rfl) (hr : (Region.ready md l.toArray listed).contains i = true := by kernel_rfl)
    (hs : Region.noSelect l.toArray = true := by kernel_rfl) (hf : Region.free md l.toArray listed i = true := by kernel_rfl)
    (hS : S w := by assumption) : wpAnyH P md l.toArray (NoPanic Q) S (fuel + 1) listed a w := np_skip hi hs hf hr hw hS h
theorem np_n {j : Nat} {oi : Oper} (v : Value) {fuel : Nat} {listed : Array Bool} {a : Act} {w : World}
    (hv : ∀ w, S w → (execOp a.eval oi).run P w = .ok (.value v) w) (h : wpAnyH P md l.toArray (NoPanic Q) S fuel ((listed.setIfInBounds j true).setIfInBounds (j + 1) true) (a.put oi.dst v) w)
    (hi : l[j + 1]? = some oi := by rfl) (hr : (Region.ready md l.toArray (listed.setIfInBounds j true)).contains (j + 1) = true := by kernel_rfl)
    (hs : Region.noSelect l.toArray = true := by kernel_rfl) (hf : Region.free md l.toArray (listed.setIfInBounds j true) (j + 1) = true := by kernel_rfl)
    (hw : Region.wanted oi (yielded l.toArray a.tmps) = true := by rfl) (hS : S w := by assumption) : wpAnyH P md l.toArray (NoPanic Q) S (fuel + 1) (listed.setIfInBounds j true) a w := np_take hi hs hf hr hw hv hS h
theorem np_sn {j : Nat} {oi : Oper} {fuel : Nat} {listed : Array Bool} {a : Act} {w : World}
    (h : wpAnyH P md l.toArray (NoPanic Q) S fuel ((listed.setIfInBounds j true).setIfInBounds (j + 1) true) (a.put oi.dst undef) w)
    (hi : l[j + 1]? = some oi := by rfl) (hw : Region.wanted oi (yielded l.toArray a.tmps) = false := by rfl) (hr : (Region.ready md l.toArray (listed.setIfInBounds j true)).contains (j + 1) = true := by kernel_rfl)
    (hs : Region.noSelect l.toArray = true := by kernel_rfl) (hf : Region.free md l.toArray (listed.setIfInBounds j true) (j + 1) = true := by kernel_rfl)
    (hS : S w := by assumption) : wpAnyH P md l.toArray (NoPanic Q) S (fuel + 1) (listed.setIfInBounds j true) a w := np_skip hi hs hf hr hw hS h
end
end Go.Proofs.YtdeiocppghhfdaaGreat
namespace Go.Proofs.YtdeiocppghhfdaaGreat
set_option linter.unusedVariables false
set_option linter.unusedSimpArgs false
set_option maxRecDepth 100000
set_option maxHeartbeats 8000000
open Go.RowKit Go.Lib Go.Shelf
attribute [local go_sem, local simp] resF resL_len resL_ne rset0 rset1 rset2 rset3 rset4 rset5
def opL (o : OpV) : List Value := [.int .u8 o.kind, .int .i64 o.slot, .int .i64 o.at_, .int .i64 o.n, .int .u32 o.id, .int .u8 o.grav, .string o.text]
def Post (b : Nat) (w : World) (R : ResV × MS) (M : MM) (e : Ending) (w' : World) : Prop := e = .returned (.agg (resL R.1).toArray) ∧ ∃ M', MdAt w' b M' ∧ M'.st = R.2 ∧ KeepF (M.fp b) w w' ∧ (∀ k, M'.fp b k → M.fp b k ∨ w.heap.size ≤ k)
structure EdB (w : World) (b : Nat) (o : OpV) (r : Nat) (W : World) : Prop where
  c0 : W.cell? ⟨w.heap.size, 0, none⟩ = some (.pointer (some ⟨b, 0, none⟩))
  op : W.heap[w.heap.size + 1]? = some (.cells (opL o).toArray 54 (0, 0))
  res : W.heap[r]? = some (.cells (resL {}).toArray 51 (0, 0))
  bl : Below w.heap.size w W
theorem EdB.on {w W W' : World} {b r : Nat} {o : OpV} (h : EdB w b o r W) (hb : Below W.heap.size W W') : EdB w b o r W' := by
  have h1 := (Array.getElem?_eq_some_iff.1 h.op).1
  exact ⟨(hb.cell (p := ⟨w.heap.size, 0, none⟩) (show w.heap.size < W.heap.size by omega)).trans h.c0, (hb.block _ h1).trans h.op, (hb.block _ (Array.getElem?_eq_some_iff.1 h.res).1).trans h.res, h.bl.trans (hb.mono h.bl.size)⟩
theorem EdB.o2 {w W : World} {b r : Nat} {o : OpV} (h : EdB w b o r W) : W.cell? ⟨w.heap.size + 1, 2, none⟩ = some (.int .i64 o.at_) ∧ W.cell? ⟨w.heap.size + 1, 3, none⟩ = some (.int .i64 o.n) ∧ W.cell? ⟨w.heap.size + 1, 6, none⟩ = some (.string o.text) ∧ W.cell? ⟨w.heap.size + 1, 4, none⟩ = some (.int .u32 o.id) ∧ W.cell? ⟨w.heap.size + 1, 5, none⟩ = some (.int .u8 o.grav) := by
  refine ⟨?_, ?_, ?_, ?_, ?_⟩ <;> simp [World.cell?, h.op, opL]
theorem openChk (b : Nat) (M : MM) (w : World) (h : MdAt w b M) : ChkOK w ⟨189, #[.pointer (some ⟨b, 0, none⟩)], #[], if M.closed then 13 else 0⟩ :=
  ⟨enters_of Tryz.func189 (by kernel_rfl) rfl, fun W hW => (open_any b M W (h.below hW)).mono (by rintro e w' ⟨rfl, rfl⟩; exact ⟨rfl, Below.refl _ _⟩)⟩
theorem bndChk (b ba bm : Nat) (M : MM) (a : Int) (w : World) (h : MdAt w b M) (hba : ba < w.heap.size) (hbm : bm < w.heap.size) (h1 : w.cell? ⟨ba, 0, none⟩ = some (.int .i64 a)) (h2 : w.cell? ⟨bm, 0, none⟩ = some (.pointer (some ⟨b, 0, none⟩))) : ChkOK w ⟨237, #[], #[.pointer (some ⟨ba, 0, none⟩), .pointer (some ⟨bm, 0, none⟩)], bndE M.text a⟩ :=
  ⟨enters_of Tryz.func237 (by kernel_rfl) rfl, fun W hW => boundary1_any b ba bm M a W (h.below hW) ((hW.cell (p := ⟨ba, 0, none⟩) hba).trans h1) ((hW.cell (p := ⟨bm, 0, none⟩) hbm).trans h2)⟩
theorem insChk (b bo bm : Nat) (M : MM) (o : OpV) (w : World) (h : MdAt w b M) (hbo : bo < w.heap.size) (hbm : bm < w.heap.size) (h1 : w.cell? ⟨bo, 6, none⟩ = some (.string o.text)) (h2 : w.cell? ⟨bm, 0, none⟩ = some (.pointer (some ⟨b, 0, none⟩))) (hs : M.text.size ≤ 100000) (ho : o.text.size ≤ 100000) : ChkOK w ⟨191, #[], #[.pointer (some ⟨bm, 0, none⟩), .pointer (some ⟨bo, 0, none⟩)], if 65536 < (M.text.size : Int) + o.text.size then 5 else 0⟩ :=
  ⟨enters_of Tryz.func191 (by kernel_rfl) rfl, fun W hW => insert1_any b bo bm M o W (h.below hW) ((hW.cell (p := ⟨bo, 6, none⟩) hbo).trans h1) ((hW.cell (p := ⟨bm, 0, none⟩) hbm).trans h2) hs ho⟩
theorem edB_start (w : World) (b : Nat) (o : OpV) : EdB w b o (w.heap.size + 1 + 1) (((w.alloc (.cells #[.pointer (some ⟨b, 0, none⟩)] 81)).alloc (.cells #[.int .u8 o.kind, .int .i64 o.slot, .int .i64 o.at_, .int .i64 o.n, .int .u32 o.id, .int .u8 o.grav, .string o.text] 54)).alloc (.cells (resL {}).toArray 51)) := by
  have h1 := heap_alloc_new (w.alloc (.cells #[.pointer (some ⟨b, 0, none⟩)] 81)) (.cells #[.int .u8 o.kind, .int .i64 o.slot, .int .i64 o.at_, .int .i64 o.n, .int .u32 o.id, .int .u8 o.grav, .string o.text] 54)
  have h2 := heap_alloc_new ((w.alloc (.cells #[.pointer (some ⟨b, 0, none⟩)] 81)).alloc (.cells #[.int .u8 o.kind, .int .i64 o.slot, .int .i64 o.at_, .int .i64 o.n, .int .u32 o.id, .int .u8 o.grav, .string o.text] 54)) (.cells (resL {}).toArray 51)
  simp only [World.size_alloc] at h1 h2
  exact ⟨Lib.cell?_alloc_some _ (Lib.cell?_alloc_some _ (box1 (heap_alloc_new w _)).1), (heap_alloc_old _ _ (by simp)).trans h1, h2, (((Below.refl _ w).alloc (Nat.le_refl _) _).alloc (by simp) _).alloc (by simp; omega) _⟩
theorem KeepF.mono {F G : Nat → Prop} {w w' : World} (h : KeepF F w w') (hg : ∀ k, F k → G k) : KeepF G w w' := ⟨h.os, h.tape, h.output, h.size, fun k hk hn => h.block k hk (fun hf => hn (hg k hf))⟩
theorem ChkOK.on {w W : World} {k : Chk} (h : ChkOK w k) (hb : Below w.heap.size w W) : ChkOK W k := ⟨h.1, fun X hX => h.2 X (hb.trans (hX.mono hb.size))⟩
theorem firstN (W : World) (g : Nat) (hg : W.heap.size = g) (L : List Chk) (hk : ∀ k ∈ L, ChkOK W k) (hl : L.length ≤ 10) (n : Nat) (hn : n = L.length) :
    Calls Tryz.prog 188 #[.slice (some ⟨g, 0, none⟩) n n] (W.alloc (.cells (L.map fun k => Value.func (.func k.f) k.bs k.fs).toArray 221)) fun r w' => r = .returned (.int .i64 (firstE (L.map (·.e)))) ∧ Below W.heap.size W w' := by
  subst hg; subst hn
  have hb := (Below.refl W.heap.size W).alloc (Nat.le_refl _) (.cells (L.map fun k => Value.func (.func k.f) k.bs k.fs).toArray 221)
  refine (first_any W.heap.size L.length L _ (by simp) (fun i k hi => ?_) (fun k hk' => (hk k hk').on hb) hl).mono ?_
  · have h2 := heap_alloc_new W (.cells (L.map fun k => Value.func (.func k.f) k.bs k.fs).toArray 221)
    have h3 := blk_cells h2 i (.func (.func k.f) k.bs k.fs) (by rw [List.getElem?_map, hi]; rfl)
    rwa [Addr.add_lit, Nat.zero_add] at h3
  · rintro e w' ⟨rfl, hB⟩
    exact ⟨rfl, hb.trans (hB.mono (by simp))⟩
theorem bnd_blk (W : World) (b : Nat) (a : Int) (n : Nat) (hn : W.heap.size = n) : Below W.heap.size W ((W.alloc (.cells #[.pointer (some ⟨b, 0, none⟩)] 81)).alloc (.cells #[.int .i64 a] 3)) ∧ ((W.alloc (.cells #[.pointer (some ⟨b, 0, none⟩)] 81)).alloc (.cells #[.int .i64 a] 3)).cell? ⟨n, 0, none⟩ = some (.pointer (some ⟨b, 0, none⟩)) ∧ ((W.alloc (.cells #[.pointer (some ⟨b, 0, none⟩)] 81)).alloc (.cells #[.int .i64 a] 3)).cell? ⟨n + 1, 0, none⟩ = some (.int .i64 a) := by
  subst hn
  refine ⟨((Below.refl _ W).alloc (Nat.le_refl _) _).alloc (by simp) _, Lib.cell?_alloc_some _ (box1 (heap_alloc_new W _)).1, ?_⟩
  have h2 := heap_alloc_new (W.alloc (.cells #[.pointer (some ⟨b, 0, none⟩)] 81)) (.cells #[.int .i64 a] 3)
  rw [World.size_alloc] at h2
  exact (box1 h2).1
theorem minsert_any (b : Nat) (M : MM) (c : Int) (o : OpV) (w : World) (h : MdAt w b M) (hok : MSok M.st 100000) (hot : o.text.size ≤ 256) (hot2 : o.text.size ≠ 0) (hat : 0 ≤ o.at_) :
    Calls Tryz.prog 137 #[.pointer (some ⟨b, 0, none⟩), .int .i64 c, .agg #[.int .u8 o.kind, .int .i64 o.slot, .int .i64 o.at_, .int .i64 o.n, .int .u32 o.id, .int .u8 o.grav, .string o.text]] w (Post b w (insS M.st o) M) := by
  have hsz := hok.size
  have hE := edB_start w b o
  have hM0 := h.below hE.bl
  have fc := fun g c (L : List Chk) W h1 h2 h3 h4 => first_any g c L W h1 h2 h3 h4
  have hok := Lib.hid hok
  go_enter Tryz.func137, Tryz.ntmps137
  go_wp2_with fail
  generalize hW0 : ((w.alloc (.cells #[.pointer (some ⟨b, 0, none⟩)] 81)).alloc (.cells #[.int .u8 o.kind, .int .i64 o.slot, .int .i64 o.at_, .int .i64 o.n, .int .u32 o.id, .int .u8 o.grav, .string o.text] 54)).alloc (.cells (resL {}).toArray 51) = W0 at *
  have hs0 : W0.heap.size = w.heap.size + 3 := by rw [← hW0]; simp
  clear hW0
  have kx : ∀ W, Below W0.heap.size W0 W → (W.cell? ⟨w.heap.size, 0, none⟩ = some (.pointer (some ⟨b, 0, none⟩)) ∧ W.cell? ⟨w.heap.size + 1, 2, none⟩ = some (.int .i64 o.at_)) ∧ Below W0.heap.size W0 W := fun W hW => ⟨⟨(hE.on hW).c0, (hE.on hW).o2.1⟩, hW⟩
  have Kx := Lib.hid kx
  clear kx
  have hx0 := (Below.refl W0.heap.size W0).drew
  obtain ⟨hb1, hp1, hp2⟩ := bnd_blk W0.drew b o.at_ (w.heap.size + 3) hs0
  have hxb : Below W0.heap.size W0 ((W0.drew.alloc (.cells #[.pointer (some ⟨b, 0, none⟩)] 81)).alloc (.cells #[.int .i64 o.at_] 3)) := hx0.trans hb1
  have hEb := hE.on hxb
  have hsb : ((W0.drew.alloc (.cells #[.pointer (some ⟨b, 0, none⟩)] 81)).alloc (.cells #[.int .i64 o.at_] 3)).heap.size = w.heap.size + 3 + 1 + 1 := by simp [hs0]
  have hfst := firstN _ _ hsb [⟨189, #[.pointer (some ⟨b, 0, none⟩)], #[], if M.closed then 13 else 0⟩, ⟨237, #[], #[.pointer (some ⟨w.heap.size + 3 + 1, 0, none⟩), .pointer (some ⟨w.heap.size + 3, 0, none⟩)], bndE M.text o.at_⟩, ⟨191, #[], #[.pointer (some ⟨w.heap.size, 0, none⟩), .pointer (some ⟨w.heap.size + 1, 0, none⟩)], if 65536 < (M.text.size : Int) + o.text.size then 5 else 0⟩] (by
    intro k hk
    simp only [List.mem_cons, List.not_mem_nil, or_false] at hk
    rcases hk with rfl | rfl | rfl
    · exact openChk b M _ (hM0.below hxb)
    · exact bndChk b _ _ M _ _ (hM0.below hxb) (by rw [hsb]; omega) (by rw [hsb]; omega) hp2 hp1
    · exact insChk b _ _ M o _ (hM0.below hxb) (by rw [hsb]; omega) (by rw [hsb]; omega) hEb.o2.2.2.1 hEb.c0 (Nat.le_trans hsz (by decide)) (by omega)) (by simp) 3 rfl
  have hEQ : firstE ([⟨189, #[.pointer (some ⟨b, 0, none⟩)], #[], if M.closed then 13 else 0⟩, ⟨237, #[], #[.pointer (some ⟨w.heap.size + 3 + 1, 0, none⟩), .pointer (some ⟨w.heap.size + 3, 0, none⟩)], bndE M.text o.at_⟩, ⟨191, #[], #[.pointer (some ⟨w.heap.size, 0, none⟩), .pointer (some ⟨w.heap.size + 1, 0, none⟩)], if 65536 < (M.text.size : Int) + o.text.size then 5 else 0⟩].map (fun k : Chk => k.e)) = insE M.st o := by
    simp only [List.map_cons, List.map_nil, firstE, insE, MM.st]
    by_cases h1 : M.closed = true <;> by_cases h2 : bndE M.text o.at_ = 0 <;> by_cases h3 : 65536 < (M.text.size : Int) + o.text.size <;> simp [h1, h2, h3]
  rw [hEQ] at hfst
  clear hEQ
  have hx2 := hxb.alloc (by rw [hsb, hs0]; omega) (.cells #[.func (.func 189) #[.pointer (some ⟨b, 0, none⟩)] #[], .func (.func 237) #[] #[.pointer (some ⟨w.heap.size + 3 + 1, 0, none⟩), .pointer (some ⟨w.heap.size + 3, 0, none⟩)], .func (.func 191) #[] #[.pointer (some ⟨w.heap.size, 0, none⟩), .pointer (some ⟨w.heap.size + 1, 0, none⟩)]] 221)
  refine wp_region_noPanic ?_
  refine wp_region_held_drew (S := fun W => (W.cell? ⟨w.heap.size, 0, none⟩ = some (.pointer (some ⟨b, 0, none⟩)) ∧ W.cell? ⟨w.heap.size + 1, 2, none⟩ = some (.int .i64 o.at_)) ∧ Below W0.heap.size W0 W) (by kernel_rfl) ?_ (fun hHeld => ?_)
  · first | exact Kx.out _ hx3 | exact Kx.out _ hx1 | exact Kx.out _ hx0
  iterate 5 (((first | refine np_n ?_ ?_ ?_ | refine np_t 0 ?_ ?_ ?_); rotate_left 1; (· (intro w hSw; (try dsimp only at hSw); go_simp; all_goals with_reducible rfl)); (try simp only [nSO])))
  (refine np_t 6 ?_ ?_ ?_; rotate_left 1; (· (intro w hSw; (try dsimp only at hSw); go_simp; all_goals with_reducible rfl)); (try simp only [nSO]))
  (refine np_step (i := 5) rfl (by kernel_rfl) (fun K hK => ?_); rw [if_pos (by rfl)]; go_simp; ((go_at_call 190; refine (boundary_m b o.at_ _).mono ?_; rintro e v9 ⟨rfl, rfl⟩; have hx1 := hxb)); (try go_wp2_with fail); refine hK.out _ _ ?_ (fun hHeld => ?_); (· (first | exact Kx.out _ hx3 | exact Kx.out _ hx1 | exact Kx.out _ hx0)); clear hK K; (try simp only [nSO]))
  (refine np_step (i := 7) rfl (by kernel_rfl) (fun K hK => ?_); rw [if_pos (by rfl)]; go_simp; ((have hx1 := hx2)); (try go_wp2_with fail); refine hK.out _ _ ?_ (fun hHeld => ?_); (· (first | exact Kx.out _ hx3 | exact Kx.out _ hx1 | exact Kx.out _ hx0)); clear hK K; (try simp only [nSO]))
  (refine np_step (i := 8) rfl (by kernel_rfl) (fun K hK => ?_); rw [if_pos (by rfl)]; go_simp; ((go_at_call 188; refine hfst.mono ?_; rintro e v8 ⟨rfl, hb8⟩; have hx3 := hxb.trans (hb8.mono (by rw [hsb, hs0]; omega)))); (try go_wp2_with fail); refine hK.out _ _ ?_ (fun hHeld => ?_); (· (first | exact Kx.out _ hx3 | exact Kx.out _ hx1 | exact Kx.out _ hx0)); clear hK K; (try simp only [nSO]))
  (refine np_n ?_ ?_ ?_; rotate_left 1; (· (intro w hSw; (try dsimp only at hSw); go_simp; all_goals with_reducible rfl)); (try simp only [nSO]))
  refine wpAnyH_done (by kernel_rfl) ?_ _
  refine NoPanic.normal ?_
  have hxv := hHeld.2
  have hEv := hE.on hxv
  obtain ⟨e2, e3, e6, _, _⟩ := hEv.o2
  have e0 := hEv.c0
  have hMv := hM0.below hxv
  clear hHeld hfst hx2 hEb hxb hsb hp1 hp2 hb1 Kx hx0
  have hrB : w.heap.size ≤ w.heap.size + 1 + 1 := by omega
  by_cases hI : insE M.st o = 0
  · have hS : insS M.st o = repS M.st o.at_ 0 o.text := by unfold insS; rw [if_neg (by simpa using hI)]
    have hcond : M.text.size + o.text.size ≤ 65536 ∧ bndE M.text o.at_ = 0 := by
      have h9 := hI
      unfold insE at h9
      by_cases h1 : M.closed = true <;> by_cases h2 : bndE M.text o.at_ = 0 <;> by_cases h3 : 65536 < (M.text.size : Int) + o.text.size <;> simp [MM.st, h1, h2, h3] at h9
      exact ⟨by omega, h2⟩
    have hle : o.at_ ≤ (M.text.size : Int) := by
      have h9 := hcond.2
      unfold bndE at h9
      split at h9
      · cases h9
      · omega
    have hRep : RepOK M.text.size o.at_ 0 o.text := ⟨hat, by omega, by omega, by omega, by omega, .inl ⟨rfl, hot2⟩⟩
    rw [hI]
    rw [hS]
    go_wp2_with (go_at_call 192; refine (mreplace_any b M o.at_ 0 o.text _ hMv hRep hok.out.marks hok.out.num0 hok.out.num1).mono ?_; rintro e v7 ⟨rfl, ⟨mv, hM7⟩, hK7⟩; have hz7 := (hK7.block _ (Array.getElem?_eq_some_iff.1 hEv.res).1 (by have := (Array.getElem?_eq_some_iff.1 h.blk).1; omega)).trans hEv.res; have hst := res_st hz7 rfl)
    refine ⟨rfl, _, results_cell_row rfl _ _ _ _ _ _ _ rfl (setRow_heap _ _ _ _ _ _ hz7) Tryz.underlying51 rfl (by kernel_rfl), (by first | (rw [hS]; done) | (rw [hS]; rfl)), _, hM7.row hz7 _, (by rw [hS]; rfl), ?_, ?_⟩
    · exact (((KeepF.of_below (hE.bl.trans (hxv.mono hE.bl.size))).trans (hK7.mono (fun k hk => .inl hk))).row hrB _)
    · intro k hk; exact .inl hk
  · have hS : insS M.st o = (failR (insE M.st o), M.st) := by unfold insS; rw [if_pos hI]
    have hd : (insE M.st o == 0) = false := by simpa using hI
    rw [hS]
    generalize insE M.st o = e at *
    go_wp2_with (go_at_call 99; refine (fail_any _ _).mono ?_; rintro e v7 ⟨rfl, hb7⟩; have hE7 := hEv.on hb7; have hst := res_st hE7.res rfl)
    refine ⟨rfl, _, results_cell_row rfl _ _ _ _ _ _ _ rfl (setRow_heap _ _ _ _ _ _ hE7.res) Tryz.underlying51 rfl (by kernel_rfl), (by first | (rw [hS]; done) | (rw [hS]; rfl)), M, (hMv.below hb7).row hE7.res _, (by rw [hS]), (KeepF.of_below hE7.bl).row hrB _, fun k hk => .inl hk⟩
end Go.Proofs.YtdeiocppghhfdaaGreat
namespace Go.Proofs.YtdeiocppghhfdaaGreat
set_option linter.unusedVariables false
set_option linter.unusedSimpArgs false
set_option maxRecDepth 100000
set_option maxHeartbeats 8000000
open Go.RowKit Go.Lib Go.Shelf
attribute [local go_sem, local simp] resF resL_len resL_ne rset0 rset1 rset2 rset3 rset4 rset5
structure Ed2 (w : World) (o : OpV) (r : Nat) (W : World) : Prop where
  op : W.heap[w.heap.size]? = some (.cells (opL o).toArray 54 (0, 0))
  res : W.heap[r]? = some (.cells (resL {}).toArray 51 (0, 0))
  bl : Below w.heap.size w W
theorem Ed2.on {w W W' : World} {r : Nat} {o : OpV} (h : Ed2 w o r W) (hb : Below W.heap.size W W') : Ed2 w o r W' :=
  ⟨(hb.block _ (Array.getElem?_eq_some_iff.1 h.op).1).trans h.op, (hb.block _ (Array.getElem?_eq_some_iff.1 h.res).1).trans h.res, h.bl.trans (hb.mono h.bl.size)⟩
theorem Ed2.drew {w W : World} {r : Nat} {o : OpV} (h : Ed2 w o r W) : Ed2 w o r W.drew := ⟨h.op, h.res, h.bl.drew⟩
theorem Ed2.alc {w W : World} {r : Nat} {o : OpV} (h : Ed2 w o r W) (x : Obj) : Ed2 w o r (W.alloc x) :=
  ⟨(heap_alloc_old _ _ (Array.getElem?_eq_some_iff.1 h.op).1).trans h.op, (heap_alloc_old _ _ (Array.getElem?_eq_some_iff.1 h.res).1).trans h.res, h.bl.alloc h.bl.size _⟩
theorem Ed2.set {w W : World} {r : Nat} {o : OpV} (h : Ed2 w o r W) (k i : Nat) (v : Value) (hk : w.heap.size ≤ k) (h1 : k ≠ w.heap.size) (h2 : k ≠ r) : Ed2 w o r (W.setCell ⟨k, i, none⟩ v) :=
  ⟨(setCell_ne _ _ _ _ (Ne.symm h1)).trans h.op, (setCell_ne _ _ _ _ (Ne.symm h2)).trans h.res, ⟨h.bl.os, h.bl.tape, h.bl.output, by rw [setCell_size]; exact h.bl.size, fun j hj => (setCell_ne _ _ _ _ (by show j ≠ k; omega)).trans (h.bl.block j hj)⟩⟩
theorem Ed2.o2 {w W : World} {r : Nat} {o : OpV} (h : Ed2 w o r W) : W.cell? ⟨w.heap.size, 2, none⟩ = some (.int .i64 o.at_) ∧ W.cell? ⟨w.heap.size, 3, none⟩ = some (.int .i64 o.n) ∧ W.cell? ⟨w.heap.size, 6, none⟩ = some (.string o.text) ∧ W.cell? ⟨w.heap.size, 4, none⟩ = some (.int .u32 o.id) ∧ W.cell? ⟨w.heap.size, 5, none⟩ = some (.int .u8 o.grav) := by
  refine ⟨?_, ?_, ?_, ?_, ?_⟩ <;> simp [World.cell?, h.op, opL]
theorem ed2_start (w : World) (o : OpV) : Ed2 w o (w.heap.size + 1) ((w.alloc (.cells #[.int .u8 o.kind, .int .i64 o.slot, .int .i64 o.at_, .int .i64 o.n, .int .u32 o.id, .int .u8 o.grav, .string o.text] 54)).alloc (.cells (resL {}).toArray 51)) := by
  have h1 := heap_alloc_new w (.cells #[.int .u8 o.kind, .int .i64 o.slot, .int .i64 o.at_, .int .i64 o.n, .int .u32 o.id, .int .u8 o.grav, .string o.text] 54)
  have h2 := heap_alloc_new (w.alloc (.cells #[.int .u8 o.kind, .int .i64 o.slot, .int .i64 o.at_, .int .i64 o.n, .int .u32 o.id, .int .u8 o.grav, .string o.text] 54)) (.cells (resL {}).toArray 51)
  simp only [World.size_alloc] at h1 h2
  exact ⟨(heap_alloc_old _ _ (by simp)).trans h1, h2, ((Below.refl _ w).alloc (Nat.le_refl _) _).alloc (by simp) _⟩
theorem MdAt.setMarks {W : World} {b : Nat} {M : MM} (h : MdAt W b M) {v : Value} {l : List MkV} (hl : MOwn W 0 v l) : MdAt (W.setCell ⟨b, 1, none⟩ v) b { M with mv := v, marks := l } :=
  h.upd (by have := blk_set h.blk 1 v; exact this) (fun k _ hk => setCell_ne _ _ _ _ hk) (own_keep hl h.blk (by decide) (fun k _ hk => setCell_ne _ _ _ _ hk)) rfl rfl
theorem MdAt.c1 {W : World} {b : Nat} {M : MM} (h : MdAt W b M) {v : Value} (hv : M.mv = v) : W.cell? ⟨b, 1, none⟩ = some v := by simp [World.cell?, h.blk, mdL, hv]
theorem MdAt.f {W : World} {b : Nat} {M : MM} (h : MdAt W b M) (i : Nat) : W.frozen? ⟨b, i, none⟩ = false := by simp [World.frozen?, h.blk]
theorem set_first (b : Nat) (M : MM) (a : Int) (W : World) (g : Nat) (hg : W.heap.size = g) (h : MdAt W b M) :
    Calls Tryz.prog 188 #[.slice (some ⟨g + 1 + 1, 0, none⟩) 2 2] (((W.alloc (.cells #[.pointer (some ⟨b, 0, none⟩)] 81)).alloc (.cells #[.int .i64 a] 3)).alloc (.cells #[.func (.func 189) #[.pointer (some ⟨b, 0, none⟩)] #[], .func (.func 237) #[] #[.pointer (some ⟨g + 1, 0, none⟩), .pointer (some ⟨g, 0, none⟩)]] 221)) fun r w' => r = .returned (.int .i64 (if M.closed then 13 else bndE M.text a)) ∧ Below W.heap.size W w' := by
  obtain ⟨hb1, hp1, hp2⟩ := bnd_blk W b a g hg
  have hs : ((W.alloc (.cells #[.pointer (some ⟨b, 0, none⟩)] 81)).alloc (.cells #[.int .i64 a] 3)).heap.size = g + 1 + 1 := by simp [hg]
  refine (firstN _ _ hs [⟨189, #[.pointer (some ⟨b, 0, none⟩)], #[], if M.closed then 13 else 0⟩, ⟨237, #[], #[.pointer (some ⟨g + 1, 0, none⟩), .pointer (some ⟨g, 0, none⟩)], bndE M.text a⟩] (by
    intro k hk
    simp only [List.mem_cons, List.not_mem_nil, or_false] at hk
    rcases hk with rfl | rfl
    · exact openChk b M _ (h.below hb1)
    · exact bndChk b _ _ M _ _ (h.below hb1) (by rw [hs]; omega) (by rw [hs]; omega) hp2 hp1) (by simp) 2 rfl).mono ?_
  rintro e w' ⟨rfl, hB⟩
  refine ⟨?_, hb1.trans (hB.mono (by rw [hs]; omega))⟩
  simp only [List.map_cons, List.map_nil, firstE]
  by_cases h1 : M.closed = true <;> by_cases h2 : bndE M.text a = 0 <;> simp [h1, h2]
def remE1 (M : MM) (o : OpV) : Int := if M.closed then 13 else if (M.text.size : Int) < o.at_ ∨ (M.text.size : Int) - o.at_ < o.n then 3 else 0
def remE2 (M : MM) (o : OpV) : Int := if bndE M.text o.at_ ≠ 0 then bndE M.text o.at_ else bndE M.text (o.at_ + o.n)
theorem rem_E (M : MM) (o : OpV) : delE M.st o = if remE1 M o = 0 then remE2 M o else remE1 M o := by
  unfold delE remE1 remE2
  simp only [MM.st]
  by_cases h1 : M.closed = true <;> by_cases h2 : (M.text.size : Int) < o.at_ ∨ (M.text.size : Int) - o.at_ < o.n <;> by_cases h3 : bndE M.text o.at_ = 0 <;> simp [h1, h2, h3]
theorem remChk (b bo bm : Nat) (M : MM) (o : OpV) (w : World) (h : MdAt w b M) (hbo : bo < w.heap.size) (hbm : bm < w.heap.size) (h1 : w.cell? ⟨bo, 2, none⟩ = some (.int .i64 o.at_)) (h3 : w.cell? ⟨bo, 3, none⟩ = some (.int .i64 o.n)) (h2 : w.cell? ⟨bm, 0, none⟩ = some (.pointer (some ⟨b, 0, none⟩))) (hs : M.text.size ≤ 100000) (ho : 0 ≤ o.at_) : ChkOK w ⟨193, #[], #[.pointer (some ⟨bo, 0, none⟩), .pointer (some ⟨bm, 0, none⟩)], if (M.text.size : Int) < o.at_ ∨ (M.text.size : Int) - o.at_ < o.n then 3 else 0⟩ :=
  ⟨enters_of Tryz.func193 (by kernel_rfl) rfl, fun W hW => remove1_any b bo bm M o W (h.below hW) ((hW.cell (p := ⟨bo, 2, none⟩) hbo).trans h1) ((hW.cell (p := ⟨bo, 3, none⟩) hbo).trans h3) ((hW.cell (p := ⟨bm, 0, none⟩) hbm).trans h2) hs ho⟩
theorem rem_first1 (b bo bm : Nat) (M : MM) (o : OpV) (W : World) (g : Nat) (hg : W.heap.size = g) (h : MdAt W b M) (hbo : bo < W.heap.size) (hbm : bm < W.heap.size) (h1 : W.cell? ⟨bo, 2, none⟩ = some (.int .i64 o.at_)) (h3 : W.cell? ⟨bo, 3, none⟩ = some (.int .i64 o.n)) (h2 : W.cell? ⟨bm, 0, none⟩ = some (.pointer (some ⟨b, 0, none⟩))) (hs : M.text.size ≤ 100000) (ho : 0 ≤ o.at_) :
    Calls Tryz.prog 188 #[.slice (some ⟨g, 0, none⟩) 2 2] (W.alloc (.cells #[.func (.func 189) #[.pointer (some ⟨b, 0, none⟩)] #[], .func (.func 193) #[] #[.pointer (some ⟨bo, 0, none⟩), .pointer (some ⟨bm, 0, none⟩)]] 221)) fun r w' => r = .returned (.int .i64 (remE1 M o)) ∧ Below W.heap.size W w' := by
  refine (firstN _ _ hg [⟨189, #[.pointer (some ⟨b, 0, none⟩)], #[], if M.closed then 13 else 0⟩, ⟨193, #[], #[.pointer (some ⟨bo, 0, none⟩), .pointer (some ⟨bm, 0, none⟩)], if (M.text.size : Int) < o.at_ ∨ (M.text.size : Int) - o.at_ < o.n then 3 else 0⟩] (by
    intro k hk
    simp only [List.mem_cons, List.not_mem_nil, or_false] at hk
    rcases hk with rfl | rfl
    · exact openChk b M _ h
    · exact remChk b _ _ M o _ h hbo hbm h1 h3 h2 hs ho) (by simp) 2 rfl).mono ?_
  rintro e w' ⟨rfl, hB⟩
  refine ⟨?_, hB⟩
  unfold remE1
  simp only [List.map_cons, List.map_nil, firstE]
  by_cases h1 : M.closed = true <;> by_cases h2 : (M.text.size : Int) < o.at_ ∨ (M.text.size : Int) - o.at_ < o.n <;> simp [h1, h2]
theorem rem_first2 (b : Nat) (M : MM) (o : OpV) (W : World) (g : Nat) (hg : W.heap.size = g) (h : MdAt W b M) :
    Calls Tryz.prog 188 #[.slice (some ⟨g + 1 + 1 + 1 + 1, 0, none⟩) 2 2] (((((W.alloc (.cells #[.pointer (some ⟨b, 0, none⟩)] 81)).alloc (.cells #[.int .i64 o.at_] 3)).alloc (.cells #[.pointer (some ⟨b, 0, none⟩)] 81)).alloc (.cells #[.int .i64 (o.at_ + o.n)] 3)).alloc (.cells #[.func (.func 237) #[] #[.pointer (some ⟨g + 1, 0, none⟩), .pointer (some ⟨g, 0, none⟩)], .func (.func 237) #[] #[.pointer (some ⟨g + 1 + 1 + 1, 0, none⟩), .pointer (some ⟨g + 1 + 1, 0, none⟩)]] 221)) fun r w' => r = .returned (.int .i64 (remE2 M o)) ∧ Below W.heap.size W w' := by
  obtain ⟨hb1, hp1, hp2⟩ := bnd_blk W b o.at_ g hg
  have hs1 : ((W.alloc (.cells #[.pointer (some ⟨b, 0, none⟩)] 81)).alloc (.cells #[.int .i64 o.at_] 3)).heap.size = g + 1 + 1 := by simp [hg]
  generalize ((W.alloc (.cells #[.pointer (some ⟨b, 0, none⟩)] 81)).alloc (.cells #[.int .i64 o.at_] 3)) = V at *
  obtain ⟨hb2, hq1, hq2⟩ := bnd_blk V b (o.at_ + o.n) (g + 1 + 1) hs1
  have hs2 : ((V.alloc (.cells #[.pointer (some ⟨b, 0, none⟩)] 81)).alloc (.cells #[.int .i64 (o.at_ + o.n)] 3)).heap.size = g + 1 + 1 + 1 + 1 := by simp [hs1]
  have hr1 := (hb2.cell (p := ⟨g, 0, none⟩) (by show g < V.heap.size; omega)).trans hp1
  have hr2 := (hb2.cell (p := ⟨g + 1, 0, none⟩) (by show g + 1 < V.heap.size; omega)).trans hp2
  have hb3 := hb1.trans (hb2.mono (by omega))
  generalize ((V.alloc (.cells #[.pointer (some ⟨b, 0, none⟩)] 81)).alloc (.cells #[.int .i64 (o.at_ + o.n)] 3)) = U at *
  refine (firstN _ _ hs2 [⟨237, #[], #[.pointer (some ⟨g + 1, 0, none⟩), .pointer (some ⟨g, 0, none⟩)], bndE M.text o.at_⟩, ⟨237, #[], #[.pointer (some ⟨g + 1 + 1 + 1, 0, none⟩), .pointer (some ⟨g + 1 + 1, 0, none⟩)], bndE M.text (o.at_ + o.n)⟩] (by
    intro k hk
    simp only [List.mem_cons, List.not_mem_nil, or_false] at hk
    rcases hk with rfl | rfl
    · exact bndChk b _ _ M _ _ (h.below hb3) (by omega) (by omega) hr2 hr1
    · exact bndChk b _ _ M _ _ (h.below hb3) (by omega) (by omega) hq2 hq1) (by simp) 2 rfl).mono ?_
  rintro e w' ⟨rfl, hB⟩
  refine ⟨?_, hb3.trans (hB.mono (by omega))⟩
  unfold remE2
  simp only [List.map_cons, List.map_nil, firstE]
  by_cases h1 : bndE M.text o.at_ = 0 <;> by_cases h2 : bndE M.text (o.at_ + o.n) = 0 <;> simp [h1, h2]
end Go.Proofs.YtdeiocppghhfdaaGreat
namespace Go.Proofs.YtdeiocppghhfdaaGreat
set_option linter.unusedVariables false
set_option linter.unusedSimpArgs false
set_option maxRecDepth 100000
set_option maxHeartbeats 8000000
open Go.RowKit Go.Lib Go.Shelf
attribute [local go_sem, local simp] resF resL_len resL_ne rset0 rset1 rset2 rset3 rset4 rset5
theorem MdAt.c5 {W : World} {b : Nat} {M : MM} (h : MdAt W b M) {v : Value} (hv : M.sv = v) : W.cell? ⟨b, 5, none⟩ = some v := by simp [World.cell?, h.blk, mdL, hv]
theorem MdAt.c2 {W : World} {b : Nat} {M : MM} (h : MdAt W b M) : W.cell? ⟨b, 2, none⟩ = some (.int .i64 M.number) := by simp [World.cell?, h.blk, mdL]
theorem MdAt.c3 {W : World} {b : Nat} {M : MM} (h : MdAt W b M) : W.cell? ⟨b, 3, none⟩ = some (.bool M.closed) := by simp [World.cell?, h.blk, mdL]
theorem MdAt.c0 {W : World} {b : Nat} {M : MM} (h : MdAt W b M) : W.cell? ⟨b, 0, none⟩ = some (.string M.text) := by simp [World.cell?, h.blk, mdL]
theorem MdAt.setClosed {W : World} {b : Nat} {M : MM} (h : MdAt W b M) : MdAt (W.setCell ⟨b, 3, none⟩ (.bool true)) b { M with closed := true } :=
  h.upd (by have := blk_set h.blk 3 (.bool true); exact this) (fun k _ hk => setCell_ne _ _ _ _ hk) (own_keep h.marks h.blk (by decide) (fun k _ hk => setCell_ne _ _ _ _ hk)) rfl rfl
theorem close_any (b : Nat) (M : MM) (c : Int) (o : OpV) (w : World) (h : MdAt w b M) :
    Calls Tryz.prog 144 #[.pointer (some ⟨b, 0, none⟩), .int .i64 c, .agg #[.int .u8 o.kind, .int .i64 o.slot, .int .i64 o.at_, .int .i64 o.n, .int .u32 o.id, .int .u8 o.grav, .string o.text]] w (Post b w (cloS M.st) M) := by
  have ho := fun W hW => open_any b M W hW
  have hE := ed2_start w o
  have hM0 := h.below hE.bl
  have f3 := hM0.f 3
  have c3 := hM0.c3
  have hrB : w.heap.size ≤ w.heap.size + 1 := by omega
  cases hc : M.closed with
  | true =>
    have hS : cloS M.st = (failR 13, M.st) := if_pos hc
    simp only [hc, if_true] at ho
    rw [hS]
    go_enter Tryz.func144, Tryz.ntmps144
    go_wp2_with (first | (go_at_call 189; refine (ho _ hM0).mono ?_; rintro e w1 ⟨rfl, rfl⟩) | (go_at_call 99; refine (fail_any _ _).mono ?_; rintro e v7 ⟨rfl, hb7⟩; have hE7 := hE.on hb7; have hst := res_st hE7.res rfl))
    exact ⟨rfl, _, results_cell_row rfl _ _ _ _ _ _ _ rfl (setRow_heap _ _ _ _ _ _ hE7.res) Tryz.underlying51 rfl (by kernel_rfl), rfl, M, (hM0.below hb7).row hE7.res _, rfl, (KeepF.of_below hE7.bl).row hrB _, fun k hk => .inl hk⟩
  | false =>
    have hS : cloS M.st = ({}, { M.st with closed := true }) := by unfold cloS; rw [if_neg (by show ¬ (M.closed = true); simp [hc])]
    simp only [hc, Bool.false_eq_true, if_false] at ho
    rw [hS]
    have hM1 := hM0.setClosed
    have hz1 := (setCell_ne _ ⟨b, 3, none⟩ (.bool true) (w.heap.size + 1) (by show w.heap.size + 1 ≠ b; have := (Array.getElem?_eq_some_iff.1 h.blk).1; omega)).trans hE.res
    have hst := res_st hz1 rfl
    go_enter Tryz.func144, Tryz.ntmps144
    go_wp2_with (go_at_call 189; refine (ho _ hM0).mono ?_; rintro e w1 ⟨rfl, rfl⟩)
    exact ⟨rfl, _, results_cell_row rfl _ _ _ _ _ _ _ rfl (setRow_heap _ _ _ _ _ _ hz1) Tryz.underlying51 rfl (by kernel_rfl), rfl, _, hM1.row hz1 _, rfl, ((KeepF.of_below hE.bl).trans (KeepF.set (F := M.fp b) (a := ⟨b, 3, none⟩) (.inl rfl) _)).row hrB _, fun k hk => .inl hk⟩
theorem sub_ne {W : World} {b c r gs cs g cp : Nat} {M : MM} {S : SeM} {cur rc : Array Value} (h : MdAt W b M) (hA : SeatAt W M c S gs cs g cp cur) (hr : W.heap[r]? = some (.cells rc 51 (0, 0))) : b ≠ gs ∧ r ≠ gs := by
  have h1 := h.seats
  rw [hA.sv] at h1
  obtain ⟨curS, hgs⟩ : ∃ curS, W.heap[gs]? = some (.cells curS 139 (0, 0)) := by
    rcases h1.2 with ⟨e1, _⟩ | ⟨g', _, cu, e1, _, hg, _⟩
    · injection e1 with e1; cases e1
    · injection e1 with e1; injection e1 with e1; injection e1 with e1; subst e1; exact ⟨cu, hg⟩
  refine ⟨fun e => ?_, fun e => ?_⟩
  · subst e; have := h.blk; rw [hgs] at this; injection this with this; injection this with _ h2 _; exact absurd h2 (by decide)
  · subst e; rw [hgs] at hr; injection hr with this; injection this with _ h2 _; exact absurd h2 (by decide)
theorem fp_sub {b c : Nat} {M : MM} {S : SeM} (hS : M.seats[c]? = some S) (k : Nat) : (M.putSub c S).fp b k ↔ M.fp b k := by
  have hmem := List.mem_of_getElem? hS
  obtain ⟨hc, hSe⟩ := List.getElem?_eq_some_iff.1 hS
  constructor
  · rintro (h | h | ⟨S', hS', h⟩)
    · exact .inl h
    · exact .inr (.inl h)
    · rcases mem_set_or hS' with rfl | ⟨d, hd, hS'⟩
      · exact .inr (.inr ⟨S, hmem, h⟩)
      · exact .inr (.inr ⟨S', List.mem_of_getElem? hS', h⟩)
  · rintro (h | h | ⟨S', hS', h⟩)
    · exact .inl h
    · exact .inr (.inl h)
    · obtain ⟨d, hd, e⟩ := List.getElem_of_mem hS'
      by_cases hdc : c = d
      · subst hdc
        rw [hSe] at e; subst e
        exact .inr (.inr ⟨{ S with sub := true }, List.mem_iff_getElem.2 ⟨c, by show c < (M.seats.set c _).length; rw [List.length_set]; exact hc, by show (M.seats.set c _)[c]'_ = _; rw [List.getElem_set_self]⟩, h⟩)
      · exact .inr (.inr ⟨S', List.mem_iff_getElem.2 ⟨d, by show d < (M.seats.set c _).length; rw [List.length_set]; exact hd, by show (M.seats.set c _)[d]'_ = _; rw [List.getElem_set_ne hdc]; exact e⟩, h⟩)
theorem subscribe_any (b c : Nat) (M : MM) (o : OpV) (w : World) (h : MdAt w b M) (S : SeM) (hS : M.seats[c]? = some S) (hcl : M.seats.length ≤ 8) :
    Calls Tryz.prog 142 #[.pointer (some ⟨b, 0, none⟩), .int .i64 (c : Int), .agg #[.int .u8 o.kind, .int .i64 o.slot, .int .i64 o.at_, .int .i64 o.n, .int .u32 o.id, .int .u8 o.grav, .string o.text]] w (Post b w (subS M.st c) M) := by
  obtain ⟨hc, _⟩ := List.getElem?_eq_some_iff.1 hS
  have ho := fun W hW => open_any b M W hW
  have hE := ed2_start w o
  have hM0 := h.below hE.bl
  have hrB : w.heap.size ≤ w.heap.size + 1 := by omega
  obtain ⟨gs, cs, g, cp, cur, hA⟩ := hM0.seatAt hS
  have c5 := hM0.c5 hA.sv
  have a0 := hA.c0
  have f0 := hA.f0
  have c2 := hM0.c2
  have e0 : M.st.seat c = S.st := MM.seat_st hS
  cases hs : S.sub with
  | true =>
    have hR : subS M.st c = (failR 18, M.st) := by unfold subS; rw [if_pos (by rw [e0]; exact hs)]
    rw [hR]
    go_enter Tryz.func142, Tryz.ntmps142
    go_wp2_with (go_at_call 99; refine (fail_any _ _).mono ?_; rintro e v7 ⟨rfl, hb7⟩; have hE7 := hE.on hb7; have hst := res_st hE7.res rfl)
    exact ⟨rfl, _, results_cell_row rfl _ _ _ _ _ _ _ rfl (setRow_heap _ _ _ _ _ _ hE7.res) Tryz.underlying51 rfl (by kernel_rfl), rfl, M, (hM0.below hb7).row hE7.res _, rfl, (KeepF.of_below hE7.bl).row hrB _, fun k hk => .inl hk⟩
  | false =>
    cases hl : M.closed with
    | true =>
      have hR : subS M.st c = (failR 13, M.st) := by unfold subS; rw [if_neg (by rw [e0]; show ¬ (S.sub = true); simp [hs]), if_pos (by exact hl)]
      simp only [hl, if_true] at ho
      rw [hR]
      go_enter Tryz.func142, Tryz.ntmps142
      go_wp2_with (first | (go_at_call 189; refine (ho _ hM0).mono ?_; rintro e w1 ⟨rfl, rfl⟩) | (go_at_call 99; refine (fail_any _ _).mono ?_; rintro e v7 ⟨rfl, hb7⟩; have hE7 := hE.on hb7; have hst := res_st hE7.res rfl))
      exact ⟨rfl, _, results_cell_row rfl _ _ _ _ _ _ _ rfl (setRow_heap _ _ _ _ _ _ hE7.res) Tryz.underlying51 rfl (by kernel_rfl), rfl, M, (hM0.below hb7).row hE7.res _, rfl, (KeepF.of_below hE7.bl).row hrB _, fun k hk => .inl hk⟩
    | false =>
      have hR : subS M.st c = ({ rev := M.number }, M.st.put c { M.st.seat c with sub := true }) := by unfold subS; rw [if_neg (by rw [e0]; show ¬ (S.sub = true); simp [hs]), if_neg (by show ¬ (M.closed = true); simp [hl])]; rfl
      simp only [hl, Bool.false_eq_true, if_false] at ho
      rw [hR]
      have hM1 := hM0.putSub hS hA
      have hgne : b ≠ gs ∧ w.heap.size + 1 ≠ gs := sub_ne hM0 hA hE.res
      have hz1 := (setCell_ne _ ⟨gs, c * 2, none⟩ (.bool true) (w.heap.size + 1) hgne.2).trans hE.res
      have d2 := (show (World.setCell _ ⟨gs, c * 2, none⟩ (.bool true)).cell? ⟨b, 2, none⟩ = some (.int .i64 M.number) from hM1.c2)
      have hst := res_st hz1 rfl
      have hfp : M.fp b gs := .inr (.inl (by rw [hA.sv]; rfl))
      go_enter Tryz.func142, Tryz.ntmps142
      go_wp2_with (go_at_call 189; refine (ho _ hM0).mono ?_; rintro e w1 ⟨rfl, rfl⟩)
      exact ⟨rfl, _, results_cell_row rfl _ _ _ _ _ _ _ rfl (setRow_heap _ _ _ _ _ _ hz1) Tryz.underlying51 rfl (by kernel_rfl), rfl, _, hM1.row hz1 _, MM.putSub_st hS, ((KeepF.of_below hE.bl).trans (KeepF.set (F := M.fp b) (a := ⟨gs, c * 2, none⟩) hfp _)).row hrB _, fun k hk => .inl ((fp_sub hS k).1 hk)⟩
theorem receive_any (b c : Nat) (M : MM) (o : OpV) (w : World) (h : MdAt w b M) (S : SeM) (hS : M.seats[c]? = some S) (hcl : M.seats.length ≤ 8) :
    Calls Tryz.prog 143 #[.pointer (some ⟨b, 0, none⟩), .int .i64 (c : Int), .agg #[.int .u8 o.kind, .int .i64 o.slot, .int .i64 o.at_, .int .i64 o.n, .int .u32 o.id, .int .u8 o.grav, .string o.text]] w (Post b w (recS M.st c) M) := by
  obtain ⟨hc, _⟩ := List.getElem?_eq_some_iff.1 hS
  have ho := fun W hW => open_any b M W hW
  have hE := ed2_start w o
  have hM0 := h.below hE.bl
  have hrB : w.heap.size ≤ w.heap.size + 1 := by omega
  obtain ⟨gs, cs, g, cp, cur, hA⟩ := hM0.seatAt hS
  have c5 := hM0.c5 hA.sv
  have a0 := hA.c0
  have e0 : M.st.seat c = S.st := MM.seat_st hS
  cases hs : S.sub with
  | false =>
    have hR : recS M.st c = (failR 19, M.st) := by unfold recS; rw [if_pos (by rw [e0]; show (!S.sub) = true; simp [hs])]
    rw [hR]
    go_enter Tryz.func143, Tryz.ntmps143
    go_wp2_with (go_at_call 99; refine (fail_any _ _).mono ?_; rintro e v7 ⟨rfl, hb7⟩; have hE7 := hE.on hb7; have hst := res_st hE7.res rfl)
    exact ⟨rfl, _, results_cell_row rfl _ _ _ _ _ _ _ rfl (setRow_heap _ _ _ _ _ _ hE7.res) Tryz.underlying51 rfl (by kernel_rfl), rfl, M, (hM0.below hb7).row hE7.res _, rfl, (KeepF.of_below hE7.bl).row hrB _, fun k hk => .inl hk⟩
  | true =>
    cases hl : M.closed with
    | true =>
      have hR : recS M.st c = (failR 13, M.st) := by unfold recS; rw [if_neg (by rw [e0]; show ¬ ((!S.sub) = true); simp [hs]), if_pos (by exact hl)]
      simp only [hl, if_true] at ho
      rw [hR]
      go_enter Tryz.func143, Tryz.ntmps143
      go_wp2_with (first | (go_at_call 189; refine (ho _ hM0).mono ?_; rintro e w1 ⟨rfl, rfl⟩) | (go_at_call 99; refine (fail_any _ _).mono ?_; rintro e v7 ⟨rfl, hb7⟩; have hE7 := hE.on hb7; have hst := res_st hE7.res rfl))
      exact ⟨rfl, _, results_cell_row rfl _ _ _ _ _ _ _ rfl (setRow_heap _ _ _ _ _ _ hE7.res) Tryz.underlying51 rfl (by kernel_rfl), rfl, M, (hM0.below hb7).row hE7.res _, rfl, (KeepF.of_below hE7.bl).row hrB _, fun k hk => .inl hk⟩
    | false =>
      have hR : recS M.st c = (failR 17, M.st) := by unfold recS; rw [if_neg (by rw [e0]; show ¬ ((!S.sub) = true); simp [hs]), if_neg (by show ¬ (M.closed = true); simp [hl])]
      simp only [hl, Bool.false_eq_true, if_false] at ho
      rw [hR]
      go_enter Tryz.func143, Tryz.ntmps143
      go_wp2_with (first | (go_at_call 189; refine (ho _ hM0).mono ?_; rintro e w1 ⟨rfl, rfl⟩) | (go_at_call 99; refine (fail_any _ _).mono ?_; rintro e v7 ⟨rfl, hb7⟩; have hE7 := hE.on hb7; have hst := res_st hE7.res rfl))
      exact ⟨rfl, _, results_cell_row rfl _ _ _ _ _ _ _ rfl (setRow_heap _ _ _ _ _ _ hE7.res) Tryz.underlying51 rfl (by kernel_rfl), rfl, M, (hM0.below hb7).row hE7.res _, rfl, (KeepF.of_below hE7.bl).row hrB _, fun k hk => .inl hk⟩
end Go.Proofs.YtdeiocppghhfdaaGreat
namespace Go.Proofs.YtdeiocppghhfdaaGreat
set_option linter.unusedVariables false
set_option linter.unusedSimpArgs false
set_option maxRecDepth 100000
set_option maxHeartbeats 8000000
open Go.RowKit Go.Lib Go.Shelf
theorem static_any (b : Nat) (M : MM) (c : Int) (o : OpV) (w : World) (h : MdAt w b M) (hi : OpIn o) (hcl : M.seats.length ≤ 8) :
    Calls Tryz.prog 100 #[.pointer (some ⟨b, 0, none⟩), .int .i64 c, .agg #[.int .u8 o.kind, .int .i64 o.slot, .int .i64 o.at_, .int .i64 o.n, .int .u32 o.id, .int .u8 o.grav, .string o.text]] w fun r w' => r = .returned (.int .i64 (statE M.st c o)) ∧ Below w.heap.size w w' := by
  obtain ⟨ag, cs, hsv⟩ := own_slice h.seats
  have c5 := fun u => Lib.cell?_alloc_some u (h.c5 hsv)
  have hB := fun u => (Below.refl w.heap.size w).alloc (Nat.le_refl _) u
  have hlen : M.st.seats.length = M.seats.length := List.length_map ..
  by_cases h0 : c < 0
  · have hR : statE M.st c o = 3 := by unfold statE; rw [if_pos (.inl h0)]
    rw [hR]
    go_enter Tryz.func100, Tryz.ntmps100
    go_wp2
    go_returns
    exact ⟨rfl, hB _⟩
  · by_cases h1 : (M.seats.length : Int) ≤ c
    · have hR : statE M.st c o = 3 := by unfold statE; rw [if_pos (.inr (by rw [hlen]; exact h1))]
      rw [hR]
      go_enter Tryz.func100, Tryz.ntmps100
      go_wp2
      go_returns
      exact ⟨rfl, hB _⟩
    · have hR : statE M.st c o = opE o := by unfold statE; rw [if_neg (by rw [hlen]; omega)]
      rw [hR]
      go_enter Tryz.func100, Tryz.ntmps100
      go_wp2_with (go_at_call 136; refine (clientCheck_any o _).mono ?_; rintro e w1 ⟨rfl, hb1⟩; have hb2 := (hB _).trans (hb1.mono (by simp)))
      go_returns
      exact ⟨rfl, hb2⟩
end Go.Proofs.YtdeiocppghhfdaaGreat
namespace Go.Proofs.YtdeiocppghhfdaaGreat
set_option linter.unusedVariables false
set_option linter.unusedSimpArgs false
set_option maxRecDepth 100000
set_option maxHeartbeats 8000000
open Go.RowKit Go.Lib Go.Shelf
attribute [local go_sem, local simp] resF resL_len resL_ne rset0 rset1 rset2 rset3 rset4 rset5
theorem slot_any (b c : Nat) (M : MM) (o : OpV) (w : World) (h : MdAt w b M) (S : SeM) (hS : M.seats[c]? = some S) (hl : S.sl.length ≤ 8) (hcl : M.seats.length ≤ 8) (gs cs g cp : Nat) (cur : Array Value) (hA : SeatAt w M c S gs cs g cp cur) :
    Calls Tryz.prog 198 #[.pointer (some ⟨b, 0, none⟩), .int .i64 (c : Int), .agg #[.int .u8 o.kind, .int .i64 o.slot, .int .i64 o.at_, .int .i64 o.n, .int .u32 o.id, .int .u8 o.grav, .string o.text]] w fun r w' => Below w.heap.size w w' ∧ 
      r = .returned (.tuple #[.pointer (if slotE S.st o = 0 then some ⟨g, o.slot.toNat * 4, none⟩ else none), .int .i64 (slotE S.st o)]) := by
  obtain ⟨hc, _⟩ := List.getElem?_eq_some_iff.1 hS
  have c5 := fun u => Lib.cell?_alloc_some u (h.c5 hA.sv)
  have a1 := fun u => Lib.cell?_alloc_some u hA.c1
  have hB := fun u => (Below.refl w.heap.size w).alloc (Nat.le_refl _) u
  have hcp := hA.cap
  by_cases h0 : o.slot < 0
  · have hR : slotE S.st o = 2 := by unfold slotE; rw [if_pos (.inl h0)]
    rw [hR]
    go_enter Tryz.func198, Tryz.ntmps198
    go_wp2
    go_returns
    exact ⟨hB _, rfl⟩
  · by_cases h1 : (S.sl.length : Int) ≤ o.slot
    · have hR : slotE S.st o = 2 := by unfold slotE; rw [if_pos (.inr (by show ((S.sl.map (fun y : SnM => y.s)).length : Int) ≤ _; rw [List.length_map]; exact h1))]
      rw [hR]
      go_enter Tryz.func198, Tryz.ntmps198
      go_wp2
      go_returns
      exact ⟨hB _, rfl⟩
    · obtain ⟨k, hk⟩ : ∃ k : Nat, o.slot = k := ⟨o.slot.toNat, by omega⟩
      have hk1 : k < S.sl.length := by omega
      have hx := List.getElem?_eq_getElem hk1
      generalize S.sl[k] = x at hx
      have hR : slotE S.st o = if x.s.held then 0 else 16 := by
        unfold slotE
        rw [if_neg (by show ¬ (o.slot < 0 ∨ ((S.sl.map (fun y : SnM => y.s)).length : Int) ≤ o.slot); rw [List.length_map]; omega)]
        show (if ((S.sl.map (fun y : SnM => y.s)).getD o.slot.toNat default).held then (0 : Int) else 16) = _
        rw [List.getD_eq_getElem?_getD, List.getElem?_map, hk, Int.toNat_natCast, hx]
        rfl
      have s0 := fun u => Lib.cell?_alloc_some u (hA.sn k x hx).cells.1.1
      have i1 : ((k : Int) < S.sl.length) = True := by simp; omega
      rw [hR, hk]
      cases hh : x.s.held with
      | true =>
        go_enter Tryz.func198, Tryz.ntmps198
        go_wp2
        go_returns
        exact ⟨hB _, rfl⟩
      | false =>
        go_enter Tryz.func198, Tryz.ntmps198
        go_wp2
        go_returns
        exact ⟨hB _, rfl⟩
end Go.Proofs.YtdeiocppghhfdaaGreat
