/- Clip of runes. -/
import Derived.Test.YtmachjjnhphhbaaRunesE
import Derived.Deep.QuietTactic
import Derived.BigQuiet
namespace Go.Proofs.Ytmachjjnhphhbaa
open Go.RowKit Go.Shelf
attribute [local go_sem] Oper.semAt_some

/-- One result in a cell and a boxed string, of which nothing has been told yet; and told. -/
def I1 (w : World) (s : ByteArray) (pre : List (InS s.size)) (W : World) : Prop := (pre = [] ∧ W.cell? ⟨w.heap.size, 0, none⟩ = some (.string s) ∧ W.cell? ⟨w.heap.size + 1, 0, none⟩ = some (.string ⟨#[]⟩) ∧ W.frozen? ⟨w.heap.size + 1, 0, none⟩ = false) ∧ Below w.heap.size w W
def Ix1 (w : World) (s : ByteArray) (c : Code) (pre : List (InS s.size)) (W : World) : Prop := (c = .ret ∧ ∃ x, pre = [x] ∧ W.cell? ⟨w.heap.size + 1, 0, none⟩ = some (.string (s.extract 0 x.1.toNat))) ∧ Below w.heap.size w W
theorem I1_own (w : World) (s : ByteArray) (B : Nat) (hB : w.heap.size ≤ B) : OwnFrom B (I1 w s) :=
  OwnFrom.and (Own.from (fun _ _ _ _ hs hg hr => ⟨hs.1, cell_kept hs.2.1 hg hr, cell_kept hs.2.2.1 hg hr, (frozen_kept hs.2.2.1 hg hr).trans hs.2.2.2⟩) _) (ownFrom_below (Nat.le_refl _) hB)
theorem Ix1_own (w : World) (s : ByteArray) (B : Nat) (hB : w.heap.size ≤ B) (c : Code) : OwnFrom B (Ix1 w s c) :=
  OwnFrom.and (Own.from (fun _ _ _ _ hs hg hr => by
    obtain ⟨h1, x, h2, h3⟩ := hs
    exact ⟨h1, x, h2, cell_kept h3 hg hr⟩) _) (ownFrom_below (Nat.le_refl _) hB)
theorem I1_start (w : World) (s : ByteArray) (o1 o2 : Obj) : I1 w s [] ((((w.alloc (.cells #[.string s] 9)).alloc (.cells #[.string ⟨#[]⟩] 9)).alloc o1).alloc o2) := by
  have c0 := cell_new_l w (.string s) 9
  have c1 := cell_new_l (w.alloc (.cells #[.string s] 9)) (.string ⟨#[]⟩) 9
  simp only [World.size_alloc] at c1
  refine ⟨⟨rfl, cell_alloc_l _ (cell_alloc_l _ (cell_alloc_l _ c0.1)), cell_alloc_l _ (cell_alloc_l _ c1.1), frozen_alloc_l _ (cell_alloc_l _ c1.1) (frozen_alloc_l _ c1.1 c1.2)⟩, ?_⟩
  exact ((((Below.refl _ w).alloc (Nat.le_refl _) _).alloc (by simp) _).alloc (by simp; omega) _).alloc (by simp; omega) _
theorem I1_round (w W : World) (s : ByteArray) (x : InS s.size) (hc1 : W.cell? ⟨w.heap.size + 1, 0, none⟩ = some (.string ⟨#[]⟩)) (hB : Below w.heap.size w W) :
    KeepsOthers W (W.setCell ⟨w.heap.size + 1, 0, none⟩ (.string (s.extract 0 x.1.toNat))) ∧ Ix1 w s .ret [x] (W.setCell ⟨w.heap.size + 1, 0, none⟩ (.string (s.extract 0 x.1.toNat))) :=
  ⟨KeepsOthers.setCell _ _ _, ⟨rfl, x, rfl, World.cell?_setCell_same' _ _ _ (by rw [hc1]; rfl)⟩, hB.setCell (p := ⟨w.heap.size + 1, 0, none⟩) (by simp) _⟩

theorem clip_eq {s : ByteArray} {a : Int} {m : Nat} {u : ByteArray} (hm : (min (a + 1) ((s.size : Int) + 1)).toNat = m) (hu : u.data.toList = s.data.toList.take (dnF s.data.toList m).1.toNat) : Ending.returned (.string u) = .returned (.string ⟨(clipL s.data.toList a).toArray⟩) := by
  refine ret_str ?_
  have hl : s.data.toList.length = s.size := by simp
  unfold clipL prevL
  rw [hl, hm, hu]

set_option maxHeartbeats 1000000 in
theorem clip_any (s : ByteArray) (a : Int) (w : World) (hs : s.size ≤ 140737488355328) : Calls Try.prog 27 #[.string s, .int .i64 a] w fun e w' => e = .returned (.string ⟨(clipL s.data.toList a).toArray⟩) ∧ Below w.heap.size w w' := by
  refine (callsIn_wide (n := 4)).1 ?_
  have hl : s.data.toList.length = s.size := by simp
  have Hl := Lib.hid hl; clear hl
  refine callsIn_of_wp_marks Try.func27 rfl trivial ?_ rfl
  simp only [Try.ntmps27, List.size_toArray, List.length_cons, List.length_nil, Nat.reduceAdd, Nat.reduceSub, Array.replicate_succ, Array.replicate_zero, List.push_toArray, List.append_toArray, List.nil_append, List.cons_append]
  gi_wp2_with (refine ⟨trivial, ?_⟩; gi_at_call 35; refine (callsIn_wide.2 (falling_any _ _ _)).mono ?_; rintro e w' ⟨rfl, rfl⟩)
  · refine ⟨.string ⟨#[]⟩, by simp [results, Try.f27, go_sem], clip_eq (m := 0) (by omega) (by simp [dnF]), ((Below.refl _ w).alloc (Nat.le_refl _) _).alloc (by simp) _⟩
  · have c2 := cell_new_l ((w.alloc (.cells #[.string s] 9)).alloc (.cells #[.string ⟨#[]⟩] 9)) (.string s) 9
    have c3 := cell_new_l (((w.alloc (.cells #[.string s] 9)).alloc (.cells #[.string ⟨#[]⟩] 9)).alloc (.cells #[.string s] 9)) (.int .i64 s.size) 3
    simp only [World.size_alloc] at c2 c3
    have em : (((s.size + 1) : Nat) : Int) - 1 = s.size := by omega
    rw [← em] at c3 ⊢
    have hm : (min (a + 1) ((s.size : Int) + 1)).toNat = (s.size + 1) := by omega
    have Hm := Lib.hid hm; clear hm em
    refine wpIn_rangeFunc_ownF rfl (by omega) (gf := 37) (lb := #[.pointer (some ⟨w.heap.size + 1 + 1 + 1, 0, none⟩), .pointer (some ⟨w.heap.size + 1 + 1, 0, none⟩)]) rfl trivial (enters_of Try.func37 (by kernel_rfl) rfl)
      (falling_stopsB 3 (by omega) _ _ (w.heap.size + 1 + 1 + 1) s (s.size + 1) hs (by omega) _ c3.1 (cell_alloc_l _ c2.1) (by simp) (by simp) (by omega)) belowK_t (belowK_b (by simp)) (Below.refl _ _) (fun _ => rfl)
      (I1 w s) (Ix1 w s) (I1_own w s _ (by simp; omega)) (Ix1_own w s _ (by simp; omega)) (I1_start w s _ _) ?a1 ?assign ?body ?done ?stop
    case assign =>
      intro l x W K hK
      gi_wp2
      exact hK
    case body =>
      rintro l pre ⟨x, h0, hx⟩ W ⟨⟨rfl, hc0, hc1, hf1⟩, hB⟩ _
      gi_wp2
      exact I1_round w W s ⟨x, h0, hx⟩ hc1 hB
    case done =>
      rintro D ys W hD hys0 ⟨⟨rfl, hc0, hc1, hf1⟩, hB⟩ hK
      have Hys := Lib.hid hys0; clear hys0
      gi_wp2
      have hK' := (KeepsOthers.setCell W ⟨w.heap.size + 1, 0, none⟩ (.string ⟨#[]⟩)).same D _ hK rfl
      refine ⟨by simp, .inl ⟨_, _, rfl, run_takeDeferred hK', ?_⟩⟩
      have hc5 := cell_kept (World.cell?_setCell_same' W ⟨w.heap.size + 1, 0, none⟩ (.string ⟨#[]⟩) (by rw [hc1]; rfl)) (grownBy_putObj' _ D (.deferred none)) (fun r e => by cases e; exact ⟨_, hK', rfl⟩)
      refine ⟨.string ⟨#[]⟩, by simp [results, Try.f27, go_sem, hc5], clip_eq Hm.out ?_, (hB.setCell (p := ⟨w.heap.size + 1, 0, none⟩) (by simp) _).trans (belowK_b (w := w) (Nat.le_refl _) _ D _ _ (by simp at hD; omega) hK' rfl rfl)⟩
      rw [dnList_head, ← Hys.out]
      rfl
    case stop =>
      rintro D c pre W hD hpre ⟨⟨rfl, x, rfl, hc1⟩, hB⟩ hK
      have Hpre := Lib.hid hpre; clear hpre
      gi_wp2
      refine ⟨by simp, .inl ⟨_, _, rfl, run_takeDeferred hK, ?_⟩⟩
      have hc5 := cell_kept hc1 (grownBy_putObj' _ D (.deferred none)) (fun r e => by cases e; exact ⟨_, hK, rfl⟩)
      refine ⟨.string (s.extract 0 x.1.toNat), by simp [results, Try.f27, go_sem, hc5], clip_eq Hm.out ?_, hB.trans (belowK_b (w := w) (Nat.le_refl _) W D _ _ (by simp at hD; omega) hK rfl rfl)⟩
      obtain ⟨tl, htl⟩ := Hpre.out
      rw [dnList_head, ← htl, Lib.extract_data]
      rfl
  · have c2 := cell_new_l ((w.alloc (.cells #[.string s] 9)).alloc (.cells #[.string ⟨#[]⟩] 9)) (.string s) 9
    have c3 := cell_new_l (((w.alloc (.cells #[.string s] 9)).alloc (.cells #[.string ⟨#[]⟩] 9)).alloc (.cells #[.string s] 9)) (.int .i64 a) 3
    simp only [World.size_alloc] at c2 c3
    have em : (((a.toNat + 1) : Nat) : Int) - 1 = a := by omega
    rw [← em] at c3 ⊢
    have hm : (min (a + 1) ((s.size : Int) + 1)).toNat = (a.toNat + 1) := by omega
    have Hm := Lib.hid hm; clear hm em
    refine wpIn_rangeFunc_ownF rfl (by omega) (gf := 37) (lb := #[.pointer (some ⟨w.heap.size + 1 + 1 + 1, 0, none⟩), .pointer (some ⟨w.heap.size + 1 + 1, 0, none⟩)]) rfl trivial (enters_of Try.func37 (by kernel_rfl) rfl)
      (falling_stopsB 3 (by omega) _ _ (w.heap.size + 1 + 1 + 1) s (a.toNat + 1) hs (by omega) _ c3.1 (cell_alloc_l _ c2.1) (by simp) (by simp) (by omega)) belowK_t (belowK_b (by simp)) (Below.refl _ _) (fun _ => rfl)
      (I1 w s) (Ix1 w s) (I1_own w s _ (by simp; omega)) (Ix1_own w s _ (by simp; omega)) (I1_start w s _ _) ?ba1 ?bassign ?bbody ?bdone ?bstop
    case bassign =>
      intro l x W K hK
      gi_wp2
      exact hK
    case bbody =>
      rintro l pre ⟨x, h0, hx⟩ W ⟨⟨rfl, hc0, hc1, hf1⟩, hB⟩ _
      gi_wp2
      exact I1_round w W s ⟨x, h0, hx⟩ hc1 hB
    case bdone =>
      rintro D ys W hD hys0 ⟨⟨rfl, hc0, hc1, hf1⟩, hB⟩ hK
      have Hys := Lib.hid hys0; clear hys0
      gi_wp2
      have hK' := (KeepsOthers.setCell W ⟨w.heap.size + 1, 0, none⟩ (.string ⟨#[]⟩)).same D _ hK rfl
      refine ⟨by simp, .inl ⟨_, _, rfl, run_takeDeferred hK', ?_⟩⟩
      have hc5 := cell_kept (World.cell?_setCell_same' W ⟨w.heap.size + 1, 0, none⟩ (.string ⟨#[]⟩) (by rw [hc1]; rfl)) (grownBy_putObj' _ D (.deferred none)) (fun r e => by cases e; exact ⟨_, hK', rfl⟩)
      refine ⟨.string ⟨#[]⟩, by simp [results, Try.f27, go_sem, hc5], clip_eq Hm.out ?_, (hB.setCell (p := ⟨w.heap.size + 1, 0, none⟩) (by simp) _).trans (belowK_b (w := w) (Nat.le_refl _) _ D _ _ (by simp at hD; omega) hK' rfl rfl)⟩
      rw [dnList_head, ← Hys.out]
      rfl
    case bstop =>
      rintro D c pre W hD hpre ⟨⟨rfl, x, rfl, hc1⟩, hB⟩ hK
      have Hpre := Lib.hid hpre; clear hpre
      gi_wp2
      refine ⟨by simp, .inl ⟨_, _, rfl, run_takeDeferred hK, ?_⟩⟩
      have hc5 := cell_kept hc1 (grownBy_putObj' _ D (.deferred none)) (fun r e => by cases e; exact ⟨_, hK, rfl⟩)
      refine ⟨.string (s.extract 0 x.1.toNat), by simp [results, Try.f27, go_sem, hc5], clip_eq Hm.out ?_, hB.trans (belowK_b (w := w) (Nat.le_refl _) W D _ _ (by simp at hD; omega) hK rfl rfl)⟩
      obtain ⟨tl, htl⟩ := Hpre.out
      rw [dnList_head, ← htl, Lib.extract_data]
      rfl
end Go.Proofs.Ytmachjjnhphhbaa
