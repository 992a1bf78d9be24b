/- is, valid and awake. -/
import Derived.Test.YtipljlejhdggnaaDoorHanU
import Derived.Test.YtipljlejhdggnaaDoorHanX
namespace Go.Proofs.YtipljlejhdggnaaDoor
open Go.RowKit Go.Lib

set_option maxHeartbeats 400000 in
theorem is_yes (h e : Int) (w : World) : Calls Tryd.prog 29 #[.int .u64 h, .int .i64 e, .int .u64 h, .int .i64 e] w fun x w' => x = .returned (.bool true) ∧ w = w' := by
  go_enter Tryd.func29, Tryd.ntmps29
  go_wp2
  go_returns
  exact ⟨ret_bool (by simp), rfl⟩

theorem pv1 : parseP [51, 46, 50] = (131075, 0) := by decide +kernel
theorem pv2 : parseP [51, 46, 48, 50] = (0, 4) := by decide +kernel
theorem tv : txtL 131075 = [51, 46, 50] := by
  have e1 : (slotOf 131075).toNat = 3 := by decide +kernel
  have e2 : (genOf 131075).toNat = 2 := by decide +kernel
  rw [txt_yes (by decide +kernel), e1, e2, dec_one (by omega), dec_one (by omega)]
  decide +kernel
theorem sv0 : sorted [131075, 65536, 65539, 65536] = [65536, 65536, 65539, 131075] := by
  unfold sorted
  simp [List.mergeSort, List.MergeSort.Internal.splitInTwo, ltH]
theorem sv1 : sorted [0, 65536, 1, 65536, 0, 18446744073709551615, 131072, 65537] = [0, 0, 65536, 65536, 131072, 1, 65537, 18446744073709551615] := by
  unfold sorted
  simp [List.mergeSort, List.MergeSort.Internal.splitInTwo, ltH]
theorem sv : setH [131075, 65536, 65539, 65536] = [65536, 65539, 131075] := by
  unfold setH; rw [sv0]; decide +kernel
theorem sv2 : setH [0, 65536, 1, 65536, 0, 18446744073709551615, 131072, 65537] = refSet [0, 65536, 1, 65536, 0, 18446744073709551615, 131072, 65537] := by
  unfold setH; rw [sv1]; decide +kernel
theorem mv : makeH 3 2 = 131075 ∧ makeE 3 2 = 0 ∧ makeH 16384 1 = 0 ∧ makeE 16384 1 = 3 ∧ nextH 131075 = 196611 ∧ nextE 131075 = 0 ∧ chkE 131075 = 0 ∧ chkE 3 = 2 := by decide +kernel

theorem lits {W : World} {T : TypeId} (zs : List UInt64) : ∀ j u, zs[j]? = some u → (W.alloc (.cells (zs.map hv).toArray T)).cell? ⟨W.heap.size, 0 + j, none⟩ = some (hv u) := by
  intro j u hj
  rw [Nat.zero_add, World.cell?_alloc_new]
  simp [hj]

/-- handle.Sort of a new row. -/
theorem sort_new (zs : List UInt64) (cs : Array Value) (T : TypeId) (n c : Nat) (hc : cs = (zs.map hv).toArray) (hl : n = zs.length) (hn : zs.length ≤ 1000000) (W : World) :
    Calls Tryd.prog 31 #[.slice (some ⟨W.heap.size, 0, none⟩) n c] (W.alloc (.cells cs T)) fun e w' => ∃ v, e = .returned v ∧ w'.ownsRow (W.heap.size + 1) 23 1 v (setH zs).length ((setH zs).map hv) ∧ Below (W.heap.size + 1) (W.alloc (.cells cs T)) w' := by
  subst hc hl
  have h := sort_some W.heap.size 0 c zs (W.alloc (.cells (zs.map hv).toArray T)) hn (lits zs)
  rw [World.size_alloc] at h
  exact h
theorem row_new (zs : List UInt64) (cs : Array Value) (T : TypeId) (n c : Nat) (hc : cs = (zs.map hv).toArray) (hl : n = zs.length) (W : World) : Row (W.alloc (.cells cs T)) (.slice (some ⟨W.heap.size, 0, none⟩) n c) zs := by
  subst hc hl
  exact .inr ⟨_, 0, c, rfl, lits zs⟩

set_option maxHeartbeats 1000000 in
theorem awake_any (w : World) (ht : Tab w) : Calls Tryd.prog 11 #[] w fun e w' => e = .returned (.bool true) ∧ Below w.heap.size w w' := by
  obtain ⟨m1, m2, m3, m4, m5, m6, m7, m8⟩ := mv
  have c1 := fun W => make_any 3 2 (by decide) W
  have c2 := fun W => make_any 16384 1 (by decide) W
  have c3 := fun W => next_any 131075 (by decide) (by decide) W
  have c4 := fun W => parse_any (⟨#[51, 46, 50]⟩ : ByteArray) (by decide) W
  have c5 := fun W => parse_any (⟨#[51, 46, 48, 50]⟩ : ByteArray) (by decide) W
  have c6 := fun W hW => text_any 131075 (by decide) (by decide) W hW
  have c7 := fun W => check_any 3 (by decide) (by decide) W
  rw [m1, m2] at c1
  rw [m3, m4] at c2
  rw [m5, m6] at c3
  rw [pv1] at c4
  rw [pv2] at c5
  rw [tv, m7] at c6
  rw [m8] at c7
  clear m1 m2 m3 m4 m5 m6 m7 m8
  go_enter Tryd.func11, Tryd.ntmps11
  go_wp2_with fail
  refine (c1 _).mono ?_
  rintro e w' ⟨rfl, rfl⟩
  go_wp2_with fail
  refine (c2 _).mono ?_
  rintro e w' ⟨rfl, rfl⟩
  go_wp2_with fail
  refine (c3 _).mono ?_
  rintro e w' ⟨rfl, rfl⟩
  go_wp2_with fail
  refine (c4 _).mono ?_
  rintro e w1 ⟨rfl, hB1⟩
  go_wp2_with fail
  refine (c5 _).mono ?_
  rintro e w2 ⟨rfl, hB2⟩
  have hB2 := hB1.trans (hB2.mono hB1.size)
  go_wp2_with fail
  refine (c6 _ (ht.on hB2)).mono ?_
  rintro e w3 ⟨rfl, hB3⟩
  have hB3 := hB2.trans (hB3.mono hB2.size)
  clear hB1 hB2 c1 c2 c3 c4 c5 c6
  go_wp2_with (first | (go_at_call 29; refine (is_yes _ _ _).mono ?_; rintro e w' ⟨rfl, rfl⟩) | (go_at_call 22; refine (c7 _).mono ?_; rintro e w' ⟨rfl, rfl⟩))
  have hs := sort_new [131075, 65536, 65539, 65536] #[.int .u64 131075, .int .u64 65536, .int .u64 65539, .int .u64 65536] 23 4 4 (by kernel_rfl) rfl (by decide) w3
  rw [sv] at hs
  refine hs.mono ?_
  clear hs
  rintro e w4 ⟨v, rfl, hown, hB4⟩
  have hB5 := ((Below.refl w3.heap.size w3).alloc (Nat.le_refl _) (.cells #[.int .u64 131075, .int .u64 65536, .int .u64 65539, .int .u64 65536] 23)).trans (hB4.mono (by omega))
  have hr := Row.own hown rfl
  clear hown hB4
  go_wp2_with fail
  have ha := hr.on ((Below.refl w4.heap.size w4).alloc (Nat.le_refl _) (.cells #[.int .u64 65536, .int .u64 65539, .int .u64 131075] 23))
  have hb := row_new [65536, 65539, 131075] #[.int .u64 65536, .int .u64 65539, .int .u64 131075] 23 3 3 (by kernel_rfl) rfl w4
  refine (eqh_any _ _ _ _ _ ha hb (by decide) (by decide)).mono ?_
  clear ha hb hr
  rintro e w6 ⟨rfl, hB6⟩
  have hB7 := ((Below.refl w4.heap.size w4).alloc (Nat.le_refl _) (.cells #[.int .u64 65536, .int .u64 65539, .int .u64 131075] 23)).trans (hB6.mono (by simp))
  go_wp2_with fail
  go_returns
  exact ⟨rfl, (hB3.trans (hB5.mono hB3.size)).trans (hB7.mono (Nat.le_trans hB3.size hB5.size))⟩
end Go.Proofs.YtipljlejhdggnaaDoor
