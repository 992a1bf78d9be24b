/- digits of the reference. -/
import Derived.Test.YtipljlejhdggnaaDoorHanB
import Derived.Lib.SmallJoins
namespace Go.Proofs.YtipljlejhdggnaaDoor
open Go.RowKit

theorem conv1 (W : World) (a : Int) : (convert 65 9 (.slice (some ⟨W.heap.size, 0, none⟩) 1 1)).run Tryd.prog (W.alloc (.cells #[.int .u8 a] 5)) = .ok (.string ⟨#[UInt8.ofNat a.toNat]⟩) (W.alloc (.cells #[.int .u8 a] 5)) := by
  rw [run_convert_bytes_string _ _ _ 5 _ _ _ Tryd.underlying65 Tryd.underlying5 Tryd.underlying9]
  have hl := run_loadCells_list (P := Tryd.prog) (W.alloc (.cells #[.int .u8 a] 5)) ⟨W.heap.size, 0, none⟩ [.int .u8 a] (fun j v hj => by
    have e : (⟨W.heap.size, 0, none⟩ : Addr).add j = ⟨W.heap.size, j, none⟩ := by unfold Addr.add; split <;> simp_all
    rw [e, World.cell?_alloc_new]; simpa using hj)
  exact run_bytesToString (P := Tryd.prog) _ _ 1 1 [a] hl

theorem dec_step (u : Nat) (h : ¬ u < 10) : Lib.decDigits u = Lib.decDigits (u / 10) ++ Lib.decDigits (u % 10) := by
  rw [Lib.decDigits, dif_neg h, Lib.decDigits_one (i := u % 10) (by omega)]

theorem dec_len : ∀ (k u : Nat), u < 10 ^ k → (Lib.decDigits u).length ≤ k + 1
  | k, u, h => by
    by_cases h10 : u < 10
    · rw [Lib.decDigits_one h10]; simp
    · rw [dec_step u h10, List.length_append, Lib.decDigits_one (i := u % 10) (by omega)]
      cases k with
      | zero => simp at h; omega
      | succ k =>
        have := dec_len k (u / 10) (by rw [Nat.pow_succ] at h; omega)
        simp; omega

set_option maxHeartbeats 1000000 in
theorem digits_any : ∀ (k u : Nat) (w : World), u < 10 ^ k → u < 18446744073709551616 → 1 ≤ k → k ≤ 20 → Calls Tryd.prog 35 #[.int .u64 u] w fun e w' => e = .returned (.string ⟨(Lib.decDigits u).toArray⟩) ∧ Below w.heap.size w w' := by
  have kc := conv1
  intro k
  induction k with
  | zero => intro u w _ _ h; omega
  | succ k ih =>
    intro u w hu hu2 _ hk
    by_cases h10 : u < 10
    · have H10 := Lib.hid h10
      clear hu hu2
      go_enter Tryd.func35, Tryd.ntmps35
      go_wp2_with fail
      go_ret
      refine ⟨?_, (Below.refl _ _).alloc (Nat.le_refl _) _⟩
      rw [Lib.decDigits_one H10.out]
      rfl
    · have hk1 : 1 ≤ k := by
        rcases k with _ | k
        · simp at hu; omega
        · omega
      have hq : u / 10 < 10 ^ k := by rw [Nat.pow_succ] at hu; omega
      have hr : u % 10 < 10 ^ k := Nat.lt_of_lt_of_le (Nat.mod_lt _ (by omega)) (by
        calc 10 = 10 ^ 1 := rfl
          _ ≤ 10 ^ k := Nat.pow_le_pow_right (by omega) hk1)
      have c1 := fun W => ih (u / 10) W hq (by omega) hk1 (by omega)
      have c2 := fun W => ih (u % 10) W hr (by omega) hk1 (by omega)
      have e1 : ((u / 10 : Nat) : Int) = (u : Int) / 10 := by omega
      have e2 : ((u % 10 : Nat) : Int) = (u : Int) % 10 := by omega
      rw [e1] at c1
      rw [e2] at c2
      have hl : ¬ 9223372036854775807 < (Lib.decDigits (u / 10)).length + (Lib.decDigits (u % 10)).length := by
        have := dec_len k _ hq
        have := dec_len k _ hr
        omega
      have Hd := Lib.hid (dec_step u h10)
      have ht : decide ((u : Int) < 10) = false := by simp; omega
      clear hu h10 hq hr ih e1 e2
      go_enter Tryd.func35, Tryd.ntmps35
      go_wp2_with fail
      refine (c1 _).mono ?_
      rintro e w1 ⟨rfl, hB1⟩
      go_wp2_with fail
      refine (c2 _).mono ?_
      rintro e w2 ⟨rfl, hB2⟩
      go_wp2_with fail
      go_ret
      refine ⟨?_, hB1.trans (hB2.mono hB1.size)⟩
      rw [Hd.out]
      refine congrArg Ending.returned ?_
      refine congrArg Value.string ?_
      rw [ByteArray.mk_append_mk]
end Go.Proofs.YtipljlejhdggnaaDoor
