/- The leaf functions of runes and of its reference: what each call returns. -/
import Derived.Test.YtmachjjnhphhbaaChecked
import Derived.Test.YtmachjjnhphhbaaRunesP
import Derived.WalkKit
import Derived.WalkSpells
import Derived.WalkLawsBesides
import Derived.Lib.Hide
import Derived.Handy
import Derived.Laws.IdiomStrings
namespace Go.Proofs.Ytmachjjnhphhbaa
open Go.RowKit

theorem ret_bool {a b : Bool} (h : a = b) : Ending.returned (.bool a) = .returned (.bool b) := by rw [h]
theorem ret_int {k : IntKind} {a b : Int} (h : a = b) : Ending.returned (.int k a) = .returned (.int k b) := by rw [h]

set_option maxHeartbeats 400000 in
theorem continues_any (b : Int) (w : World) : Calls Try.prog 29 #[.int .u8 b] w fun e w' => e = .returned (.bool (contB b)) ∧ w = w' := by
  go_enter Try.func29, Try.ntmps29
  go_wp2
  all_goals (go_ret; exact ⟨ret_bool (by simp [contB]; omega), rfl⟩)

set_option maxHeartbeats 400000 in
theorem refCont_any (b : Int) (w : World) : Calls Try.prog 30 #[.int .u8 b] w fun e w' => e = .returned (.bool (contB b)) ∧ w = w' := by
  go_enter Try.func30, Try.ntmps30
  go_wp2
  all_goals (go_ret; exact ⟨ret_bool (by rw [Bool.eq_iff_iff]; simp [contB]; omega), rfl⟩)

set_option maxHeartbeats 400000 in
theorem announced_any (b : Int) (w : World) : Calls Try.prog 31 #[.int .u8 b] w fun e w' => e = .returned (.int .i64 (annB b)) ∧ w = w' := by
  go_enter Try.func31, Try.ntmps31
  go_wp2
  all_goals (go_ret; exact ⟨ret_int (by unfold annB; repeat (first | omega | split)), rfl⟩)

set_option maxHeartbeats 400000 in
theorem length_any (b : Int) (w : World) : Calls Try.prog 32 #[.int .i64 b] w fun e w' => e = .returned (.int .i64 (lenB b)) ∧ w = w' := by
  go_enter Try.func32, Try.ntmps32
  go_wp2
  all_goals (go_ret; exact ⟨ret_int (by unfold lenB runeB; simp only [decide_eq_false_iff_not]; repeat (first | omega | split)), rfl⟩)

set_option maxHeartbeats 400000 in
theorem refRune_any (b : Int) (w : World) : Calls Try.prog 33 #[.int .i64 b] w fun e w' => e = .returned (.bool (runeB b)) ∧ w = w' := by
  go_enter Try.func33, Try.ntmps33
  go_wp2
  all_goals (go_ret; exact ⟨ret_bool (by unfold runeB; rw [Bool.eq_iff_iff]; simp; omega), rfl⟩)

set_option maxHeartbeats 400000 in
theorem boundary_any (s : ByteArray) (n : Int) (w : World) : Calls Try.prog 17 #[.string s, .int .i64 n] w fun e w' => e = .returned (.bool (bndB s.data.toList n)) ∧ w = w' := by
  have hl : s.data.toList.length = s.size := by simp
  have hb : ∀ h : n.toNat < s.size, ((s[n.toNat]'h).toNat : Int) = byt s.data.toList n.toNat := fun h => byt_mk s _ _
  have HB := Lib.hid hb; clear hb
  have HL := Lib.hid hl; clear hl
  go_enter Try.func17, Try.ntmps17
  go_wp2_with (go_at_call 29; refine (continues_any _ _).mono ?_; rintro e w' ⟨rfl, rfl⟩)
  all_goals (go_ret; refine ⟨ret_bool (bnd_close ?_), rfl⟩; rw [HL.out]; first | (rw [← HB.out (by omega)]; simp [*]; done) | (simp [*]; done) | (simp [*]; omega))

set_option maxHeartbeats 400000 in
theorem refBoundary_any (s : ByteArray) (n : Int) (w : World) : Calls Try.prog 18 #[.string s, .int .i64 n] w fun e w' => e = .returned (.bool (bndB s.data.toList n)) ∧ w = w' := by
  have hl : s.data.toList.length = s.size := by simp
  have hb : ∀ h : n.toNat < s.size, ((s[n.toNat]'h).toNat : Int) = byt s.data.toList n.toNat := fun h => byt_mk s _ _
  have HB := Lib.hid hb; clear hb
  have HL := Lib.hid hl; clear hl
  go_enter Try.func18, Try.ntmps18
  go_wp2_with (go_at_call 30; refine (refCont_any _ _).mono ?_; rintro e w' ⟨rfl, rfl⟩)
  all_goals (go_ret; refine ⟨ret_bool (bnd_close ?_), rfl⟩; rw [HL.out]; first | (rw [← HB.out (by omega)]; simp [*]; done) | (simp [*]; done) | (simp [*]; omega))


end Go.Proofs.Ytmachjjnhphhbaa
