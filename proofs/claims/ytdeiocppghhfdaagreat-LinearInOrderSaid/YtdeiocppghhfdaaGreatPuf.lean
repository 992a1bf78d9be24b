/- The texts MdBe. -/
import Derived.Test.YtdeiocppghhfdaaGreatPue
namespace Go.Proofs.YtdeiocppghhfdaaGreat
set_option linter.unusedVariables false
set_option linter.unusedSimpArgs false
set_option maxRecDepth 100000
set_option maxHeartbeats 8000000
open Go.RowKit Go.Lib Go.Shelf
theorem equal_nil (a : Option Addr) (n c : Nat) (w : World) (hn : n ≤ maxLen) : Calls Tryz.prog 155 #[.slice a n c, .slice none 0 0] w fun e w' => e = .returned (.bool (decide (n = 0))) ∧ w = w' := by
  by_cases h : n = 0
  · subst h
    go_enter Tryz.func155, Tryz.ntmps155
    go_wp2
    go_loopw [5, 13, 14, 15, 16, 17, 18, 19, 20, 21, 22, 23, 24, 25] (fun x5 i x14 x15 x16 x17 x18 x19 x20 x21 x22 x23 x24 x25 wr => i = .int .i64 0 ∧ w = wr) (fun x5 i x14 x15 x16 x17 x18 x19 x20 x21 x22 x23 x24 x25 wr => 0)
    case atStart => exact ⟨rfl, rfl⟩
    case round =>
      obtain ⟨rfl, rfl⟩ := hrel
      go_wp2
      go_returns
      exact ⟨rfl, rfl⟩
  · have d : ((n : Int) == 0) = false := by simp [h]
    have e : decide (n = 0) = false := by simp [h]
    rw [e]
    go_enter Tryz.func155, Tryz.ntmps155
    go_wp2
    go_returns
    exact ⟨rfl, rfl⟩
theorem same_any (r s : ResV) (k f t : Int) (da : Option Addr) (dn dc : Nat) (w : World) (hn : dn ≤ maxLen) : Calls Tryz.prog 103 #[.agg #[.int .i64 r.err, .int .i64 r.rev, .int .i64 r.slot, .int .i64 r.at_, .int .u8 r.grav, .string r.text, .int .i64 r.m1, .int .i64 r.m2, .int .i64 r.m3, .int .u8 k, .int .i64 f, .int .i64 t, .slice da dn dc], .agg #[.int .i64 s.err, .int .i64 s.rev, .int .i64 s.slot, .int .i64 s.at_, .int .u8 s.grav, .string s.text, .int .i64 s.m1, .int .i64 s.m2, .int .i64 s.m3, .int .u8 0, .int .i64 0, .int .i64 0, .slice none 0 0]] w fun e w' => e = .returned (.bool (decide (dn = 0) && (r.err == s.err) && (r.rev == s.rev) && (r.slot == s.slot) && (r.at_ == s.at_) && (r.grav == s.grav) && (r.text.toList == s.text.toList) && (r.m1 == s.m1 && r.m2 == s.m2 && r.m3 == s.m3) && (k == 0) && (f == 0) && (t == 0))) ∧ Below w.heap.size w w' := by
  have hB0 := ((Below.refl w.heap.size w).alloc (Nat.le_refl _) (.cells #[.int .i64 r.err, .int .i64 r.rev, .int .i64 r.slot, .int .i64 r.at_, .int .u8 r.grav, .string r.text, .int .i64 r.m1, .int .i64 r.m2, .int .i64 r.m3, .int .u8 k, .int .i64 f, .int .i64 t, .slice da dn dc] 51)).alloc (by simp) (.cells #[.int .i64 s.err, .int .i64 s.rev, .int .i64 s.slot, .int .i64 s.at_, .int .u8 s.grav, .string s.text, .int .i64 s.m1, .int .i64 s.m2, .int .i64 s.m3, .int .u8 0, .int .i64 0, .int .i64 0, .slice none 0 0] 51)
  go_enter Tryz.func103, Tryz.ntmps103
  go_wp2
  go_region
  go_wp2_with (go_at_call 155; refine (equal_nil da dn dc _ hn).mono ?_; rintro e w1 ⟨rfl, rfl⟩)
  all_goals go_returns
  all_goals exact ⟨by simp [*], (((Below.refl w.heap.size w).alloc (Nat.le_refl _) _).alloc (by simp) _).drew⟩
end Go.Proofs.YtdeiocppghhfdaaGreat
