/- The texts RdA. -/
import Derived.Test.YtlealeecmmpckaaGreatKAx
import Derived.Test.YtlealeecmmpckaaGreatKul
import Derived.Test.YtlealeecmmpckaaGreatKun
namespace Go.Proofs.YtlealeecmmpckaaGreat
set_option linter.unusedVariables false
set_option linter.unusedSimpArgs false
set_option maxRecDepth 100000
set_option maxHeartbeats 8000000
open Go.RowKit Go.Lib Go.Shelf
theorem rdelta_any (a : Option Addr) (n c : Nat) (w : World) : Calls Tryz.prog 89 #[.slice a n c, .slice none 0 0] w fun e w' => e = .returned (.bool (decide (n = 0))) ∧ Below w.heap.size w w' := by
  by_cases h : n = 0
  · subst h
    go_enter Tryz.func89, Tryz.ntmps89
    go_wp2
    refine wp_loop_rounds 1 ?_
    rw [rounds_succ]
    go_wp2
    go_returns
    exact ⟨rfl, Below.refl _ _⟩
  · have d : ((n : Int) == 0) = false := by simp [h]
    have d2 : decide (n = 0) = false := by simp [h]
    have d3 : (n == 0) = false := by simp [h]
    have d4 : ((n : Int) != 0) = true := by simp [h]
    rw [d2]
    go_enter Tryz.func89, Tryz.ntmps89
    go_wp2
    go_returns
    exact ⟨rfl, Below.refl _ _⟩
theorem ritem_any (i : ItV) (w : World) : Calls Tryz.prog 47 #[.agg #[.int .u8 i.k, .int .i64 i.f, .int .i64 i.t, .slice i.da i.dn i.dc], .agg #[.int .u8 0, .int .i64 0, .int .i64 0, .slice none 0 0]] w fun e w' => e = .returned (.bool (decide (i.dn = 0) && (i.k == 0) && (i.f == 0) && (i.t == 0))) ∧ Below w.heap.size w w' := by
  have hB0 := ((Below.refl w.heap.size w).alloc (Nat.le_refl _) (.cells #[.int .u8 i.k, .int .i64 i.f, .int .i64 i.t, .slice i.da i.dn i.dc] 34)).alloc (by simp) (.cells #[.int .u8 0, .int .i64 0, .int .i64 0, .slice none 0 0] 34)
  cases h1 : (i.k == 0) with
  | false =>
    go_enter Tryz.func47, Tryz.ntmps47
    go_wp2
    go_returns
    exact ⟨by simp [*], hB0⟩
  | true =>
    cases h2 : (i.f == 0) with
    | false =>
      go_enter Tryz.func47, Tryz.ntmps47
      go_wp2
      go_returns
      exact ⟨by simp [*], hB0⟩
    | true =>
      cases h3 : (i.t == 0) with
      | false =>
        go_enter Tryz.func47, Tryz.ntmps47
        go_wp2
        go_returns
        exact ⟨by simp [*], hB0⟩
      | true =>
        go_enter Tryz.func47, Tryz.ntmps47
        go_wp2_with (go_at_call 89; refine (rdelta_any _ _ _ _).mono ?_; rintro e w1 ⟨rfl, hb1⟩)
        go_returns
        exact ⟨by simp [*], hB0.trans (hb1.mono hB0.size)⟩
theorem rsame_any (r s : ResV) (i : ItV) (w : World) : Calls Tryz.prog 19 #[.agg #[.int .i64 r.err, .int .i64 r.rev, .int .i64 r.slot, .int .i64 r.at_, .int .u8 r.grav, .string r.text, .int .i64 r.m1, .int .i64 r.m2, .int .i64 r.m3, .int .u8 i.k, .int .i64 i.f, .int .i64 i.t, .slice i.da i.dn i.dc], .agg #[.int .i64 s.err, .int .i64 s.rev, .int .i64 s.slot, .int .i64 s.at_, .int .u8 s.grav, .string s.text, .int .i64 s.m1, .int .i64 s.m2, .int .i64 s.m3, .int .u8 0, .int .i64 0, .int .i64 0, .slice none 0 0]] w fun e w' => e = .returned (.bool (sameB r i s)) ∧ Below w.heap.size w w' := by
  have hB0 := ((Below.refl w.heap.size w).alloc (Nat.le_refl _) (.cells #[.int .i64 r.err, .int .i64 r.rev, .int .i64 r.slot, .int .i64 r.at_, .int .u8 r.grav, .string r.text, .int .i64 r.m1, .int .i64 r.m2, .int .i64 r.m3, .int .u8 i.k, .int .i64 i.f, .int .i64 i.t, .slice i.da i.dn i.dc] 36)).alloc (by simp) (.cells #[.int .i64 s.err, .int .i64 s.rev, .int .i64 s.slot, .int .i64 s.at_, .int .u8 s.grav, .string s.text, .int .i64 s.m1, .int .i64 s.m2, .int .i64 s.m3, .int .u8 0, .int .i64 0, .int .i64 0, .slice none 0 0] 36)
  cases h0 : (r.err == s.err) with
  | false =>
    go_enter Tryz.func19, Tryz.ntmps19
    go_wp2
    go_returns
    exact ⟨by simp [sameB, *], hB0⟩
  | true =>
    cases h1 : (r.rev == s.rev) with
    | false =>
      go_enter Tryz.func19, Tryz.ntmps19
      go_wp2
      go_returns
      exact ⟨by simp [sameB, *], hB0⟩
    | true =>
      cases h2 : (r.slot == s.slot) with
      | false =>
        go_enter Tryz.func19, Tryz.ntmps19
        go_wp2
        go_returns
        exact ⟨by simp [sameB, *], hB0⟩
      | true =>
        cases h3 : (r.at_ == s.at_) with
        | false =>
          go_enter Tryz.func19, Tryz.ntmps19
          go_wp2
          go_returns
          exact ⟨by simp [sameB, *], hB0⟩
        | true =>
          cases h4 : (r.grav == s.grav) with
          | false =>
            go_enter Tryz.func19, Tryz.ntmps19
            go_wp2
            go_returns
            exact ⟨by simp [sameB, *], hB0⟩
          | true =>
            cases h5 : (r.text.toList == s.text.toList) with
            | false =>
              go_enter Tryz.func19, Tryz.ntmps19
              go_wp2
              go_returns
              exact ⟨by simp [sameB, *], hB0⟩
            | true =>
              cases h6 : (r.m1 == s.m1) with
              | false =>
                go_enter Tryz.func19, Tryz.ntmps19
                go_wp2
                go_returns
                exact ⟨by simp [sameB, *], hB0⟩
              | true =>
                cases h7 : (r.m2 == s.m2) with
                | false =>
                  go_enter Tryz.func19, Tryz.ntmps19
                  go_wp2
                  go_returns
                  exact ⟨by simp [sameB, *], hB0⟩
                | true =>
                  cases h8 : (r.m3 == s.m3) with
                  | false =>
                    go_enter Tryz.func19, Tryz.ntmps19
                    go_wp2
                    go_returns
                    exact ⟨by simp [sameB, *], hB0⟩
                  | true =>
                    go_enter Tryz.func19, Tryz.ntmps19
                    go_wp2_with (go_at_call 47; refine (ritem_any i _).mono ?_; rintro e w1 ⟨rfl, hb1⟩)
                    go_returns
                    exact ⟨by simp [sameB, *], hB0.trans (hb1.mono hB0.size)⟩
end Go.Proofs.YtlealeecmmpckaaGreat
