/- The texts RdH RdI. -/
import Derived.Test.YtlealeecmmpckaaGreatKAy
import Derived.Test.YtlealeecmmpckaaGreatKAx
import Derived.Test.YtlealeecmmpckaaGreatKAg
import Derived.Test.YtlealeecmmpckaaGreatKAc
import Derived.Test.YtlealeecmmpckaaGreatKAd
import Derived.Test.YtlealeecmmpckaaGreatKAe
import Derived.Test.YtlealeecmmpckaaGreatKug
import Derived.Test.YtlealeecmmpckaaGreatKxm
import Derived.Test.YtlealeecmmpckaaGreatKxe
import Derived.Test.YtlealeecmmpckaaGreatKAa
import Derived.Test.YtlealeecmmpckaaGreatKun
import Derived.Test.YtlealeecmmpckaaGreatKul
namespace Go.Proofs.YtlealeecmmpckaaGreat
set_option linter.unusedVariables false
set_option linter.unusedSimpArgs false
set_option maxRecDepth 100000
set_option maxHeartbeats 8000000
open Go.RowKit Go.Lib Go.Shelf
attribute [local go_sem, local simp] resF resL_len resL_ne rdF rdB_len rdB_ne
theorem raccept_any (b : Nat) (c : Int) (M : RM) (q : OpV) (r : ResV) (i : ItV) (w : World) (h : RdAt w b M) (hok : MSok M.st 100000) (hi : OpIn q) :
    Calls Tryz.prog 24 #[.pointer (some ⟨b, 0, none⟩), .int .i64 c, .agg #[.int .u8 q.kind, .int .i64 q.slot, .int .i64 q.at_, .int .i64 q.n, .int .u32 q.id, .int .u8 q.grav, .string q.text], .agg #[.int .i64 r.err, .int .i64 r.rev, .int .i64 r.slot, .int .i64 r.at_, .int .u8 r.grav, .string r.text, .int .i64 r.m1, .int .i64 r.m2, .int .i64 r.m3, .int .u8 i.k, .int .i64 i.f, .int .i64 i.t, .slice i.da i.dn i.dc]] w (RAccPost b w (accS M.st c q r i) M) := by
  cases hS : sameB r i (doS M.st c q).1 with
  | true => exact raccept_true b c M q r i w h hok hi hS
  | false =>
    by_cases hz : statE M.st c q = 0
    · obtain ⟨_, _, h3⟩ := statE_ok hz
      obtain ⟨⟨k1, k2, _⟩, _⟩ := opE_ok h3
      by_cases he : (doS M.st c q).1.err = 13
      · exact raccept_shut b c M q r i w h hok hi hS hz he
      by_cases hk15 : q.kind = 15
      · exact raccept_recv b c M q r i w h hok hi hS hz he hk15
      · exact raccept_rest b c M q r i w h hok hi hS hz he k1 hk15
    · exact raccept_stat b c M q r i w h hok hi hS hz
end Go.Proofs.YtlealeecmmpckaaGreat
namespace Go.Proofs.YtlealeecmmpckaaGreat
set_option linter.unusedVariables false
set_option linter.unusedSimpArgs false
set_option maxRecDepth 100000
set_option maxHeartbeats 8000000
open Go.RowKit Go.Lib Go.Shelf
attribute [local go_sem, local simp] resF resL_len resL_ne
theorem trysL_get : ∀ (l : List TryV) (k j : Nat) (a : TryV), l[k]? = some a → j < 21 → (trysL l)[k * 21 + j]? = (tryL a)[j]?
  | [], k, _, _, h, _ => by simp at h
  | x :: l, 0, j, a, h, hj => by
    simp at h; subst h
    show (tryL x ++ trysL l)[0 * 21 + j]? = _
    rw [List.getElem?_append_left (by rw [tryL_len]; omega)]; simp
  | x :: l, k + 1, j, a, h, hj => by
    show (tryL x ++ trysL l)[(k + 1) * 21 + j]? = _
    rw [List.getElem?_append_right (by rw [tryL_len]; omega), tryL_len, show (k + 1) * 21 + j - 21 = k * 21 + j by omega]
    exact trysL_get l k j a (by simpa using h) hj
theorem trys_at {W : World} {bl off : Nat} {l : List TryV} (h : ∀ j u, (trysL l)[j]? = some u → W.cell? ⟨bl, off + j, none⟩ = some u) {k : Nat} {a : TryV} (hk : l[k]? = some a) :
    W.cell? ⟨bl, off + k * 21, none⟩ = some (.int .i64 a.client) ∧ W.cell? ⟨bl, off + k * 21 + 1, none⟩ = some (.int .u8 a.q.kind) ∧ W.cell? ⟨bl, off + k * 21 + 2, none⟩ = some (.int .i64 a.q.slot) ∧ W.cell? ⟨bl, off + k * 21 + 3, none⟩ = some (.int .i64 a.q.at_) ∧ W.cell? ⟨bl, off + k * 21 + 4, none⟩ = some (.int .i64 a.q.n) ∧ W.cell? ⟨bl, off + k * 21 + 5, none⟩ = some (.int .u32 a.q.id) ∧ W.cell? ⟨bl, off + k * 21 + 6, none⟩ = some (.int .u8 a.q.grav) ∧ W.cell? ⟨bl, off + k * 21 + 7, none⟩ = some (.string a.q.text) ∧ W.cell? ⟨bl, off + k * 21 + 8, none⟩ = some (.int .i64 a.r.err) ∧ W.cell? ⟨bl, off + k * 21 + 9, none⟩ = some (.int .i64 a.r.rev) ∧ W.cell? ⟨bl, off + k * 21 + 10, none⟩ = some (.int .i64 a.r.slot) ∧ W.cell? ⟨bl, off + k * 21 + 11, none⟩ = some (.int .i64 a.r.at_) ∧ W.cell? ⟨bl, off + k * 21 + 12, none⟩ = some (.int .u8 a.r.grav) ∧ W.cell? ⟨bl, off + k * 21 + 13, none⟩ = some (.string a.r.text) ∧ W.cell? ⟨bl, off + k * 21 + 14, none⟩ = some (.int .i64 a.r.m1) ∧ W.cell? ⟨bl, off + k * 21 + 15, none⟩ = some (.int .i64 a.r.m2) ∧ W.cell? ⟨bl, off + k * 21 + 16, none⟩ = some (.int .i64 a.r.m3) ∧ W.cell? ⟨bl, off + k * 21 + 17, none⟩ = some (.int .u8 a.i.k) ∧ W.cell? ⟨bl, off + k * 21 + 18, none⟩ = some (.int .i64 a.i.f) ∧ W.cell? ⟨bl, off + k * 21 + 19, none⟩ = some (.int .i64 a.i.t) ∧ W.cell? ⟨bl, off + k * 21 + 20, none⟩ = some (.slice a.i.da a.i.dn a.i.dc) := by
  have g : ∀ j, j < 21 → W.cell? ⟨bl, off + k * 21 + j, none⟩ = (tryL a)[j]? := fun j hj => by
    have h1 := trysL_get l k j a hk hj
    obtain ⟨u, hu⟩ : ∃ u, (tryL a)[j]? = some u := ⟨_, List.getElem?_eq_getElem (by rw [tryL_len]; omega)⟩
    rw [hu] at h1 ⊢
    rw [Nat.add_assoc]
    exact h _ _ h1
  exact ⟨g 0 (by omega), g 1 (by omega), g 2 (by omega), g 3 (by omega), g 4 (by omega), g 5 (by omega), g 6 (by omega), g 7 (by omega), g 8 (by omega), g 9 (by omega), g 10 (by omega), g 11 (by omega), g 12 (by omega), g 13 (by omega), g 14 (by omega), g 15 (by omega), g 16 (by omega), g 17 (by omega), g 18 (by omega), g 19 (by omega), g 20 (by omega)⟩
theorem ArgTrys.get {w : World} {p : Option Addr} {l : List TryV} (h : ArgTrys w p l) {k : Nat} {a : TryV} (hk : l[k]? = some a) : (∃ bl off, p = some ⟨bl, off, none⟩ ∧ l.length < 9223372036854775808 ∧ ∀ W, Below w.heap.size w W → W.cell? ⟨bl, off + k * 21, none⟩ = some (.int .i64 a.client) ∧ W.cell? ⟨bl, off + k * 21 + 1, none⟩ = some (.int .u8 a.q.kind) ∧ W.cell? ⟨bl, off + k * 21 + 2, none⟩ = some (.int .i64 a.q.slot) ∧ W.cell? ⟨bl, off + k * 21 + 3, none⟩ = some (.int .i64 a.q.at_) ∧ W.cell? ⟨bl, off + k * 21 + 4, none⟩ = some (.int .i64 a.q.n) ∧ W.cell? ⟨bl, off + k * 21 + 5, none⟩ = some (.int .u32 a.q.id) ∧ W.cell? ⟨bl, off + k * 21 + 6, none⟩ = some (.int .u8 a.q.grav) ∧ W.cell? ⟨bl, off + k * 21 + 7, none⟩ = some (.string a.q.text) ∧ W.cell? ⟨bl, off + k * 21 + 8, none⟩ = some (.int .i64 a.r.err) ∧ W.cell? ⟨bl, off + k * 21 + 9, none⟩ = some (.int .i64 a.r.rev) ∧ W.cell? ⟨bl, off + k * 21 + 10, none⟩ = some (.int .i64 a.r.slot) ∧ W.cell? ⟨bl, off + k * 21 + 11, none⟩ = some (.int .i64 a.r.at_) ∧ W.cell? ⟨bl, off + k * 21 + 12, none⟩ = some (.int .u8 a.r.grav) ∧ W.cell? ⟨bl, off + k * 21 + 13, none⟩ = some (.string a.r.text) ∧ W.cell? ⟨bl, off + k * 21 + 14, none⟩ = some (.int .i64 a.r.m1) ∧ W.cell? ⟨bl, off + k * 21 + 15, none⟩ = some (.int .i64 a.r.m2) ∧ W.cell? ⟨bl, off + k * 21 + 16, none⟩ = some (.int .i64 a.r.m3) ∧ W.cell? ⟨bl, off + k * 21 + 17, none⟩ = some (.int .u8 a.i.k) ∧ W.cell? ⟨bl, off + k * 21 + 18, none⟩ = some (.int .i64 a.i.f) ∧ W.cell? ⟨bl, off + k * 21 + 19, none⟩ = some (.int .i64 a.i.t) ∧ W.cell? ⟨bl, off + k * 21 + 20, none⟩ = some (.slice a.i.da a.i.dn a.i.dc)) ∧ OpIn a.q ∧ a.i.dn ≤ maxLen := by
  rcases h with rfl | ⟨b, off, h1, h2, h3, h4, h5⟩
  · simp at hk
  · exact ⟨⟨b, off, h1, h4, fun W hb => trys_at (fun j u hj => (hb.cell (p := ⟨b, off + j, none⟩) h2).trans (h3 j u hj)) hk⟩, h5 a (List.mem_of_getElem? hk)⟩
theorem accS_ok {st : MS} {K c : Int} {q : OpV} {r : ResV} {i : ItV} (h : MSok st K) (hi : OpIn q) : MSok (accS st c q r i).2 (K + 1) := by
  unfold accS
  split
  · exact doS_ok h hi
  · exact h.mono (by omega)
theorem Pair.accM {w0 W : World} {bm br : Nat} {M : MM} {R : RM} {c : Int} {q : OpV} {r : ResV} {i : ItV} {K : Int} (h : Pair w0 W bm M br R) (hok : MSok M.st K) (hK : K ≤ 100000) (hi : OpIn q) (hin : i.dn ≤ maxLen) :
    Calls Tryz.prog 17 #[.pointer (some ⟨bm, 0, none⟩), .int .i64 c, .agg #[.int .u8 q.kind, .int .i64 q.slot, .int .i64 q.at_, .int .i64 q.n, .int .u32 q.id, .int .u8 q.grav, .string q.text], .agg #[.int .i64 r.err, .int .i64 r.rev, .int .i64 r.slot, .int .i64 r.at_, .int .u8 r.grav, .string r.text, .int .i64 r.m1, .int .i64 r.m2, .int .i64 r.m3, .int .u8 i.k, .int .i64 i.f, .int .i64 i.t, .slice i.da i.dn i.dc]] W fun e W' => ∃ M', e = .returned (.bool (accS M.st c q r i).1) ∧ Pair w0 W' bm M' br R ∧ M'.st = (accS M.st c q r i).2 := by
  refine (accept_any bm c M q r i W h.m.at_ (hok.mono hK) hi hin).mono ?_
  rintro e W' ⟨rfl, M', hM, hs, hk, hf⟩
  exact ⟨M', rfl, ⟨⟨hM, fun k hk => (hf k hk).elim (h.m.own k) (fun h' => Nat.le_trans h.m.bl.size h'), h.m.keep hk⟩, ⟨h.m.at_.keepRd hk h.r.at_, h.r.own, h.m.keep hk⟩⟩, hs⟩
theorem Pair.accR {w0 W : World} {bm br : Nat} {M : MM} {R : RM} {c : Int} {q : OpV} {r : ResV} {i : ItV} {K : Int} (h : Pair w0 W bm M br R) (hok : MSok R.st K) (hK : K ≤ 100000) (hi : OpIn q) :
    Calls Tryz.prog 24 #[.pointer (some ⟨br, 0, none⟩), .int .i64 c, .agg #[.int .u8 q.kind, .int .i64 q.slot, .int .i64 q.at_, .int .i64 q.n, .int .u32 q.id, .int .u8 q.grav, .string q.text], .agg #[.int .i64 r.err, .int .i64 r.rev, .int .i64 r.slot, .int .i64 r.at_, .int .u8 r.grav, .string r.text, .int .i64 r.m1, .int .i64 r.m2, .int .i64 r.m3, .int .u8 i.k, .int .i64 i.f, .int .i64 i.t, .slice i.da i.dn i.dc]] W fun e W' => ∃ R', e = .returned (.bool (accS R.st c q r i).1) ∧ Pair w0 W' bm M br R' ∧ R'.st = (accS R.st c q r i).2 := by
  refine (raccept_any br c R q r i W h.r.at_ (hok.mono hK) hi).mono ?_
  rintro e W' ⟨rfl, R', hR, hs, hk, hf⟩
  exact ⟨R', rfl, ⟨⟨h.r.at_.keepMd hk h.m.at_, h.m.own, h.r.keep hk⟩, ⟨hR, fun k hk => (hf k hk).elim (h.r.own k) (fun h' => Nat.le_trans h.r.bl.size h'), h.r.keep hk⟩⟩, hs⟩
def AcI (w : World) (p : Option Addr) (len cp bm br : Nat) (a : Act) (wr : World) : Prop :=
  ∃ (j : Nat) (M : MM) (R : RM) (u : Nat → Value), a = { tmps := #[u 0, .slice p len cp, u 2, u 3, u 4, .pointer (some ⟨bm, 0, none⟩), .int .i64 0, .pointer (some ⟨br, 0, none⟩), .int .i64 0, .int .i64 j, u 10, u 11, u 12, u 13, u 14, u 15, u 16, u 17, u 18, u 19, u 20, u 21, u 22, u 23, u 24, u 25, u 26, u 27, u 28, u 29, u 30, u 31, u 32, u 33, u 34, u 35, u 36, u 37, u 38, u 39, u 40, u 41, u 42, u 43, u 44, u 45, u 46, u 47, u 48, u 49, u 50, u 51, u 52, u 53, u 54, u 55, u 56, u 57, u 58, u 59, u 60, u 61, u 62, u 63, u 64, u 65, u 66, u 67, u 68, u 69, u 70, u 71, u 72, u 73, u 74, u 75, u 76, u 77, u 78, u 79, u 80, u 81, u 82, u 83, u 84, u 85, u 86], defers := [] } ∧ j ≤ len ∧ Pair w wr bm M br R ∧ M.st = R.st ∧ MSok M.st j
theorem AcI.intro {w : World} {p : Option Addr} {len cp bm br : Nat} {a : Act} {wr : World} (j : Nat) (M : MM) (R : RM) (h : a = { tmps := #[a.tmps.getD 0 undef, .slice p len cp, a.tmps.getD 2 undef, a.tmps.getD 3 undef, a.tmps.getD 4 undef, .pointer (some ⟨bm, 0, none⟩), .int .i64 0, .pointer (some ⟨br, 0, none⟩), .int .i64 0, .int .i64 j, a.tmps.getD 10 undef, a.tmps.getD 11 undef, a.tmps.getD 12 undef, a.tmps.getD 13 undef, a.tmps.getD 14 undef, a.tmps.getD 15 undef, a.tmps.getD 16 undef, a.tmps.getD 17 undef, a.tmps.getD 18 undef, a.tmps.getD 19 undef, a.tmps.getD 20 undef, a.tmps.getD 21 undef, a.tmps.getD 22 undef, a.tmps.getD 23 undef, a.tmps.getD 24 undef, a.tmps.getD 25 undef, a.tmps.getD 26 undef, a.tmps.getD 27 undef, a.tmps.getD 28 undef, a.tmps.getD 29 undef, a.tmps.getD 30 undef, a.tmps.getD 31 undef, a.tmps.getD 32 undef, a.tmps.getD 33 undef, a.tmps.getD 34 undef, a.tmps.getD 35 undef, a.tmps.getD 36 undef, a.tmps.getD 37 undef, a.tmps.getD 38 undef, a.tmps.getD 39 undef, a.tmps.getD 40 undef, a.tmps.getD 41 undef, a.tmps.getD 42 undef, a.tmps.getD 43 undef, a.tmps.getD 44 undef, a.tmps.getD 45 undef, a.tmps.getD 46 undef, a.tmps.getD 47 undef, a.tmps.getD 48 undef, a.tmps.getD 49 undef, a.tmps.getD 50 undef, a.tmps.getD 51 undef, a.tmps.getD 52 undef, a.tmps.getD 53 undef, a.tmps.getD 54 undef, a.tmps.getD 55 undef, a.tmps.getD 56 undef, a.tmps.getD 57 undef, a.tmps.getD 58 undef, a.tmps.getD 59 undef, a.tmps.getD 60 undef, a.tmps.getD 61 undef, a.tmps.getD 62 undef, a.tmps.getD 63 undef, a.tmps.getD 64 undef, a.tmps.getD 65 undef, a.tmps.getD 66 undef, a.tmps.getD 67 undef, a.tmps.getD 68 undef, a.tmps.getD 69 undef, a.tmps.getD 70 undef, a.tmps.getD 71 undef, a.tmps.getD 72 undef, a.tmps.getD 73 undef, a.tmps.getD 74 undef, a.tmps.getD 75 undef, a.tmps.getD 76 undef, a.tmps.getD 77 undef, a.tmps.getD 78 undef, a.tmps.getD 79 undef, a.tmps.getD 80 undef, a.tmps.getD 81 undef, a.tmps.getD 82 undef, a.tmps.getD 83 undef, a.tmps.getD 84 undef, a.tmps.getD 85 undef, a.tmps.getD 86 undef], defers := [] })
    (hj : j ≤ len) (hP : Pair w wr bm M br R) (hst : M.st = R.st) (hok : MSok M.st j) : AcI w p len cp bm br a wr := ⟨j, M, R, fun i => a.tmps.getD i undef, h, hj, hP, hst, hok⟩
theorem an_m {c : CfgV} (he : cfgE c = 0) (W : World) : Calls Tryz.prog 20 #[c.v] W fun e w' => ∃ b M, e = .returned (.tuple #[.pointer (some ⟨b, 0, none⟩), .int .i64 0]) ∧ MdAt w' b M ∧ M.st = newS c ∧ Below W.heap.size W w' ∧ ∀ k, M.fp b k → W.heap.size ≤ k :=
  (new_any c W).mono fun e w' h => h.elim (fun h => absurd he h.1) fun ⟨_, h⟩ => h
theorem an_r {c : CfgV} (he : cfgE c = 0) (W : World) : Calls Tryz.prog 21 #[c.v] W fun e w' => ∃ b M, e = .returned (.tuple #[.pointer (some ⟨b, 0, none⟩), .int .i64 0]) ∧ RdAt w' b M ∧ M.st = newS c ∧ Below W.heap.size W w' ∧ ∀ k, M.fp b k → W.heap.size ≤ k :=
  (rnew_any c W).mono fun e w' h => h.elim (fun h => absurd he h.1) fun ⟨_, h⟩ => h
theorem an_m0 {c : CfgV} (he : cfgE c ≠ 0) (W : World) : Calls Tryz.prog 20 #[c.v] W fun e w' => e = .returned (.tuple #[.pointer none, .int .i64 (cfgE c)]) ∧ Below W.heap.size W w' :=
  (new_any c W).mono fun e w' h => h.elim (fun h => ⟨h.2.1, h.2.2⟩) fun h => absurd h.1 he
theorem an_r0 {c : CfgV} (he : cfgE c ≠ 0) (W : World) : Calls Tryz.prog 21 #[c.v] W fun e w' => e = .returned (.tuple #[.pointer none, .int .i64 (cfgE c)]) ∧ Below W.heap.size W w' :=
  (rnew_any c W).mono fun e w' h => h.elim (fun h => ⟨h.2.1, h.2.2⟩) fun h => absurd h.1 he
theorem accs_long (c : CfgV) (p : Option Addr) (cp : Nat) (l : List TryV) (w : World) (hl : 2000 < c.text.size ∨ 60 < l.length) :
    Calls Tryz.prog 7 #[c.v, .slice p l.length cp] w fun e w' => e = .returned (.bool true) ∧ Below w.heap.size w w' := by
  have hB0 := (Below.refl w.heap.size w).alloc (Nat.le_refl _) (.cells #[.int .i64 c.slots, .int .u64 c.gens, .int .i64 c.clients, .int .i64 c.readers, .int .i64 c.queue, .int .i64 c.batch, .int .i64 c.feed, .string c.text] 24)
  have hlo := fun W => long_any c l.length W
  rw [show (decide (2000 < c.text.size) || decide (60 < l.length)) = true by simp; omega] at hlo
  unfold CfgV.v at *
  go_enter Tryz.func7, Tryz.ntmps7
  go_wp2_with (first | (go_at_call 13; refine (known_any _).mono ?_; rintro e w2 ⟨rfl, hb2⟩; have hB2 := hB1.trans (hb2.mono hB1.size)) | (go_at_call 12; refine (hlo _).mono ?_; rintro e w1 ⟨rfl, hb1⟩; have hB1 := hB0.trans (hb1.mono hB0.size)))
  go_returns
  exact ⟨rfl, hB2⟩
theorem accs_none (c : CfgV) (p : Option Addr) (cp : Nat) (l : List TryV) (w : World) (h1 : c.text.size ≤ 2000) (h2 : l.length ≤ 60) (hc : cfgE c ≠ 0) :
    Calls Tryz.prog 7 #[c.v, .slice p l.length cp] w fun e w' => e = .returned (.bool true) ∧ Below w.heap.size w w' := by
  have hB0 := (Below.refl w.heap.size w).alloc (Nat.le_refl _) (.cells #[.int .i64 c.slots, .int .u64 c.gens, .int .i64 c.clients, .int .i64 c.readers, .int .i64 c.queue, .int .i64 c.batch, .int .i64 c.feed, .string c.text] 24)
  have hz0 := heap_alloc_new w (.cells #[.int .i64 c.slots, .int .u64 c.gens, .int .i64 c.clients, .int .i64 c.readers, .int .i64 c.queue, .int .i64 c.batch, .int .i64 c.feed, .string c.text] 24)
  have hlo := fun W => long_any c l.length W
  rw [show (decide (2000 < c.text.size) || decide (60 < l.length)) = false by simp; omega] at hlo
  have hm2 := fun W => an_m0 hc W
  have hr2 := fun W => an_r0 hc W
  generalize cfgE c = E at *
  clear hc h1 h2
  unfold CfgV.v at *
  obtain ⟨x, hx⟩ : ∃ x, decide (0 < l.length) = x := ⟨_, rfl⟩
  cases x
  all_goals
    go_enter Tryz.func7, Tryz.ntmps7
    go_wp2_with (first | (go_at_call 21; refine (hr2 _).mono ?_; rintro e w3 ⟨rfl, hb3⟩; have hB3 := hB2.trans (hb3.mono hB2.size)) | (go_at_call 20; refine (hm2 _).mono ?_; rintro e w2 ⟨rfl, hb2⟩; have hB2 := hB1.trans (hb2.mono hB1.size); have hz2 := (hb2.block _ (Array.getElem?_eq_some_iff.1 hz1).1).trans hz1; obtain ⟨y0, y1, y2, y3, y4, y5, y6, y7⟩ := blk8 hz2) | (go_at_call 12; refine (hlo _).mono ?_; rintro e w1 ⟨rfl, hb1⟩; have hB1 := hB0.trans (hb1.mono hB0.size); have hz1 := (hb1.block _ (Array.getElem?_eq_some_iff.1 hz0).1).trans hz0; obtain ⟨z0, z1, z2, z3, z4, z5, z6, z7⟩ := blk8 hz1))
    refine wp_loop_rounds 1 ?_
    rw [rounds_succ]
    go_wp2_with (go_at_call 13; refine (known_any _).mono ?_; rintro e w4 ⟨rfl, hb4⟩; have hB4 := hB3.trans (hb4.mono hB3.size))
    go_returns
    exact ⟨rfl, hB4⟩
theorem accs_main (c : CfgV) (p : Option Addr) (cp : Nat) (l : List TryV) (w : World) (hA : ArgTrys w p l) (hc : cfgE c = 0) (h1 : c.text.size ≤ 2000) (h2 : l.length ≤ 60) :
    Calls Tryz.prog 7 #[c.v, .slice p l.length cp] w fun e w' => e = .returned (.bool true) ∧ Below w.heap.size w w' := by
  have hB0 := (Below.refl w.heap.size w).alloc (Nat.le_refl _) (.cells #[.int .i64 c.slots, .int .u64 c.gens, .int .i64 c.clients, .int .i64 c.readers, .int .i64 c.queue, .int .i64 c.batch, .int .i64 c.feed, .string c.text] 24)
  have hz0 := heap_alloc_new w (.cells #[.int .i64 c.slots, .int .u64 c.gens, .int .i64 c.clients, .int .i64 c.readers, .int .i64 c.queue, .int .i64 c.batch, .int .i64 c.feed, .string c.text] 24)
  have hlo := fun W => long_any c l.length W
  rw [show (decide (2000 < c.text.size) || decide (60 < l.length)) = false by simp; omega] at hlo
  have hm2 := fun W => an_m hc W
  have hr2 := fun W => an_r hc W
  have hok0 := newS_ok hc
  have HOK0 := Lib.hid hok0
  clear hok0
  generalize newS c = st0 at *
  clear hc h1
  unfold CfgV.v at *
  go_enter Tryz.func7, Tryz.ntmps7
  go_wp2_with (first | (go_at_call 21; refine (hr2 _).mono ?_; rintro e w3 ⟨br, R1, rfl, hR1, hs2, hb3, ho2⟩; have HS2 := Lib.hid hs2; clear hs2; have hB3 := hB2.trans (hb3.mono hB2.size)) | (go_at_call 20; refine (hm2 _).mono ?_; rintro e w2 ⟨bm, M1, rfl, hM1, hs1, hb2, ho1⟩; have HS1 := Lib.hid hs1; clear hs1; have hB2 := hB1.trans (hb2.mono hB1.size); have hz2 := (hb2.block _ (Array.getElem?_eq_some_iff.1 hz1).1).trans hz1; obtain ⟨y0, y1, y2, y3, y4, y5, y6, y7⟩ := blk8 hz2) | (go_at_call 12; refine (hlo _).mono ?_; rintro e w1 ⟨rfl, hb1⟩; have hB1 := hB0.trans (hb1.mono hB0.size); have hz1 := (hb1.block _ (Array.getElem?_eq_some_iff.1 hz0).1).trans hz0; obtain ⟨z0, z1, z2, z3, z4, z5, z6, z7⟩ := blk8 hz1))
  have hP1 : Pair w w3 bm M1 br R1 := ⟨⟨hM1.below hb3, fun k hk => Nat.le_trans hB1.size (ho1 k hk), hB3⟩, ⟨hR1, fun k hk => Nat.le_trans hB2.size (ho2 k hk), hB3⟩⟩
  refine wp_loop (AcI w p l.length cp bm br) (fun a _ => l.length - (intOf (a.tmps.getD 9 undef)).toNat) ?_ ?_
  · exact AcI.intro 0 M1 R1 rfl (by omega) hP1 (HS1.out.trans HS2.out.symm) (by rw [HS1.out]; exact HOK0.out)
  · clear hP1 hM1 hR1 hB0 hB1 hB2 hB3 hz0 hz1 hz2 hlo hm2 hr2 hb1 hb2 hb3 ho1 ho2 z0 z1 z2 z3 z4 z5 z6 z7 y0 y1 y2 y3 y4 y5 y6 y7 HS1 HS2 HOK0
    rintro a0 wr ⟨j, M, R, u, rfl, hj, hP, hst, hok⟩
    by_cases hlt : j < l.length
    · have hx := List.getElem?_eq_getElem hlt
      generalize l[j] = a at hx
      obtain ⟨⟨bl, off, rfl, hl63, hcl8⟩, hqi, hin⟩ := hA.get hx
      have hPd := hP.on ((Below.refl _ _).drew : Below wr.heap.size wr wr.drew)
      obtain ⟨y5, s5, hR5⟩ : ∃ r s, accS M.st a.client a.q a.r a.i = (r, s) := ⟨_, _, rfl⟩
      have hok4 := accS_ok (c := a.client) (r := a.r) (i := a.i) hok hqi
      have hDM : ∀ W, Pair w W bm M br R → Calls Tryz.prog 17 #[.pointer (some ⟨bm, 0, none⟩), .int .i64 a.client, .agg #[.int .u8 a.q.kind, .int .i64 a.q.slot, .int .i64 a.q.at_, .int .i64 a.q.n, .int .u32 a.q.id, .int .u8 a.q.grav, .string a.q.text], .agg #[.int .i64 a.r.err, .int .i64 a.r.rev, .int .i64 a.r.slot, .int .i64 a.r.at_, .int .u8 a.r.grav, .string a.r.text, .int .i64 a.r.m1, .int .i64 a.r.m2, .int .i64 a.r.m3, .int .u8 a.i.k, .int .i64 a.i.f, .int .i64 a.i.t, .slice a.i.da a.i.dn a.i.dc]] W fun e W' => ∃ M', e = .returned (.bool y5) ∧ Pair w W' bm M' br R ∧ M'.st = s5 := fun W hW => (hW.accM hok (by omega) hqi hin).mono fun e W' ⟨M', he, hP', hs'⟩ => ⟨M', by rw [he, hR5], hP', by rw [hs', hR5]⟩
      have hDR : ∀ W M', Pair w W bm M' br R → Calls Tryz.prog 24 #[.pointer (some ⟨br, 0, none⟩), .int .i64 a.client, .agg #[.int .u8 a.q.kind, .int .i64 a.q.slot, .int .i64 a.q.at_, .int .i64 a.q.n, .int .u32 a.q.id, .int .u8 a.q.grav, .string a.q.text], .agg #[.int .i64 a.r.err, .int .i64 a.r.rev, .int .i64 a.r.slot, .int .i64 a.r.at_, .int .u8 a.r.grav, .string a.r.text, .int .i64 a.r.m1, .int .i64 a.r.m2, .int .i64 a.r.m3, .int .u8 a.i.k, .int .i64 a.i.f, .int .i64 a.i.t, .slice a.i.da a.i.dn a.i.dc]] W fun e W' => ∃ R', e = .returned (.bool y5) ∧ Pair w W' bm M' br R' ∧ R'.st = s5 := fun W M' hW => (hW.accR (K := j) (by rw [← hst]; exact hok) (by omega) hqi).mono fun e W' ⟨R', he, hP', hs'⟩ => ⟨R', by rw [he, ← hst, hR5], hP', by rw [hs', ← hst, hR5]⟩
      rw [hR5] at hok4
      dsimp only at hok4
      have HDM := Lib.hid hDM
      have HDR := Lib.hid hDR
      have HOK := Lib.hid hok4
      have Kx := Lib.hid hcl8
      clear hcl8 hDM hDR hok4 hR5 hst hok hqi hP hin
      go_wp2
      refine wp_region_noPanic ?_
      refine wp_region_held_drew (S := fun W => W.cell? ⟨bl, off + j * 21, none⟩ = some (.int .i64 a.client) ∧ W.cell? ⟨bl, off + j * 21 + 1, none⟩ = some (.int .u8 a.q.kind) ∧ W.cell? ⟨bl, off + j * 21 + 2, none⟩ = some (.int .i64 a.q.slot) ∧ W.cell? ⟨bl, off + j * 21 + 3, none⟩ = some (.int .i64 a.q.at_) ∧ W.cell? ⟨bl, off + j * 21 + 4, none⟩ = some (.int .i64 a.q.n) ∧ W.cell? ⟨bl, off + j * 21 + 5, none⟩ = some (.int .u32 a.q.id) ∧ W.cell? ⟨bl, off + j * 21 + 6, none⟩ = some (.int .u8 a.q.grav) ∧ W.cell? ⟨bl, off + j * 21 + 7, none⟩ = some (.string a.q.text) ∧ W.cell? ⟨bl, off + j * 21 + 8, none⟩ = some (.int .i64 a.r.err) ∧ W.cell? ⟨bl, off + j * 21 + 9, none⟩ = some (.int .i64 a.r.rev) ∧ W.cell? ⟨bl, off + j * 21 + 10, none⟩ = some (.int .i64 a.r.slot) ∧ W.cell? ⟨bl, off + j * 21 + 11, none⟩ = some (.int .i64 a.r.at_) ∧ W.cell? ⟨bl, off + j * 21 + 12, none⟩ = some (.int .u8 a.r.grav) ∧ W.cell? ⟨bl, off + j * 21 + 13, none⟩ = some (.string a.r.text) ∧ W.cell? ⟨bl, off + j * 21 + 14, none⟩ = some (.int .i64 a.r.m1) ∧ W.cell? ⟨bl, off + j * 21 + 15, none⟩ = some (.int .i64 a.r.m2) ∧ W.cell? ⟨bl, off + j * 21 + 16, none⟩ = some (.int .i64 a.r.m3) ∧ W.cell? ⟨bl, off + j * 21 + 17, none⟩ = some (.int .u8 a.i.k) ∧ W.cell? ⟨bl, off + j * 21 + 18, none⟩ = some (.int .i64 a.i.f) ∧ W.cell? ⟨bl, off + j * 21 + 19, none⟩ = some (.int .i64 a.i.t) ∧ W.cell? ⟨bl, off + j * 21 + 20, none⟩ = some (.slice a.i.da a.i.dn a.i.dc)) (by kernel_rfl) ?_ (fun hHeld => ?_)
      · first | exact Kx.out _ hP4.m.bl | exact Kx.out _ hP2.m.bl | exact Kx.out _ hP1.m.bl | exact Kx.out _ hPd.m.bl
      iterate 16 (first | (refine np_sn ?_; (try simp only [nSO])) | ((first | refine np_n ?_ ?_ ?_ | refine np_t 0 ?_ ?_ ?_); rotate_left 1; (· (intro w hSw; (try dsimp only at hSw); go_simp; all_goals with_reducible rfl)); (try simp only [nSO])))
      first | (refine np_s 17 ?_; (try simp only [nSO])) | (refine np_t 17 ?_ ?_ ?_; rotate_left 1; (· (intro w hSw; (try dsimp only at hSw); go_simp; all_goals with_reducible rfl)); (try simp only [nSO]))
      iterate 15 (first | (refine np_sn ?_; (try simp only [nSO])) | (refine np_n ?_ ?_ ?_; rotate_left 1; (· (intro w hSw; (try dsimp only at hSw); go_simp; all_goals with_reducible rfl)); (try simp only [nSO])))
      first | (refine np_s 16 ?_; (try simp only [nSO])) | (refine np_step (i := 16) rfl (by kernel_rfl) (fun K hK => ?_); rw [if_pos (by rfl)]; go_simp; ((go_at_call 17; refine (HDM.out _ hPd).mono ?_; rintro e v1 ⟨M4, rfl, hP1, hst4⟩; have HS4 := Lib.hid hst4; clear hst4)); (try go_wp2_with fail); refine hK.out _ _ ?_ (fun hHeld => ?_); (· (first | exact Kx.out _ hP4.m.bl | exact Kx.out _ hP2.m.bl | exact Kx.out _ hP1.m.bl | exact Kx.out _ hPd.m.bl)); clear hK K; (try simp only [nSO]))
      first | (refine np_s 33 ?_; (try simp only [nSO])) | (refine np_step (i := 33) rfl (by kernel_rfl) (fun K hK => ?_); rw [if_pos (by rfl)]; go_simp; ((go_at_call 24; refine (HDR.out _ _ hP1).mono ?_; rintro e v2 ⟨R4, rfl, hP2, hst5⟩; have HS5 := Lib.hid hst5; clear hst5)); (try go_wp2_with fail); refine hK.out _ _ ?_ (fun hHeld => ?_); (· (first | exact Kx.out _ hP4.m.bl | exact Kx.out _ hP2.m.bl | exact Kx.out _ hP1.m.bl | exact Kx.out _ hPd.m.bl)); clear hK K; (try simp only [nSO]))
      iterate 4 (first | (refine np_sn ?_; (try simp only [nSO])) | (refine np_n ?_ ?_ ?_; rotate_left 1; (· (intro w hSw; (try dsimp only at hSw); go_simp; all_goals with_reducible rfl)); (try simp only [nSO])))
      first | (refine np_s 38 ?_; (try simp only [nSO])) | (refine np_step (i := 38) rfl (by kernel_rfl) (fun K hK => ?_); rw [if_pos (by rfl)]; go_simp; ((go_at_call 22; refine (rsame_models bm br M4 R4 _ hP2.both (HS4.out.trans HS5.out.symm) (by rw [HS4.out]; exact HOK.out)).mono ?_; rintro e v4 ⟨rfl, hb4⟩; have hP4 := hP2.on hb4)); (try go_wp2_with fail); refine hK.out _ _ ?_ (fun hHeld => ?_); (· (first | exact Kx.out _ hP4.m.bl | exact Kx.out _ hP2.m.bl | exact Kx.out _ hP1.m.bl | exact Kx.out _ hPd.m.bl)); clear hK K; (try simp only [nSO]))
      iterate 2 (first | (refine np_sn ?_; (try simp only [nSO])) | (refine np_n ?_ ?_ ?_; rotate_left 1; (· (intro w hSw; (try dsimp only at hSw); go_simp; all_goals with_reducible rfl)); (try simp only [nSO])))
      refine wpAnyH_done (by kernel_rfl) ?_ _
      refine NoPanic.normal ?_
      go_wp2
      exact ⟨AcI.intro (j + 1) M4 R4 rfl (by omega) hP4 (HS4.out.trans HS5.out.symm) (by rw [HS4.out]; exact HOK.out), by simp [intOf]; omega⟩
    · obtain rfl : j = l.length := by omega
      have hB := hP.m.bl
      clear hP hst hok
      go_wp2_with (go_at_call 13; refine (known_any _).mono ?_; rintro e w4 ⟨rfl, hb4⟩)
      go_returns
      exact ⟨rfl, hB.trans (hb4.mono hB.size)⟩
theorem walkModelAccepts (c : CfgV) (p : Option Addr) (cp : Nat) (l : List TryV) (w : World) (hA : ArgTrys w p l) :
    Calls Tryz.prog 7 #[c.v, .slice p l.length cp] w fun e w' => e = .returned (.bool true) ∧ Below w.heap.size w w' := by
  by_cases hl : 2000 < c.text.size ∨ 60 < l.length
  · exact accs_long c p cp l w hl
  by_cases hc : cfgE c = 0
  · exact accs_main c p cp l w hA hc (by omega) (by omega)
  · exact accs_none c p cp l w (by omega) (by omega) hc
end Go.Proofs.YtlealeecmmpckaaGreat
