/- ModelCommutes: the law returns true for every input, and leaves its arguments as they were. -/
import Derived.Test.YtlealeecmmpckaaGreatBul
import Derived.Test.YtlealeecmmpckaaGreatBun
import Derived.Test.YtlealeecmmpckaaGreatBva
import Derived.Test.YtlealeecmmpckaaGreatBua
import Derived.Carry
namespace Go.Proofs.YtlealeecmmpckaaGreat
set_option linter.unusedVariables false
set_option linter.unusedSimpArgs false

/-- What an operation on a snapshot does to a seat. -/
def reaF (se : SeV) (o : OpV) : ResV × SeV :=
  if slotE se o ≠ 0 then (failR (slotE se o), se) else
  ((snpS (se.slots.getD o.slot.toNat default) o).1, { se with slots := se.slots.set o.slot.toNat (snpS (se.slots.getD o.slot.toNat default) o).2 })
theorem rea_F (st : MS) (c : Nat) (o : OpV) : reaS st c o = ((reaF (st.seat c) o).1, st.put c (reaF (st.seat c) o).2) := by
  unfold reaS reaF
  split
  · rw [put_self]
  · rfl
theorem putE_len (st : MS) (c : Nat) (s : SeV) : (st.put c s).seats.length = st.seats.length := by unfold MS.put; exact List.length_set ..
theorem op_put {st : MS} {c d : Nat} {s : SeV} (q : OpV) (h : c ≠ d) : opS (st.put c s) d q = ((opS st d q).1, (opS st d q).2.put c s) := by
  have hs : (st.put c s).seat d = st.seat d := put_seat_ne h
  unfold opS
  split
  · have e : insE (st.put c s) q = insE st q := rfl
    unfold insS; rw [e]; split <;> rfl
  split
  · have e : delE (st.put c s) q = delE st q := rfl
    unfold delS; rw [e]; split <;> rfl
  split
  · have e : setE (st.put c s) q = setE st q := rfl
    unfold setS; rw [e]; split
    · rfl
    · show (if hasM q.id st.marks = true ∨ st.marks.length < 64 then _ else _) = _
      split <;> rfl
  split
  · unfold drpS
    show (if st.closed then _ else _) = _
    split
    · rfl
    · show (if hasM q.id st.marks then _ else _) = _
      split <;> rfl
  split
  · unfold acqS
    rw [hs]
    show (if st.closed then _ else _) = _
    split
    · rfl
    · cases (st.seat d).slots.findIdx? (fun s => !s.held) with
      | none => rfl
      | some k =>
        show ((_ : ResV), (st.put c s).put d { (st.put c s).seat d with slots := ((st.put c s).seat d).slots.set k _ }) = _
        rw [hs, put_comm h]
        rfl
  split
  · unfold subS
    rw [hs]
    show (if (st.seat d).sub then _ else if st.closed then _ else _) = _
    split
    · rfl
    · split
      · rfl
      · rw [put_comm h]; rfl
  split
  · unfold recS
    rw [hs]
    show (if !(st.seat d).sub then _ else if st.closed then _ else _) = _
    split
    · rfl
    · split <;> rfl
  split
  · unfold cloS
    show (if st.closed then _ else _) = _
    split <;> rfl
  · rw [rea_F, rea_F, hs, put_comm h]
theorem stat_put (st : MS) (c : Nat) (s : SeV) (d : Int) (q : OpV) : statE (st.put c s) d q = statE st d q := by unfold statE; rw [putE_len]
theorem do_put {st : MS} {c : Nat} {d : Int} {s : SeV} (q : OpV) (h : (c : Int) ≠ d) : doS (st.put c s) d q = ((doS st d q).1, (doS st d q).2.put c s) := by
  unfold doS
  rw [stat_put]
  split
  · rfl
  · rename_i he
    obtain ⟨h0, _, _⟩ := statE_ok (Decidable.not_not.1 he)
    exact op_put q (by omega)
theorem op_seat {st : MS} {c d : Nat} (q : OpV) (h : c ≠ d) : (opS st d q).2.seat c = st.seat c ∧ (opS st d q).2.seats.length = st.seats.length := by
  have hp : ∀ s : SeV, (st.put d s).seat c = st.seat c ∧ (st.put d s).seats.length = st.seats.length := fun s => ⟨put_seat_ne (Ne.symm h), putE_len _ _ _⟩
  unfold opS
  split
  · unfold insS; split <;> exact ⟨rfl, rfl⟩
  split
  · unfold delS; split <;> exact ⟨rfl, rfl⟩
  split
  · unfold setS; split
    · exact ⟨rfl, rfl⟩
    · split <;> exact ⟨rfl, rfl⟩
  split
  · unfold drpS; split
    · exact ⟨rfl, rfl⟩
    · split <;> exact ⟨rfl, rfl⟩
  split
  · unfold acqS; split
    · exact ⟨rfl, rfl⟩
    · split
      · exact ⟨rfl, rfl⟩
      · exact hp _
  split
  · unfold subS; split
    · exact ⟨rfl, rfl⟩
    · split
      · exact ⟨rfl, rfl⟩
      · exact hp _
  split
  · unfold recS; split
    · exact ⟨rfl, rfl⟩
    · split <;> exact ⟨rfl, rfl⟩
  split
  · unfold cloS; split <;> exact ⟨rfl, rfl⟩
  · rw [rea_F]; exact hp _
theorem do_seat {st : MS} {c : Nat} {d : Int} (q : OpV) (h : (c : Int) ≠ d) : (doS st d q).2.seat c = st.seat c ∧ (doS st d q).2.seats.length = st.seats.length := by
  unfold doS
  split
  · exact ⟨rfl, rfl⟩
  · rename_i he
    obtain ⟨h0, _, _⟩ := statE_ok (Decidable.not_not.1 he)
    exact op_seat q (by omega)
theorem do_len (st : MS) (d : Int) (q : OpV) : (doS st d q).2.seats.length = st.seats.length := by
  by_cases hd : 0 ≤ d
  · obtain ⟨c, hc⟩ : ∃ c : Nat, (c : Int) ≠ d := ⟨d.toNat + 1, by omega⟩
    exact (do_seat q hc).2
  · exact (do_seat (c := 0) q (by omega)).2
theorem do_stat {st : MS} {c : Int} {p : OpV} (he : statE st c p ≠ 0) : doS st c p = (failR (statE st c p), st) := by unfold doS; rw [if_pos he]
/-- THE LAW: an operation on a snapshot, and any operation of another client. -/
theorem do_comm {st : MS} {c d : Int} {p q : OpV} (hcd : c ≠ d) (hk : 6 ≤ p.kind ∧ p.kind ≤ 13) :
    (doS st c p).1 = (doS (doS st d q).2 c p).1 ∧ (doS (doS st c p).2 d q).1 = (doS st d q).1 ∧ (doS (doS st c p).2 d q).2 = (doS (doS st d q).2 c p).2 := by
  have hl := do_len st d q
  have hs : statE (doS st d q).2 c p = statE st c p := by unfold statE; rw [hl]
  by_cases he : statE st c p = 0
  · obtain ⟨h0, h1, _⟩ := statE_ok he
    have e1 := do_rea he hk
    have e2 := do_rea (st := (doS st d q).2) (by rw [hs]; exact he) hk
    have hcn : (c.toNat : Int) ≠ d := by omega
    rw [e1, e2, rea_F, rea_F, (do_seat q hcn).1]
    refine ⟨rfl, ?_, ?_⟩
    · show (doS (st.put c.toNat (reaF (st.seat c.toNat) p).2) d q).1 = _
      rw [do_put q hcn]
    · show (doS (st.put c.toNat (reaF (st.seat c.toNat) p).2) d q).2 = _
      rw [do_put q hcn]
  · have e1 := do_stat he
    have e2 := do_stat (st := (doS st d q).2) (by rw [hs]; exact he)
    rw [hs] at e2
    rw [e1, e2]
    exact ⟨rfl, rfl, rfl⟩
end Go.Proofs.YtlealeecmmpckaaGreat
namespace Go.Proofs.YtlealeecmmpckaaGreat
set_option linter.unusedVariables false
set_option linter.unusedSimpArgs false
open Go.RowKit Go.Lib Go.Shelf
attribute [local go_sem, local simp] resF resL_len resL_ne
attribute [local go_sem] fldErr

set_option maxRecDepth 100000 in
set_option maxHeartbeats 4000000 in
theorem commutes_out (c : CfgV) (p : Option Addr) (cp : Nat) (l : List ActV) (x y : ActV) (w : World) (hout : (2000 < c.text.size ∨ 60 < l.length) ∨ x.client = y.client ∨ x.q.kind < 6 ∨ 13 < x.q.kind) :
    Calls Tryz.prog 4 #[c.v, .slice p l.length cp, .agg (actL x).toArray, .agg (actL y).toArray] w fun e w' => e = .returned (.bool true) ∧ Below w.heap.size w w' := by
  have hB0 := (((Below.refl w.heap.size w).alloc (Nat.le_refl _) (.cells #[.int .i64 c.slots, .int .u64 c.gens, .int .i64 c.clients, .int .i64 c.readers, .int .i64 c.queue, .int .i64 c.batch, .int .i64 c.feed, .string c.text] 24)).alloc (by simp) (.cells #[.int .i64 x.client, .int .u8 x.q.kind, .int .i64 x.q.slot, .int .i64 x.q.at_, .int .i64 x.q.n, .int .u32 x.q.id, .int .u8 x.q.grav, .string x.q.text] 50)).alloc (by simp only [World.size_alloc]; omega) (.cells #[.int .i64 y.client, .int .u8 y.q.kind, .int .i64 y.q.slot, .int .i64 y.q.at_, .int .i64 y.q.n, .int .u32 y.q.id, .int .u8 y.q.grav, .string y.q.text] 50)
  have hz0 := (heap_alloc_old ((w.alloc (.cells #[.int .i64 c.slots, .int .u64 c.gens, .int .i64 c.clients, .int .i64 c.readers, .int .i64 c.queue, .int .i64 c.batch, .int .i64 c.feed, .string c.text] 24)).alloc (.cells #[.int .i64 x.client, .int .u8 x.q.kind, .int .i64 x.q.slot, .int .i64 x.q.at_, .int .i64 x.q.n, .int .u32 x.q.id, .int .u8 x.q.grav, .string x.q.text] 50)) (.cells #[.int .i64 y.client, .int .u8 y.q.kind, .int .i64 y.q.slot, .int .i64 y.q.at_, .int .i64 y.q.n, .int .u32 y.q.id, .int .u8 y.q.grav, .string y.q.text] 50) (show w.heap.size < _ by rw [World.size_alloc, World.size_alloc]; omega)).trans ((heap_alloc_old (w.alloc (.cells #[.int .i64 c.slots, .int .u64 c.gens, .int .i64 c.clients, .int .i64 c.readers, .int .i64 c.queue, .int .i64 c.batch, .int .i64 c.feed, .string c.text] 24)) (.cells #[.int .i64 x.client, .int .u8 x.q.kind, .int .i64 x.q.slot, .int .i64 x.q.at_, .int .i64 x.q.n, .int .u32 x.q.id, .int .u8 x.q.grav, .string x.q.text] 50) (show w.heap.size < _ by rw [World.size_alloc]; omega)).trans (heap_alloc_new w (.cells #[.int .i64 c.slots, .int .u64 c.gens, .int .i64 c.clients, .int .i64 c.readers, .int .i64 c.queue, .int .i64 c.batch, .int .i64 c.feed, .string c.text] 24)))
  have hx0 := (heap_alloc_old ((w.alloc (.cells #[.int .i64 c.slots, .int .u64 c.gens, .int .i64 c.clients, .int .i64 c.readers, .int .i64 c.queue, .int .i64 c.batch, .int .i64 c.feed, .string c.text] 24)).alloc (.cells #[.int .i64 x.client, .int .u8 x.q.kind, .int .i64 x.q.slot, .int .i64 x.q.at_, .int .i64 x.q.n, .int .u32 x.q.id, .int .u8 x.q.grav, .string x.q.text] 50)) (.cells #[.int .i64 y.client, .int .u8 y.q.kind, .int .i64 y.q.slot, .int .i64 y.q.at_, .int .i64 y.q.n, .int .u32 y.q.id, .int .u8 y.q.grav, .string y.q.text] 50) (show (w.alloc (.cells #[.int .i64 c.slots, .int .u64 c.gens, .int .i64 c.clients, .int .i64 c.readers, .int .i64 c.queue, .int .i64 c.batch, .int .i64 c.feed, .string c.text] 24)).heap.size < _ by simp)).trans (heap_alloc_new (w.alloc (.cells #[.int .i64 c.slots, .int .u64 c.gens, .int .i64 c.clients, .int .i64 c.readers, .int .i64 c.queue, .int .i64 c.batch, .int .i64 c.feed, .string c.text] 24)) (.cells #[.int .i64 x.client, .int .u8 x.q.kind, .int .i64 x.q.slot, .int .i64 x.q.at_, .int .i64 x.q.n, .int .u32 x.q.id, .int .u8 x.q.grav, .string x.q.text] 50))
  have hy0 := heap_alloc_new ((w.alloc (.cells #[.int .i64 c.slots, .int .u64 c.gens, .int .i64 c.clients, .int .i64 c.readers, .int .i64 c.queue, .int .i64 c.batch, .int .i64 c.feed, .string c.text] 24)).alloc (.cells #[.int .i64 x.client, .int .u8 x.q.kind, .int .i64 x.q.slot, .int .i64 x.q.at_, .int .i64 x.q.n, .int .u32 x.q.id, .int .u8 x.q.grav, .string x.q.text] 50)) (.cells #[.int .i64 y.client, .int .u8 y.q.kind, .int .i64 y.q.slot, .int .i64 y.q.at_, .int .i64 y.q.n, .int .u32 y.q.id, .int .u8 y.q.grav, .string y.q.text] 50)
  simp only [World.size_alloc] at hx0 hy0
  have hlo := fun W => long_any c l.length W
  obtain ⟨q1, t1⟩ : ∃ q, (decide (2000 < c.text.size) || decide (60 < l.length)) = q := ⟨_, rfl⟩
  obtain ⟨q2, t2⟩ : ∃ q, (x.client == y.client) = q := ⟨_, rfl⟩
  obtain ⟨q3, t3⟩ : ∃ q, decide (x.q.kind < 6) = q := ⟨_, rfl⟩
  obtain ⟨q4, t4⟩ : ∃ q, decide (13 < x.q.kind) = q := ⟨_, rfl⟩
  have hq : q1 = true ∨ q1 = false ∧ q2 = true ∨ q1 = false ∧ q2 = false ∧ q3 = true ∨ q1 = false ∧ q2 = false ∧ q3 = false ∧ q4 = true := by
    subst t1; subst t2; subst t3; subst t4
    simp only [Bool.or_eq_true, decide_eq_true_eq, Bool.or_eq_false_iff, decide_eq_false_iff_not, beq_iff_eq, beq_eq_false_iff_ne, ne_eq]
    omega
  rw [t1] at hlo
  clear hout t1
  rcases hq with rfl | ⟨rfl, rfl⟩ | ⟨rfl, rfl, rfl⟩ | ⟨rfl, rfl, rfl, rfl⟩
  all_goals
    unfold CfgV.v actL at *
    go_enter Tryz.func4, Tryz.ntmps4
    go_wp2_with (first | (go_at_call 12; refine (hlo _).mono ?_; rintro e w1 ⟨rfl, hb1⟩; have hB1 := hB0.trans (hb1.mono hB0.size); have hz1 := (hb1.block _ (by simp only [World.size_alloc]; omega)).trans hz0; have hx1 := (hb1.block _ (by simp only [World.size_alloc]; omega)).trans hx0; have hy1 := (hb1.block _ (by simp only [World.size_alloc]; omega)).trans hy0; obtain ⟨z0, z1, z2, z3, z4, z5, z6, z7⟩ := blk8 hz1; obtain ⟨x0, x1, x2, x3, x4, x5, x6, x7⟩ := blk8 hx1; obtain ⟨y0, y1, y2, y3, y4, y5, y6, y7⟩ := blk8 hy1) | (go_at_call 13; refine (known_any _).mono ?_; rintro e wk ⟨rfl, hbk⟩))
    go_returns
    exact ⟨rfl, hB1.trans (hbk.mono hB1.size)⟩
set_option maxRecDepth 100000 in
set_option maxHeartbeats 4000000 in
theorem commutes_none (c : CfgV) (p : Option Addr) (cp : Nat) (l : List ActV) (x y : ActV) (w : World) (h1 : c.text.size ≤ 2000) (h2 : l.length ≤ 60) (hne : x.client ≠ y.client) (hk1 : 6 ≤ x.q.kind) (hk2 : x.q.kind ≤ 13) (hA : ArgActs w p l) (hc : cfgE c ≠ 0) :
    Calls Tryz.prog 4 #[c.v, .slice p l.length cp, .agg (actL x).toArray, .agg (actL y).toArray] w fun e w' => e = .returned (.bool true) ∧ Below w.heap.size w w' := by
  have hB0 := (((Below.refl w.heap.size w).alloc (Nat.le_refl _) (.cells #[.int .i64 c.slots, .int .u64 c.gens, .int .i64 c.clients, .int .i64 c.readers, .int .i64 c.queue, .int .i64 c.batch, .int .i64 c.feed, .string c.text] 24)).alloc (by simp) (.cells #[.int .i64 x.client, .int .u8 x.q.kind, .int .i64 x.q.slot, .int .i64 x.q.at_, .int .i64 x.q.n, .int .u32 x.q.id, .int .u8 x.q.grav, .string x.q.text] 50)).alloc (by simp only [World.size_alloc]; omega) (.cells #[.int .i64 y.client, .int .u8 y.q.kind, .int .i64 y.q.slot, .int .i64 y.q.at_, .int .i64 y.q.n, .int .u32 y.q.id, .int .u8 y.q.grav, .string y.q.text] 50)
  have hz0 := (heap_alloc_old ((w.alloc (.cells #[.int .i64 c.slots, .int .u64 c.gens, .int .i64 c.clients, .int .i64 c.readers, .int .i64 c.queue, .int .i64 c.batch, .int .i64 c.feed, .string c.text] 24)).alloc (.cells #[.int .i64 x.client, .int .u8 x.q.kind, .int .i64 x.q.slot, .int .i64 x.q.at_, .int .i64 x.q.n, .int .u32 x.q.id, .int .u8 x.q.grav, .string x.q.text] 50)) (.cells #[.int .i64 y.client, .int .u8 y.q.kind, .int .i64 y.q.slot, .int .i64 y.q.at_, .int .i64 y.q.n, .int .u32 y.q.id, .int .u8 y.q.grav, .string y.q.text] 50) (show w.heap.size < _ by rw [World.size_alloc, World.size_alloc]; omega)).trans ((heap_alloc_old (w.alloc (.cells #[.int .i64 c.slots, .int .u64 c.gens, .int .i64 c.clients, .int .i64 c.readers, .int .i64 c.queue, .int .i64 c.batch, .int .i64 c.feed, .string c.text] 24)) (.cells #[.int .i64 x.client, .int .u8 x.q.kind, .int .i64 x.q.slot, .int .i64 x.q.at_, .int .i64 x.q.n, .int .u32 x.q.id, .int .u8 x.q.grav, .string x.q.text] 50) (show w.heap.size < _ by rw [World.size_alloc]; omega)).trans (heap_alloc_new w (.cells #[.int .i64 c.slots, .int .u64 c.gens, .int .i64 c.clients, .int .i64 c.readers, .int .i64 c.queue, .int .i64 c.batch, .int .i64 c.feed, .string c.text] 24)))
  have hx0 := (heap_alloc_old ((w.alloc (.cells #[.int .i64 c.slots, .int .u64 c.gens, .int .i64 c.clients, .int .i64 c.readers, .int .i64 c.queue, .int .i64 c.batch, .int .i64 c.feed, .string c.text] 24)).alloc (.cells #[.int .i64 x.client, .int .u8 x.q.kind, .int .i64 x.q.slot, .int .i64 x.q.at_, .int .i64 x.q.n, .int .u32 x.q.id, .int .u8 x.q.grav, .string x.q.text] 50)) (.cells #[.int .i64 y.client, .int .u8 y.q.kind, .int .i64 y.q.slot, .int .i64 y.q.at_, .int .i64 y.q.n, .int .u32 y.q.id, .int .u8 y.q.grav, .string y.q.text] 50) (show (w.alloc (.cells #[.int .i64 c.slots, .int .u64 c.gens, .int .i64 c.clients, .int .i64 c.readers, .int .i64 c.queue, .int .i64 c.batch, .int .i64 c.feed, .string c.text] 24)).heap.size < _ by simp)).trans (heap_alloc_new (w.alloc (.cells #[.int .i64 c.slots, .int .u64 c.gens, .int .i64 c.clients, .int .i64 c.readers, .int .i64 c.queue, .int .i64 c.batch, .int .i64 c.feed, .string c.text] 24)) (.cells #[.int .i64 x.client, .int .u8 x.q.kind, .int .i64 x.q.slot, .int .i64 x.q.at_, .int .i64 x.q.n, .int .u32 x.q.id, .int .u8 x.q.grav, .string x.q.text] 50))
  have hy0 := heap_alloc_new ((w.alloc (.cells #[.int .i64 c.slots, .int .u64 c.gens, .int .i64 c.clients, .int .i64 c.readers, .int .i64 c.queue, .int .i64 c.batch, .int .i64 c.feed, .string c.text] 24)).alloc (.cells #[.int .i64 x.client, .int .u8 x.q.kind, .int .i64 x.q.slot, .int .i64 x.q.at_, .int .i64 x.q.n, .int .u32 x.q.id, .int .u8 x.q.grav, .string x.q.text] 50)) (.cells #[.int .i64 y.client, .int .u8 y.q.kind, .int .i64 y.q.slot, .int .i64 y.q.at_, .int .i64 y.q.n, .int .u32 y.q.id, .int .u8 y.q.grav, .string y.q.text] 50)
  simp only [World.size_alloc] at hx0 hy0
  have hlo := fun W => long_any c l.length W
  have e1 : (decide (2000 < c.text.size) || decide (60 < l.length)) = false := by simp; omega
  have t2 : (x.client == y.client) = false := by simpa using hne
  have t3 : decide (x.q.kind < 6) = false := by simp; omega
  have t4 : decide (13 < x.q.kind) = false := by simp; omega
  rw [e1] at hlo
  have hpl := fun W => play_nil c p l.length cp W hc
  unfold CfgV.v actL at *
  go_enter Tryz.func4, Tryz.ntmps4
  go_wp2_with (first | (go_at_call 12; refine (hlo _).mono ?_; rintro e w1 ⟨rfl, hb1⟩; have hB1 := hB0.trans (hb1.mono hB0.size); have hz1 := (hb1.block _ (by simp only [World.size_alloc]; omega)).trans hz0; have hx1 := (hb1.block _ (by simp only [World.size_alloc]; omega)).trans hx0; have hy1 := (hb1.block _ (by simp only [World.size_alloc]; omega)).trans hy0; obtain ⟨z0, z1, z2, z3, z4, z5, z6, z7⟩ := blk8 hz1; obtain ⟨x0, x1, x2, x3, x4, x5, x6, x7⟩ := blk8 hx1; obtain ⟨y0, y1, y2, y3, y4, y5, y6, y7⟩ := blk8 hy1) | (go_at_call 14; refine (hpl _).mono ?_; rintro e w2 ⟨rfl, hb2⟩; have hB2 := hB1.trans (hb2.mono hB1.size)) | (go_at_call 13; refine (known_any _).mono ?_; rintro e wk ⟨rfl, hbk⟩))
  go_returns
  exact ⟨rfl, hB2.trans (hbk.mono hB2.size)⟩
set_option maxRecDepth 100000 in
set_option maxHeartbeats 4000000 in
theorem commutes_main (c : CfgV) (p : Option Addr) (cp : Nat) (l : List ActV) (x y : ActV) (w : World) (h1 : c.text.size ≤ 2000) (h2 : l.length ≤ 60) (hne : x.client ≠ y.client) (hk1 : 6 ≤ x.q.kind) (hk2 : x.q.kind ≤ 13) (hA : ArgActs w p l) (hc : cfgE c = 0) (hix : OpIn x.q) (hiy : OpIn y.q) :
    Calls Tryz.prog 4 #[c.v, .slice p l.length cp, .agg (actL x).toArray, .agg (actL y).toArray] w fun e w' => e = .returned (.bool true) ∧ Below w.heap.size w w' := by
  have hB0 := (((Below.refl w.heap.size w).alloc (Nat.le_refl _) (.cells #[.int .i64 c.slots, .int .u64 c.gens, .int .i64 c.clients, .int .i64 c.readers, .int .i64 c.queue, .int .i64 c.batch, .int .i64 c.feed, .string c.text] 24)).alloc (by simp) (.cells #[.int .i64 x.client, .int .u8 x.q.kind, .int .i64 x.q.slot, .int .i64 x.q.at_, .int .i64 x.q.n, .int .u32 x.q.id, .int .u8 x.q.grav, .string x.q.text] 50)).alloc (by simp only [World.size_alloc]; omega) (.cells #[.int .i64 y.client, .int .u8 y.q.kind, .int .i64 y.q.slot, .int .i64 y.q.at_, .int .i64 y.q.n, .int .u32 y.q.id, .int .u8 y.q.grav, .string y.q.text] 50)
  have hz0 := (heap_alloc_old ((w.alloc (.cells #[.int .i64 c.slots, .int .u64 c.gens, .int .i64 c.clients, .int .i64 c.readers, .int .i64 c.queue, .int .i64 c.batch, .int .i64 c.feed, .string c.text] 24)).alloc (.cells #[.int .i64 x.client, .int .u8 x.q.kind, .int .i64 x.q.slot, .int .i64 x.q.at_, .int .i64 x.q.n, .int .u32 x.q.id, .int .u8 x.q.grav, .string x.q.text] 50)) (.cells #[.int .i64 y.client, .int .u8 y.q.kind, .int .i64 y.q.slot, .int .i64 y.q.at_, .int .i64 y.q.n, .int .u32 y.q.id, .int .u8 y.q.grav, .string y.q.text] 50) (show w.heap.size < _ by rw [World.size_alloc, World.size_alloc]; omega)).trans ((heap_alloc_old (w.alloc (.cells #[.int .i64 c.slots, .int .u64 c.gens, .int .i64 c.clients, .int .i64 c.readers, .int .i64 c.queue, .int .i64 c.batch, .int .i64 c.feed, .string c.text] 24)) (.cells #[.int .i64 x.client, .int .u8 x.q.kind, .int .i64 x.q.slot, .int .i64 x.q.at_, .int .i64 x.q.n, .int .u32 x.q.id, .int .u8 x.q.grav, .string x.q.text] 50) (show w.heap.size < _ by rw [World.size_alloc]; omega)).trans (heap_alloc_new w (.cells #[.int .i64 c.slots, .int .u64 c.gens, .int .i64 c.clients, .int .i64 c.readers, .int .i64 c.queue, .int .i64 c.batch, .int .i64 c.feed, .string c.text] 24)))
  have hx0 := (heap_alloc_old ((w.alloc (.cells #[.int .i64 c.slots, .int .u64 c.gens, .int .i64 c.clients, .int .i64 c.readers, .int .i64 c.queue, .int .i64 c.batch, .int .i64 c.feed, .string c.text] 24)).alloc (.cells #[.int .i64 x.client, .int .u8 x.q.kind, .int .i64 x.q.slot, .int .i64 x.q.at_, .int .i64 x.q.n, .int .u32 x.q.id, .int .u8 x.q.grav, .string x.q.text] 50)) (.cells #[.int .i64 y.client, .int .u8 y.q.kind, .int .i64 y.q.slot, .int .i64 y.q.at_, .int .i64 y.q.n, .int .u32 y.q.id, .int .u8 y.q.grav, .string y.q.text] 50) (show (w.alloc (.cells #[.int .i64 c.slots, .int .u64 c.gens, .int .i64 c.clients, .int .i64 c.readers, .int .i64 c.queue, .int .i64 c.batch, .int .i64 c.feed, .string c.text] 24)).heap.size < _ by simp)).trans (heap_alloc_new (w.alloc (.cells #[.int .i64 c.slots, .int .u64 c.gens, .int .i64 c.clients, .int .i64 c.readers, .int .i64 c.queue, .int .i64 c.batch, .int .i64 c.feed, .string c.text] 24)) (.cells #[.int .i64 x.client, .int .u8 x.q.kind, .int .i64 x.q.slot, .int .i64 x.q.at_, .int .i64 x.q.n, .int .u32 x.q.id, .int .u8 x.q.grav, .string x.q.text] 50))
  have hy0 := heap_alloc_new ((w.alloc (.cells #[.int .i64 c.slots, .int .u64 c.gens, .int .i64 c.clients, .int .i64 c.readers, .int .i64 c.queue, .int .i64 c.batch, .int .i64 c.feed, .string c.text] 24)).alloc (.cells #[.int .i64 x.client, .int .u8 x.q.kind, .int .i64 x.q.slot, .int .i64 x.q.at_, .int .i64 x.q.n, .int .u32 x.q.id, .int .u8 x.q.grav, .string x.q.text] 50)) (.cells #[.int .i64 y.client, .int .u8 y.q.kind, .int .i64 y.q.slot, .int .i64 y.q.at_, .int .i64 y.q.n, .int .u32 y.q.id, .int .u8 y.q.grav, .string y.q.text] 50)
  simp only [World.size_alloc] at hx0 hy0
  have hlo := fun W => long_any c l.length W
  have e1 : (decide (2000 < c.text.size) || decide (60 < l.length)) = false := by simp; omega
  have t2 : (x.client == y.client) = false := by simpa using hne
  have t3 : decide (x.q.kind < 6) = false := by simp; omega
  have t4 : decide (13 < x.q.kind) = false := by simp; omega
  rw [e1] at hlo
  obtain ⟨S, hS⟩ : ∃ S, runS (newS c) l = S := ⟨_, rfl⟩
  obtain ⟨hc1, hc2, hc3⟩ := do_comm (st := S) (c := x.client) (d := y.client) (p := x.q) (q := y.q) hne ⟨hk1, hk2⟩
  obtain ⟨ra, s1, f1⟩ : ∃ r s, doS S x.client x.q = (r, s) := ⟨_, _, rfl⟩
  obtain ⟨rb, s3, f3⟩ : ∃ r s, doS S y.client y.q = (r, s) := ⟨_, _, rfl⟩
  obtain ⟨rb', s2, f2⟩ : ∃ r s, doS s1 y.client y.q = (r, s) := ⟨_, _, rfl⟩
  obtain ⟨ra', s4, f4⟩ : ∃ r s, doS s3 x.client x.q = (r, s) := ⟨_, _, rfl⟩
  rw [f1, f3] at hc1 hc2 hc3
  rw [f2, f4] at hc3
  rw [f2] at hc2
  rw [f4] at hc1
  have hss : s2 = s4 := hc3
  have f2' : doS s1 y.client y.q = (rb, s2) := by rw [f2]; exact Prod.ext hc2 rfl
  have f4' : doS s3 x.client x.q = (ra, s2) := by rw [f4]; exact Prod.ext hc1.symm hss.symm
  clear hc1 hc2 hc3 f2 f4 hss
  have hpl := fun W (hW : Below w.heap.size w W) => play_some c p cp l W hc (hA.on hW) (by omega)
  have hokS : MSok S 60 := by rw [← hS]; exact (runS_ok (newS_ok hc) hA.ok).mono (by omega)
  clear hk1 hk2 hne
  unfold CfgV.v actL at *
  go_enter Tryz.func4, Tryz.ntmps4
  go_wp2_with (first | (go_at_call 12; refine (hlo _).mono ?_; rintro e w1 ⟨rfl, hb1⟩; have hB1 := hB0.trans (hb1.mono hB0.size); have hz1 := (hb1.block _ (by simp only [World.size_alloc]; omega)).trans hz0; have hx1 := (hb1.block _ (by simp only [World.size_alloc]; omega)).trans hx0; have hy1 := (hb1.block _ (by simp only [World.size_alloc]; omega)).trans hy0; obtain ⟨z0, z1, z2, z3, z4, z5, z6, z7⟩ := blk8 hz1; obtain ⟨x0, x1, x2, x3, x4, x5, x6, x7⟩ := blk8 hx1; obtain ⟨y0, y1, y2, y3, y4, y5, y6, y7⟩ := blk8 hy1; have Kx := Lib.hid (fun W (hW : Below w1.heap.size w1 W) => blk8 ((hW.block _ (Array.getElem?_eq_some_iff.1 hx1).1).trans hx1)); have Ky := Lib.hid (fun W (hW : Below w1.heap.size w1 W) => blk8 ((hW.block _ (Array.getElem?_eq_some_iff.1 hy1).1).trans hy1))) | (go_at_call 14; refine (hpl _ hB1).mono ?_; rintro e w2 ⟨b, M1, rfl, hP1, hst1⟩; rw [hS] at hst1; have hok1 : MSok M1.st 60 := (by rw [hst1]; exact hokS); have hcp := copy_run hP1 hok1) | (go_at_call 15; refine hcp.mono ?_; rintro e w3 ⟨b2, N1, rfl, hU0, hN1, hb3⟩; have hNS : N1.st = S := hN1.trans hst1; have hokN : MSok N1.st 60 := (by rw [hNS]; exact hokS); obtain ⟨x0, x1, x2, x3, x4, x5, x6, x7⟩ := Kx.out _ hU0.ra.bl; obtain ⟨y0, y1, y2, y3, y4, y5, y6, y7⟩ := Ky.out _ hU0.ra.bl; have H1 := Lib.hid (Two.do (c := x.client) hU0 hst1 hok1 (by omega) hix f1); clear hcp))
  go_wp2_with (go_at_call 16; have hz' := H1; refine H1.out.mono ?_; rintro e v1 ⟨P1, rfl, hT1, hs1, hk1', ho1⟩; obtain ⟨V1, hw1, hg1, hb1'⟩ := rnew_pkg v1 ra; have hU1 := hT1.on hb1'; obtain ⟨x0, x1, x2, x3, x4, x5, x6, x7⟩ := Kx.out _ hU1.ra.bl; obtain ⟨y0, y1, y2, y3, y4, y5, y6, y7⟩ := Ky.out _ hU1.ra.bl; clear hz' H1; have H2 := Lib.hid (Two.do (c := y.client) hU1 hs1 ho1 (by omega) hiy f2'))
  go_wp2_with (go_at_call 16; have hz' := H2; refine H2.out.mono ?_; rintro e v2 ⟨P2, rfl, hT2, hs2, hk2', ho2⟩; obtain ⟨V2, hw2, hg2, hb2'⟩ := rnew_pkg v2 rb; have hU2 := hT2.on hb2'; have hh1 := (hU1.ra.at_.keep hk2' hg1 (by decide) (by decide) (by decide)); replace hg1 := (hb2'.block _ (Array.getElem?_eq_some_iff.1 hh1).1).trans hh1; clear hh1; obtain ⟨x0, x1, x2, x3, x4, x5, x6, x7⟩ := Kx.out _ hU2.ra.bl; obtain ⟨y0, y1, y2, y3, y4, y5, y6, y7⟩ := Ky.out _ hU2.ra.bl; clear hz' H2; have H3 := Lib.hid (Two.do (c := y.client) hU2.symm hNS hokN (by omega) hiy f3))
  go_wp2_with (go_at_call 16; have hz' := H3; refine H3.out.mono ?_; rintro e v3 ⟨P3, rfl, hT3, hs3, hk3', ho3⟩; obtain ⟨V3, hw3, hg3, hb3'⟩ := rnew_pkg v3 rb; have hU3 := hT3.on hb3'; have hh1 := (hU2.symm.ra.at_.keep hk3' hg1 (by decide) (by decide) (by decide)); replace hg1 := (hb3'.block _ (Array.getElem?_eq_some_iff.1 hh1).1).trans hh1; clear hh1; have hh2 := (hU2.symm.ra.at_.keep hk3' hg2 (by decide) (by decide) (by decide)); replace hg2 := (hb3'.block _ (Array.getElem?_eq_some_iff.1 hh2).1).trans hh2; clear hh2; obtain ⟨x0, x1, x2, x3, x4, x5, x6, x7⟩ := Kx.out _ hU3.ra.bl; obtain ⟨y0, y1, y2, y3, y4, y5, y6, y7⟩ := Ky.out _ hU3.ra.bl; clear hz' H3; have H4 := Lib.hid (Two.do (c := x.client) hU3 hs3 ho3 (by omega) hix f4'))
  go_wp2_with (go_at_call 16; have hz' := H4; refine H4.out.mono ?_; rintro e v4 ⟨P4, rfl, hT4, hs4, hk4', ho4⟩; obtain ⟨V4, hw4, hg4, hb4'⟩ := rnew_pkg v4 ra; have hU4 := hT4.on hb4'; have hh1 := (hU3.ra.at_.keep hk4' hg1 (by decide) (by decide) (by decide)); replace hg1 := (hb4'.block _ (Array.getElem?_eq_some_iff.1 hh1).1).trans hh1; clear hh1; have hh2 := (hU3.ra.at_.keep hk4' hg2 (by decide) (by decide) (by decide)); replace hg2 := (hb4'.block _ (Array.getElem?_eq_some_iff.1 hh2).1).trans hh2; clear hh2; have hh3 := (hU3.ra.at_.keep hk4' hg3 (by decide) (by decide) (by decide)); replace hg3 := (hb4'.block _ (Array.getElem?_eq_some_iff.1 hh3).1).trans hh3; clear hh3; obtain ⟨x0, x1, x2, x3, x4, x5, x6, x7⟩ := Kx.out _ hU4.ra.bl; obtain ⟨y0, y1, y2, y3, y4, y5, y6, y7⟩ := Ky.out _ hU4.ra.bl; clear hz' H4; obtain ⟨qa0, qa1, qa2, qa3, qa4, qa5, qa6, qa7, qa8, qa9, qa10, qa11, qa12⟩ := blk13 hg1; obtain ⟨qb0, qb1, qb2, qb3, qb4, qb5, qb6, qb7, qb8, qb9, qb10, qb11, qb12⟩ := blk13 hg2; obtain ⟨qc0, qc1, qc2, qc3, qc4, qc5, qc6, qc7, qc8, qc9, qc10, qc11, qc12⟩ := blk13 hg3; obtain ⟨qd0, qd1, qd2, qd3, qd4, qd5, qd6, qd7, qd8, qd9, qd10, qd11, qd12⟩ := blk13 hg4)
  go_wp2_with (first | (go_at_call 19; have hz' := hsm; refine (rsame_nil rb _).mono ?_; rintro e wt ⟨rfl, hsn⟩; have hU5 := (hU4.on hsm).on hsn; have hky := key_any b P2 wt _ hU5.rb.at_ ho2; rw [hs2] at hky; have HY1 := Lib.hid hky; clear hky) | (go_at_call 19; refine (rsame_nil ra _).mono ?_; rintro e ws ⟨rfl, hsm⟩; obtain ⟨qb0, qb1, qb2, qb3, qb4, qb5, qb6, qb7, qb8, qb9, qb10, qb11, qb12⟩ := blk13 ((hsm.block _ (Array.getElem?_eq_some_iff.1 hg2).1).trans hg2); obtain ⟨qc0, qc1, qc2, qc3, qc4, qc5, qc6, qc7, qc8, qc9, qc10, qc11, qc12⟩ := blk13 ((hsm.block _ (Array.getElem?_eq_some_iff.1 hg3).1).trans hg3)) | (go_at_call 18; have hz' := HY2; refine HY2.out.mono ?_; rintro e wv ⟨rfl, hkv⟩; have hU7 := hU6.on hkv; clear hz' HY2) | (go_at_call 18; have hz' := HY1; refine HY1.out.mono ?_; rintro e wu ⟨rfl, hku⟩; have hU6 := hU5.on hku; have hky := key_any b2 P4 wu _ hU6.ra.at_ ho4; rw [hs4] at hky; have HY2 := Lib.hid hky; clear hky hz' HY1) | (go_at_call 13; refine (known_any _).mono ?_; rintro e wk ⟨rfl, hbk⟩))
  go_returns
  exact ⟨rfl, hB1.trans ((hU7.ra.bl.trans (hbk.mono hU7.ra.bl.size)).mono hB1.size)⟩
theorem walkModelCommutes (c : CfgV) (p : Option Addr) (cp : Nat) (l : List ActV) (x y : ActV) (w : World) (hA : ArgActs w p l) (hix : OpIn x.q) (hiy : OpIn y.q) :
    Calls Tryz.prog 4 #[c.v, .slice p l.length cp, .agg (actL x).toArray, .agg (actL y).toArray] w fun e w' => e = .returned (.bool true) ∧ Below w.heap.size w w' := by
  by_cases hout : (2000 < c.text.size ∨ 60 < l.length) ∨ x.client = y.client ∨ x.q.kind < 6 ∨ 13 < x.q.kind
  · exact commutes_out c p cp l x y w hout
  · by_cases hc : cfgE c = 0
    · exact commutes_main c p cp l x y w (by omega) (by omega) (by omega) (by omega) (by omega) hA hc hix hiy
    · exact commutes_none c p cp l x y w (by omega) (by omega) (by omega) (by omega) (by omega) hA hc
end Go.Proofs.YtlealeecmmpckaaGreat
namespace Go.Proofs.YtlealeecmmpckaaGreat.modelCommutes
set_option linter.unusedVariables false
set_option linter.unusedSimpArgs false
open Go.ChangeShapes Go.WideShapes Go.ChangeAt Go.RowKit
open Go.ChangeMaps (open_string shut_string)
set_option linter.unusedVariables false

set_option maxRecDepth 100000 in
theorem lifted (os : Os) (started : os.Started) (H : Type) (enc : TypeId × Value → H) :
    ReturnsInHanded {} Tryz.checked os 4 .any (Rows.modelCommutesSpec.pre6 enc Tryz.prog Tryz.f4 Rows.modelCommutesRow.domain false) (Rows.modelCommutesSpec.post enc Tryz.prog Tryz.f4 false true false false) := by
  refine returnsInHanded_of_change_sized (C := Tryz.checked) own started (by kernel_rfl) Tryz.func4
    (ChangeSpec.witness6 (enc := enc) (C := Tryz.checked) false ⟨#[], #[.agg #[.int .i64 0, .int .u64 0, .int .i64 0, .int .i64 0, .int .i64 0, .int .i64 0, .int .i64 0, .string ⟨#[]⟩], .slice none 0 0, .agg #[.int .i64 0, .int .u8 0, .int .i64 0, .int .i64 0, .int .i64 0, .int .u32 0, .int .u8 0, .string ⟨#[]⟩], .agg #[.int .i64 0, .int .u8 0, .int .i64 0, .int .i64 0, .int .i64 0, .int .u32 0, .int .u8 0, .string ⟨#[]⟩]], []⟩ 8 (by kernel_rfl) (by kernel_rfl) (by kernel_rfl) (by kernel_rfl)) ?_
  intro W base args ds gs before hval0 hW hcnd hsz0 _
  have hval : ∀ (j : Nat) t v, Tryz.f4.params[j]? = some t → args[j]? = some v → Value.okWide Tryz.prog W .any base t v := hval0
  have hW' := hW
  obtain ⟨p, q, hA0, hV, rfl, hfz, hnd⟩ := hW
  have hA : DataW.TrodAll enc Tryz.prog W 0 (fun _ => true) true Tryz.f4.params.toList args.toList ds p := hA0
  rw [Tryz.params4] at hA hval
  obtain ⟨v0, vs0, d0, ds0, p0, q0, hargs, rfl, rfl, h0, r0⟩ := trodAll_cons hA
  obtain ⟨v1, vs1, d1, ds1, p1, q1, rfl, rfl, rfl, h1, r1⟩ := trodAll_cons r0
  obtain ⟨v2, vs2, d2, ds2, p2, q2, rfl, rfl, rfl, h2, r2⟩ := trodAll_cons r1
  obtain ⟨v3, vs3, d3, ds3, p3, q3, rfl, rfl, rfl, h3, r3⟩ := trodAll_cons r2
  obtain ⟨rfl, rfl, rfl⟩ := trodAll_nil r3
  obtain rfl : args = #[v0, v1, v2, v3] := by cases args; simp_all
  obtain ⟨rfl, rfl⟩ := trodVars_none hV
  obtain ⟨c0, rfl⟩ := open_cfg (hval 0 24 v0 rfl rfl) h0
  obtain ⟨q1, c1, l1, rfl, w1⟩ := open_acts (hval 1 25 v1 rfl rfl) h1
  obtain ⟨a2, rfl, w2⟩ := open_act (hval 2 50 v2 rfl rfl) h2
  obtain ⟨a3, rfl, w3⟩ := open_act (hval 3 50 v3 rfl rfl) h3
  clear hA0 hval0
  (try simp only [List.append_nil, List.nil_append] at hW')
  refine (walkModelCommutes c0 q1 c1 l1 a2 a3 W w1 w2 w3).mono fun e W' ⟨he, hg⟩ => ?_
  subst he
  have hlt0 : ∀ x ∈ p0, x.block < W.heap.size := fun x hx => hW'.lt x (by simp [hx])
  have hlt1 : ∀ x ∈ p1, x.block < W.heap.size := fun x hx => hW'.lt x (by simp [hx])
  have hlt2 : ∀ x ∈ p2, x.block < W.heap.size := fun x hx => hW'.lt x (by simp [hx])
  have hlt3 : ∀ x ∈ p3, x.block < W.heap.size := fun x hx => hW'.lt x (by simp [hx])
  exact ⟨_, rfl, post_of_below (pa := (p0 ++ (p1 ++ (p2 ++ (p3 ++ []))))) (pv := []) hW' (fun _ _ _ => (trodAll_cons_mk (shut_bool Tryz.underlying4 _) trodAll_mk0)) (fun sp hsp => (trodAll_cons_mk (WideElems.Trod_stays (by kernel_rfl) (by kernel_rfl) (of_decide_eq_true (by kernel_rfl)) h0 (fun x hx => hg.same (hlt0 x hx)) (fun x hx => hsp x (by simp [hx]))) (trodAll_cons_mk (WideElems.Trod_stays (by kernel_rfl) (by kernel_rfl) (of_decide_eq_true (by kernel_rfl)) h1 (fun x hx => hg.same (hlt1 x hx)) (fun x hx => hsp x (by simp [hx]))) (trodAll_cons_mk (WideElems.Trod_stays (by kernel_rfl) (by kernel_rfl) (of_decide_eq_true (by kernel_rfl)) h2 (fun x hx => hg.same (hlt2 x hx)) (fun x hx => hsp x (by simp [hx]))) (trodAll_cons_mk (WideElems.Trod_stays (by kernel_rfl) (by kernel_rfl) (of_decide_eq_true (by kernel_rfl)) h3 (fun x hx => hg.same (hlt3 x hx)) (fun x hx => hsp x (by simp [hx]))) trodAll_mk0))))) (fun _ _ => rfl) (by simp)
    hg (ok_one (by kernel_rfl) rfl (okWide_bool_mk Tryz.underlying4 _))⟩

theorem proved : Rows.ModelCommutesSaid :=
  OpenClaim.holds_of_wide 4 Tryz.f4 rfl rfl rfl rfl rfl rfl rfl ⟨rfl, rfl, rfl, rfl, rfl⟩ rfl rfl rfl rfl rfl (by kernel_rfl) Tryz.func4 (by kernel_rfl)
    (of_decide_eq_true (by kernel_rfl)) (by unfold Func.isWrapper; first | (rw [if_pos (by decide +kernel)]; kernel_rfl) | (rw [if_neg (by decide +kernel)]; exact ⟨rfl, rfl⟩))
    (fun os started H enc _ => lifted os started H enc)
#print axioms proved
end Go.Proofs.YtlealeecmmpckaaGreat.modelCommutes
