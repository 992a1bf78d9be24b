/- ModelKeys: the law returns true for every input, and leaves its arguments as they were. -/
import Derived.Test.YtlealeecmmpckaaGreatKye
import Derived.Test.YtlealeecmmpckaaGreatKua
import Derived.Carry
namespace Go.Proofs.YtlealeecmmpckaaGreat
set_option linter.unusedVariables false
set_option linter.unusedSimpArgs false
set_option maxRecDepth 100000
set_option maxHeartbeats 8000000
open Go.RowKit Go.Lib Go.Shelf
attribute [local go_sem, local simp] resF resL_len resL_ne
theorem nw_m0 {c : CfgV} (he : cfgE c ≠ 0) (W : World) : Calls Tryz.prog 20 #[c.v] W fun e w' => e = .returned (.tuple #[.pointer none, .int .i64 (cfgE c)]) ∧ Below W.heap.size W w' :=
  (new_any c W).mono fun e w' h => h.elim (fun h => ⟨h.2.1, h.2.2⟩) fun h => absurd h.1 he
theorem nw_r0 {c : CfgV} (he : cfgE c ≠ 0) (W : World) : Calls Tryz.prog 21 #[c.v] W fun e w' => e = .returned (.tuple #[.pointer none, .int .i64 (cfgE c)]) ∧ Below W.heap.size W w' :=
  (rnew_any c W).mono fun e w' h => h.elim (fun h => ⟨h.2.1, h.2.2⟩) fun h => absurd h.1 he
theorem keys_long1 (c d : CfgV) (p p2 : Option Addr) (cp cp2 : Nat) (l k : List ActV) (w : World) (h : 2000 < c.text.size ∨ 60 < l.length) :
    Calls Tryz.prog 8 #[c.v, d.v, .slice p l.length cp, .slice p2 k.length cp2] w fun e w' => e = .returned (.bool true) ∧ Below w.heap.size w w' := by
  have hB0 := ((Below.refl w.heap.size w).alloc (Nat.le_refl _) (.cells #[.int .i64 c.slots, .int .u64 c.gens, .int .i64 c.clients, .int .i64 c.readers, .int .i64 c.queue, .int .i64 c.batch, .int .i64 c.feed, .string c.text] 24)).alloc (by simp) (.cells #[.int .i64 d.slots, .int .u64 d.gens, .int .i64 d.clients, .int .i64 d.readers, .int .i64 d.queue, .int .i64 d.batch, .int .i64 d.feed, .string d.text] 24)
  have hz0 := (heap_alloc_old (w.alloc (.cells #[.int .i64 c.slots, .int .u64 c.gens, .int .i64 c.clients, .int .i64 c.readers, .int .i64 c.queue, .int .i64 c.batch, .int .i64 c.feed, .string c.text] 24)) (.cells #[.int .i64 d.slots, .int .u64 d.gens, .int .i64 d.clients, .int .i64 d.readers, .int .i64 d.queue, .int .i64 d.batch, .int .i64 d.feed, .string d.text] 24) (by simp : w.heap.size < _)).trans (heap_alloc_new w (.cells #[.int .i64 c.slots, .int .u64 c.gens, .int .i64 c.clients, .int .i64 c.readers, .int .i64 c.queue, .int .i64 c.batch, .int .i64 c.feed, .string c.text] 24))
  have hy0 := heap_alloc_new (w.alloc (.cells #[.int .i64 c.slots, .int .u64 c.gens, .int .i64 c.clients, .int .i64 c.readers, .int .i64 c.queue, .int .i64 c.batch, .int .i64 c.feed, .string c.text] 24)) (.cells #[.int .i64 d.slots, .int .u64 d.gens, .int .i64 d.clients, .int .i64 d.readers, .int .i64 d.queue, .int .i64 d.batch, .int .i64 d.feed, .string d.text] 24)
  rw [World.size_alloc] at hy0
  have hlo := fun W => long_any c l.length W
  have hld := fun W => long_any d k.length W
  rw [show (decide (2000 < c.text.size) || decide (60 < l.length)) = true by simp; omega] at hlo
  unfold CfgV.v at *
  go_enter Tryz.func8, Tryz.ntmps8
  go_wp2_with (first | (go_at_call 13; refine (known_any _).mono ?_; rintro e w9 ⟨rfl, hb9⟩) | (go_at_call 12; with_reducible refine (hlo _).mono ?_; rintro e w1 ⟨rfl, hb1⟩; have hB1 := hB0.trans (hb1.mono hB0.size); have hz1 := (hb1.block _ (Array.getElem?_eq_some_iff.1 hz0).1).trans hz0; have hy1 := (hb1.block _ (Array.getElem?_eq_some_iff.1 hy0).1).trans hy0; obtain ⟨a10, a11, a12, a13, a14, a15, a16, a17⟩ := blk8 hy1))
  go_returns
  exact ⟨rfl, hB1.trans (hb9.mono hB1.size)⟩
theorem keys_long2 (c d : CfgV) (p p2 : Option Addr) (cp cp2 : Nat) (l k : List ActV) (w : World) (h0 : c.text.size ≤ 2000) (h1 : l.length ≤ 60) (h : 2000 < d.text.size ∨ 60 < k.length) :
    Calls Tryz.prog 8 #[c.v, d.v, .slice p l.length cp, .slice p2 k.length cp2] w fun e w' => e = .returned (.bool true) ∧ Below w.heap.size w w' := by
  have hB0 := ((Below.refl w.heap.size w).alloc (Nat.le_refl _) (.cells #[.int .i64 c.slots, .int .u64 c.gens, .int .i64 c.clients, .int .i64 c.readers, .int .i64 c.queue, .int .i64 c.batch, .int .i64 c.feed, .string c.text] 24)).alloc (by simp) (.cells #[.int .i64 d.slots, .int .u64 d.gens, .int .i64 d.clients, .int .i64 d.readers, .int .i64 d.queue, .int .i64 d.batch, .int .i64 d.feed, .string d.text] 24)
  have hz0 := (heap_alloc_old (w.alloc (.cells #[.int .i64 c.slots, .int .u64 c.gens, .int .i64 c.clients, .int .i64 c.readers, .int .i64 c.queue, .int .i64 c.batch, .int .i64 c.feed, .string c.text] 24)) (.cells #[.int .i64 d.slots, .int .u64 d.gens, .int .i64 d.clients, .int .i64 d.readers, .int .i64 d.queue, .int .i64 d.batch, .int .i64 d.feed, .string d.text] 24) (by simp : w.heap.size < _)).trans (heap_alloc_new w (.cells #[.int .i64 c.slots, .int .u64 c.gens, .int .i64 c.clients, .int .i64 c.readers, .int .i64 c.queue, .int .i64 c.batch, .int .i64 c.feed, .string c.text] 24))
  have hy0 := heap_alloc_new (w.alloc (.cells #[.int .i64 c.slots, .int .u64 c.gens, .int .i64 c.clients, .int .i64 c.readers, .int .i64 c.queue, .int .i64 c.batch, .int .i64 c.feed, .string c.text] 24)) (.cells #[.int .i64 d.slots, .int .u64 d.gens, .int .i64 d.clients, .int .i64 d.readers, .int .i64 d.queue, .int .i64 d.batch, .int .i64 d.feed, .string d.text] 24)
  rw [World.size_alloc] at hy0
  have hlo := fun W => long_any c l.length W
  have hld := fun W => long_any d k.length W
  rw [show (decide (2000 < c.text.size) || decide (60 < l.length)) = false by simp; omega] at hlo
  rw [show (decide (2000 < d.text.size) || decide (60 < k.length)) = true by simp; omega] at hld
  unfold CfgV.v at *
  go_enter Tryz.func8, Tryz.ntmps8
  go_wp2_with (first | (go_at_call 13; refine (known_any _).mono ?_; rintro e w9 ⟨rfl, hb9⟩) | (go_at_call 12; have hx := hB1; with_reducible refine (hld _).mono ?_; rintro e w2 ⟨rfl, hb2⟩; have hB2 := hB1.trans (hb2.mono hB1.size); have hz2 := (hb2.block _ (Array.getElem?_eq_some_iff.1 hz1).1).trans hz1; have hy2 := (hb2.block _ (Array.getElem?_eq_some_iff.1 hy1).1).trans hy1; obtain ⟨a20, a21, a22, a23, a24, a25, a26, a27⟩ := blk8 hz2) | (go_at_call 12; with_reducible refine (hlo _).mono ?_; rintro e w1 ⟨rfl, hb1⟩; have hB1 := hB0.trans (hb1.mono hB0.size); have hz1 := (hb1.block _ (Array.getElem?_eq_some_iff.1 hz0).1).trans hz0; have hy1 := (hb1.block _ (Array.getElem?_eq_some_iff.1 hy0).1).trans hy0; obtain ⟨a10, a11, a12, a13, a14, a15, a16, a17⟩ := blk8 hy1))
  go_returns
  exact ⟨rfl, hB2.trans (hb9.mono hB2.size)⟩
theorem keys_e1 (c d : CfgV) (p p2 : Option Addr) (cp cp2 : Nat) (l k : List ActV) (w : World) (hc : cfgE c ≠ 0) (hd : cfgE d = 0) (h0 : c.text.size ≤ 2000) (h1 : l.length ≤ 60) (h3 : d.text.size ≤ 2000) (h4 : k.length ≤ 60) :
    Calls Tryz.prog 8 #[c.v, d.v, .slice p l.length cp, .slice p2 k.length cp2] w fun e w' => e = .returned (.bool true) ∧ Below w.heap.size w w' := by
  have hB0 := ((Below.refl w.heap.size w).alloc (Nat.le_refl _) (.cells #[.int .i64 c.slots, .int .u64 c.gens, .int .i64 c.clients, .int .i64 c.readers, .int .i64 c.queue, .int .i64 c.batch, .int .i64 c.feed, .string c.text] 24)).alloc (by simp) (.cells #[.int .i64 d.slots, .int .u64 d.gens, .int .i64 d.clients, .int .i64 d.readers, .int .i64 d.queue, .int .i64 d.batch, .int .i64 d.feed, .string d.text] 24)
  have hz0 := (heap_alloc_old (w.alloc (.cells #[.int .i64 c.slots, .int .u64 c.gens, .int .i64 c.clients, .int .i64 c.readers, .int .i64 c.queue, .int .i64 c.batch, .int .i64 c.feed, .string c.text] 24)) (.cells #[.int .i64 d.slots, .int .u64 d.gens, .int .i64 d.clients, .int .i64 d.readers, .int .i64 d.queue, .int .i64 d.batch, .int .i64 d.feed, .string d.text] 24) (by simp : w.heap.size < _)).trans (heap_alloc_new w (.cells #[.int .i64 c.slots, .int .u64 c.gens, .int .i64 c.clients, .int .i64 c.readers, .int .i64 c.queue, .int .i64 c.batch, .int .i64 c.feed, .string c.text] 24))
  have hy0 := heap_alloc_new (w.alloc (.cells #[.int .i64 c.slots, .int .u64 c.gens, .int .i64 c.clients, .int .i64 c.readers, .int .i64 c.queue, .int .i64 c.batch, .int .i64 c.feed, .string c.text] 24)) (.cells #[.int .i64 d.slots, .int .u64 d.gens, .int .i64 d.clients, .int .i64 d.readers, .int .i64 d.queue, .int .i64 d.batch, .int .i64 d.feed, .string d.text] 24)
  rw [World.size_alloc] at hy0
  have hlo := fun W => long_any c l.length W
  have hld := fun W => long_any d k.length W
  rw [show (decide (2000 < c.text.size) || decide (60 < l.length)) = false by simp; omega] at hlo
  rw [show (decide (2000 < d.text.size) || decide (60 < k.length)) = false by simp; omega] at hld
  have hm1 := fun W => nw_m0 hc W
  have hm2 := fun W => nw_m hd W
  have hr1 := fun W => nw_r0 hc W
  have hr2 := fun W => nw_r hd W
  have t1 : (cfgE c == 0) = false := by simpa using hc
  have t1a : decide (cfgE c = 0) = false := by simpa using hc
  have t1b : (cfgE c = 0) = False := by simpa using hc
  have t1c : (cfgE c != 0) = true := by simpa using hc
  generalize cfgE c = E1 at *
  clear hc hd h0 h1 h3 h4
  unfold CfgV.v at *
  go_enter Tryz.func8, Tryz.ntmps8
  go_wp2_with (first | (go_at_call 13; refine (known_any _).mono ?_; rintro e w9 ⟨rfl, hb9⟩) | (go_at_call 21; have hx := hB5; with_reducible refine (hr2 _).mono ?_; rintro e w6 ⟨b6, M6, rfl, hM6, hs6, hb6, ho6⟩; have hB6 := hB5.trans (hb6.mono hB5.size)) | (go_at_call 21; with_reducible refine (hr1 _).mono ?_; rintro e w5 ⟨rfl, hb5⟩; have hB5 := hB4.trans (hb5.mono hB4.size); have hz5 := (hb5.block _ (Array.getElem?_eq_some_iff.1 hz4).1).trans hz4; have hy5 := (hb5.block _ (Array.getElem?_eq_some_iff.1 hy4).1).trans hy4; obtain ⟨a50, a51, a52, a53, a54, a55, a56, a57⟩ := blk8 hy5) | (go_at_call 20; have hx := hB3; with_reducible refine (hm2 _).mono ?_; rintro e w4 ⟨b4, M4, rfl, hM4, hs4, hb4, ho4⟩; have hB4 := hB3.trans (hb4.mono hB3.size); have hz4 := (hb4.block _ (Array.getElem?_eq_some_iff.1 hz3).1).trans hz3; have hy4 := (hb4.block _ (Array.getElem?_eq_some_iff.1 hy3).1).trans hy3; obtain ⟨a40, a41, a42, a43, a44, a45, a46, a47⟩ := blk8 hz4) | (go_at_call 20; with_reducible refine (hm1 _).mono ?_; rintro e w3 ⟨rfl, hb3⟩; have hB3 := hB2.trans (hb3.mono hB2.size); have hz3 := (hb3.block _ (Array.getElem?_eq_some_iff.1 hz2).1).trans hz2; have hy3 := (hb3.block _ (Array.getElem?_eq_some_iff.1 hy2).1).trans hy2; obtain ⟨a30, a31, a32, a33, a34, a35, a36, a37⟩ := blk8 hy3) | (go_at_call 12; have hx := hB1; with_reducible refine (hld _).mono ?_; rintro e w2 ⟨rfl, hb2⟩; have hB2 := hB1.trans (hb2.mono hB1.size); have hz2 := (hb2.block _ (Array.getElem?_eq_some_iff.1 hz1).1).trans hz1; have hy2 := (hb2.block _ (Array.getElem?_eq_some_iff.1 hy1).1).trans hy1; obtain ⟨a20, a21, a22, a23, a24, a25, a26, a27⟩ := blk8 hz2) | (go_at_call 12; with_reducible refine (hlo _).mono ?_; rintro e w1 ⟨rfl, hb1⟩; have hB1 := hB0.trans (hb1.mono hB0.size); have hz1 := (hb1.block _ (Array.getElem?_eq_some_iff.1 hz0).1).trans hz0; have hy1 := (hb1.block _ (Array.getElem?_eq_some_iff.1 hy0).1).trans hy0; obtain ⟨a10, a11, a12, a13, a14, a15, a16, a17⟩ := blk8 hy1))
  go_returns
  exact ⟨rfl, hB6.trans (hb9.mono hB6.size)⟩
theorem keys_e2 (c d : CfgV) (p p2 : Option Addr) (cp cp2 : Nat) (l k : List ActV) (w : World) (hc : cfgE c = 0) (hd : cfgE d ≠ 0) (h0 : c.text.size ≤ 2000) (h1 : l.length ≤ 60) (h3 : d.text.size ≤ 2000) (h4 : k.length ≤ 60) :
    Calls Tryz.prog 8 #[c.v, d.v, .slice p l.length cp, .slice p2 k.length cp2] w fun e w' => e = .returned (.bool true) ∧ Below w.heap.size w w' := by
  have hB0 := ((Below.refl w.heap.size w).alloc (Nat.le_refl _) (.cells #[.int .i64 c.slots, .int .u64 c.gens, .int .i64 c.clients, .int .i64 c.readers, .int .i64 c.queue, .int .i64 c.batch, .int .i64 c.feed, .string c.text] 24)).alloc (by simp) (.cells #[.int .i64 d.slots, .int .u64 d.gens, .int .i64 d.clients, .int .i64 d.readers, .int .i64 d.queue, .int .i64 d.batch, .int .i64 d.feed, .string d.text] 24)
  have hz0 := (heap_alloc_old (w.alloc (.cells #[.int .i64 c.slots, .int .u64 c.gens, .int .i64 c.clients, .int .i64 c.readers, .int .i64 c.queue, .int .i64 c.batch, .int .i64 c.feed, .string c.text] 24)) (.cells #[.int .i64 d.slots, .int .u64 d.gens, .int .i64 d.clients, .int .i64 d.readers, .int .i64 d.queue, .int .i64 d.batch, .int .i64 d.feed, .string d.text] 24) (by simp : w.heap.size < _)).trans (heap_alloc_new w (.cells #[.int .i64 c.slots, .int .u64 c.gens, .int .i64 c.clients, .int .i64 c.readers, .int .i64 c.queue, .int .i64 c.batch, .int .i64 c.feed, .string c.text] 24))
  have hy0 := heap_alloc_new (w.alloc (.cells #[.int .i64 c.slots, .int .u64 c.gens, .int .i64 c.clients, .int .i64 c.readers, .int .i64 c.queue, .int .i64 c.batch, .int .i64 c.feed, .string c.text] 24)) (.cells #[.int .i64 d.slots, .int .u64 d.gens, .int .i64 d.clients, .int .i64 d.readers, .int .i64 d.queue, .int .i64 d.batch, .int .i64 d.feed, .string d.text] 24)
  rw [World.size_alloc] at hy0
  have hlo := fun W => long_any c l.length W
  have hld := fun W => long_any d k.length W
  rw [show (decide (2000 < c.text.size) || decide (60 < l.length)) = false by simp; omega] at hlo
  rw [show (decide (2000 < d.text.size) || decide (60 < k.length)) = false by simp; omega] at hld
  have hm1 := fun W => nw_m hc W
  have hm2 := fun W => nw_m0 hd W
  have hr1 := fun W => nw_r hc W
  have hr2 := fun W => nw_r0 hd W
  have t2 : (cfgE d == 0) = false := by simpa using hd
  have t2a : decide (cfgE d = 0) = false := by simpa using hd
  have t2b : (cfgE d = 0) = False := by simpa using hd
  have t2c : (cfgE d != 0) = true := by simpa using hd
  generalize cfgE d = E2 at *
  clear hc hd h0 h1 h3 h4
  unfold CfgV.v at *
  go_enter Tryz.func8, Tryz.ntmps8
  go_wp2_with (first | (go_at_call 13; refine (known_any _).mono ?_; rintro e w9 ⟨rfl, hb9⟩) | (go_at_call 21; have hx := hB5; with_reducible refine (hr2 _).mono ?_; rintro e w6 ⟨rfl, hb6⟩; have hB6 := hB5.trans (hb6.mono hB5.size)) | (go_at_call 21; with_reducible refine (hr1 _).mono ?_; rintro e w5 ⟨b5, M5, rfl, hM5, hs5, hb5, ho5⟩; have hB5 := hB4.trans (hb5.mono hB4.size); have hz5 := (hb5.block _ (Array.getElem?_eq_some_iff.1 hz4).1).trans hz4; have hy5 := (hb5.block _ (Array.getElem?_eq_some_iff.1 hy4).1).trans hy4; obtain ⟨a50, a51, a52, a53, a54, a55, a56, a57⟩ := blk8 hy5) | (go_at_call 20; have hx := hB3; with_reducible refine (hm2 _).mono ?_; rintro e w4 ⟨rfl, hb4⟩; have hB4 := hB3.trans (hb4.mono hB3.size); have hz4 := (hb4.block _ (Array.getElem?_eq_some_iff.1 hz3).1).trans hz3; have hy4 := (hb4.block _ (Array.getElem?_eq_some_iff.1 hy3).1).trans hy3; obtain ⟨a40, a41, a42, a43, a44, a45, a46, a47⟩ := blk8 hz4) | (go_at_call 20; with_reducible refine (hm1 _).mono ?_; rintro e w3 ⟨b3, M3, rfl, hM3, hs3, hb3, ho3⟩; have hB3 := hB2.trans (hb3.mono hB2.size); have hz3 := (hb3.block _ (Array.getElem?_eq_some_iff.1 hz2).1).trans hz2; have hy3 := (hb3.block _ (Array.getElem?_eq_some_iff.1 hy2).1).trans hy2; obtain ⟨a30, a31, a32, a33, a34, a35, a36, a37⟩ := blk8 hy3) | (go_at_call 12; have hx := hB1; with_reducible refine (hld _).mono ?_; rintro e w2 ⟨rfl, hb2⟩; have hB2 := hB1.trans (hb2.mono hB1.size); have hz2 := (hb2.block _ (Array.getElem?_eq_some_iff.1 hz1).1).trans hz1; have hy2 := (hb2.block _ (Array.getElem?_eq_some_iff.1 hy1).1).trans hy1; obtain ⟨a20, a21, a22, a23, a24, a25, a26, a27⟩ := blk8 hz2) | (go_at_call 12; with_reducible refine (hlo _).mono ?_; rintro e w1 ⟨rfl, hb1⟩; have hB1 := hB0.trans (hb1.mono hB0.size); have hz1 := (hb1.block _ (Array.getElem?_eq_some_iff.1 hz0).1).trans hz0; have hy1 := (hb1.block _ (Array.getElem?_eq_some_iff.1 hy0).1).trans hy0; obtain ⟨a10, a11, a12, a13, a14, a15, a16, a17⟩ := blk8 hy1))
  go_returns
  exact ⟨rfl, hB6.trans (hb9.mono hB6.size)⟩
theorem keys_e3 (c d : CfgV) (p p2 : Option Addr) (cp cp2 : Nat) (l k : List ActV) (w : World) (hc : cfgE c ≠ 0) (hd : cfgE d ≠ 0) (h0 : c.text.size ≤ 2000) (h1 : l.length ≤ 60) (h3 : d.text.size ≤ 2000) (h4 : k.length ≤ 60) :
    Calls Tryz.prog 8 #[c.v, d.v, .slice p l.length cp, .slice p2 k.length cp2] w fun e w' => e = .returned (.bool true) ∧ Below w.heap.size w w' := by
  have hB0 := ((Below.refl w.heap.size w).alloc (Nat.le_refl _) (.cells #[.int .i64 c.slots, .int .u64 c.gens, .int .i64 c.clients, .int .i64 c.readers, .int .i64 c.queue, .int .i64 c.batch, .int .i64 c.feed, .string c.text] 24)).alloc (by simp) (.cells #[.int .i64 d.slots, .int .u64 d.gens, .int .i64 d.clients, .int .i64 d.readers, .int .i64 d.queue, .int .i64 d.batch, .int .i64 d.feed, .string d.text] 24)
  have hz0 := (heap_alloc_old (w.alloc (.cells #[.int .i64 c.slots, .int .u64 c.gens, .int .i64 c.clients, .int .i64 c.readers, .int .i64 c.queue, .int .i64 c.batch, .int .i64 c.feed, .string c.text] 24)) (.cells #[.int .i64 d.slots, .int .u64 d.gens, .int .i64 d.clients, .int .i64 d.readers, .int .i64 d.queue, .int .i64 d.batch, .int .i64 d.feed, .string d.text] 24) (by simp : w.heap.size < _)).trans (heap_alloc_new w (.cells #[.int .i64 c.slots, .int .u64 c.gens, .int .i64 c.clients, .int .i64 c.readers, .int .i64 c.queue, .int .i64 c.batch, .int .i64 c.feed, .string c.text] 24))
  have hy0 := heap_alloc_new (w.alloc (.cells #[.int .i64 c.slots, .int .u64 c.gens, .int .i64 c.clients, .int .i64 c.readers, .int .i64 c.queue, .int .i64 c.batch, .int .i64 c.feed, .string c.text] 24)) (.cells #[.int .i64 d.slots, .int .u64 d.gens, .int .i64 d.clients, .int .i64 d.readers, .int .i64 d.queue, .int .i64 d.batch, .int .i64 d.feed, .string d.text] 24)
  rw [World.size_alloc] at hy0
  have hlo := fun W => long_any c l.length W
  have hld := fun W => long_any d k.length W
  rw [show (decide (2000 < c.text.size) || decide (60 < l.length)) = false by simp; omega] at hlo
  rw [show (decide (2000 < d.text.size) || decide (60 < k.length)) = false by simp; omega] at hld
  have hm1 := fun W => nw_m0 hc W
  have hm2 := fun W => nw_m0 hd W
  have hr1 := fun W => nw_r0 hc W
  have hr2 := fun W => nw_r0 hd W
  have t1 : (cfgE c == 0) = false := by simpa using hc
  have t1a : decide (cfgE c = 0) = false := by simpa using hc
  have t1b : (cfgE c = 0) = False := by simpa using hc
  have t1c : (cfgE c != 0) = true := by simpa using hc
  generalize cfgE c = E1 at *
  have t2 : (cfgE d == 0) = false := by simpa using hd
  have t2a : decide (cfgE d = 0) = false := by simpa using hd
  have t2b : (cfgE d = 0) = False := by simpa using hd
  have t2c : (cfgE d != 0) = true := by simpa using hd
  generalize cfgE d = E2 at *
  clear hc hd h0 h1 h3 h4
  unfold CfgV.v at *
  go_enter Tryz.func8, Tryz.ntmps8
  go_wp2_with (first | (go_at_call 13; refine (known_any _).mono ?_; rintro e w9 ⟨rfl, hb9⟩) | (go_at_call 21; have hx := hB5; with_reducible refine (hr2 _).mono ?_; rintro e w6 ⟨rfl, hb6⟩; have hB6 := hB5.trans (hb6.mono hB5.size)) | (go_at_call 21; with_reducible refine (hr1 _).mono ?_; rintro e w5 ⟨rfl, hb5⟩; have hB5 := hB4.trans (hb5.mono hB4.size); have hz5 := (hb5.block _ (Array.getElem?_eq_some_iff.1 hz4).1).trans hz4; have hy5 := (hb5.block _ (Array.getElem?_eq_some_iff.1 hy4).1).trans hy4; obtain ⟨a50, a51, a52, a53, a54, a55, a56, a57⟩ := blk8 hy5) | (go_at_call 20; have hx := hB3; with_reducible refine (hm2 _).mono ?_; rintro e w4 ⟨rfl, hb4⟩; have hB4 := hB3.trans (hb4.mono hB3.size); have hz4 := (hb4.block _ (Array.getElem?_eq_some_iff.1 hz3).1).trans hz3; have hy4 := (hb4.block _ (Array.getElem?_eq_some_iff.1 hy3).1).trans hy3; obtain ⟨a40, a41, a42, a43, a44, a45, a46, a47⟩ := blk8 hz4) | (go_at_call 20; with_reducible refine (hm1 _).mono ?_; rintro e w3 ⟨rfl, hb3⟩; have hB3 := hB2.trans (hb3.mono hB2.size); have hz3 := (hb3.block _ (Array.getElem?_eq_some_iff.1 hz2).1).trans hz2; have hy3 := (hb3.block _ (Array.getElem?_eq_some_iff.1 hy2).1).trans hy2; obtain ⟨a30, a31, a32, a33, a34, a35, a36, a37⟩ := blk8 hy3) | (go_at_call 12; have hx := hB1; with_reducible refine (hld _).mono ?_; rintro e w2 ⟨rfl, hb2⟩; have hB2 := hB1.trans (hb2.mono hB1.size); have hz2 := (hb2.block _ (Array.getElem?_eq_some_iff.1 hz1).1).trans hz1; have hy2 := (hb2.block _ (Array.getElem?_eq_some_iff.1 hy1).1).trans hy1; obtain ⟨a20, a21, a22, a23, a24, a25, a26, a27⟩ := blk8 hz2) | (go_at_call 12; with_reducible refine (hlo _).mono ?_; rintro e w1 ⟨rfl, hb1⟩; have hB1 := hB0.trans (hb1.mono hB0.size); have hz1 := (hb1.block _ (Array.getElem?_eq_some_iff.1 hz0).1).trans hz0; have hy1 := (hb1.block _ (Array.getElem?_eq_some_iff.1 hy0).1).trans hy0; obtain ⟨a10, a11, a12, a13, a14, a15, a16, a17⟩ := blk8 hy1))
  go_returns
  exact ⟨rfl, hB6.trans (hb9.mono hB6.size)⟩
theorem walkModelKeys (c d : CfgV) (p : Option Addr) (cp : Nat) (l : List ActV) (p2 : Option Addr) (cp2 : Nat) (k : List ActV) (w : World) (hA : ArgActs w p l) (hA2 : ArgActs w p2 k) :
    Calls Tryz.prog 8 #[c.v, d.v, .slice p l.length cp, .slice p2 k.length cp2] w fun e w' => e = .returned (.bool true) ∧ Below w.heap.size w w' := by
  by_cases h1 : 2000 < c.text.size ∨ 60 < l.length
  · exact keys_long1 c d p p2 cp cp2 l k w h1
  by_cases h2 : 2000 < d.text.size ∨ 60 < k.length
  · exact keys_long2 c d p p2 cp cp2 l k w (by omega) (by omega) h2
  by_cases hc : cfgE c = 0 <;> by_cases hd : cfgE d = 0
  · exact keys_main c d p p2 cp cp2 l k w hA hA2 hc hd (by omega) (by omega) (by omega) (by omega)
  · exact keys_e2 c d p p2 cp cp2 l k w hc hd (by omega) (by omega) (by omega) (by omega)
  · exact keys_e1 c d p p2 cp cp2 l k w hc hd (by omega) (by omega) (by omega) (by omega)
  · exact keys_e3 c d p p2 cp cp2 l k w hc hd (by omega) (by omega) (by omega) (by omega)
end Go.Proofs.YtlealeecmmpckaaGreat
namespace Go.Proofs.YtlealeecmmpckaaGreat.modelKeys
set_option linter.unusedVariables false
set_option linter.unusedSimpArgs false
set_option maxRecDepth 100000
set_option maxHeartbeats 8000000
open Go.ChangeShapes Go.WideShapes Go.ChangeAt Go.RowKit
open Go.ChangeMaps (open_string shut_string)
set_option linter.unusedVariables false
theorem lifted (os : Os) (started : os.Started) (H : Type) (enc : TypeId × Value → H) :
    ReturnsInHanded {} Tryz.checked os 8 .any (Rows.modelKeysSpec.pre6 enc Tryz.prog Tryz.f8 Rows.modelKeysRow.domain false) (Rows.modelKeysSpec.post enc Tryz.prog Tryz.f8 false true false false) := by
  refine returnsInHanded_of_change_sized (C := Tryz.checked) own started (by kernel_rfl) Tryz.func8
    (ChangeSpec.witness6 (enc := enc) (C := Tryz.checked) false ⟨#[], #[.agg #[.int .i64 0, .int .u64 0, .int .i64 0, .int .i64 0, .int .i64 0, .int .i64 0, .int .i64 0, .string ⟨#[]⟩], .agg #[.int .i64 0, .int .u64 0, .int .i64 0, .int .i64 0, .int .i64 0, .int .i64 0, .int .i64 0, .string ⟨#[]⟩], .slice none 0 0, .slice none 0 0], []⟩ 8 (by kernel_rfl) (by kernel_rfl) (by kernel_rfl) (by kernel_rfl)) ?_
  intro W base args ds gs before hval0 hW hcnd hsz0 _
  have hval : ∀ (j : Nat) t v, Tryz.f8.params[j]? = some t → args[j]? = some v → Value.okWide Tryz.prog W .any base t v := hval0
  have hW' := hW
  obtain ⟨p, q, hA0, hV, rfl, hfz, hnd⟩ := hW
  have hA : DataW.TrodAll enc Tryz.prog W 0 (fun _ => true) true Tryz.f8.params.toList args.toList ds p := hA0
  rw [Tryz.params8] at hA hval
  obtain ⟨v0, vs0, d0, ds0, p0, q0, hargs, rfl, rfl, h0, r0⟩ := trodAll_cons hA
  obtain ⟨v1, vs1, d1, ds1, p1, q1, rfl, rfl, rfl, h1, r1⟩ := trodAll_cons r0
  obtain ⟨v2, vs2, d2, ds2, p2, q2, rfl, rfl, rfl, h2, r2⟩ := trodAll_cons r1
  obtain ⟨v3, vs3, d3, ds3, p3, q3, rfl, rfl, rfl, h3, r3⟩ := trodAll_cons r2
  obtain ⟨rfl, rfl, rfl⟩ := trodAll_nil r3
  obtain rfl : args = #[v0, v1, v2, v3] := by cases args; simp_all
  obtain ⟨rfl, rfl⟩ := trodVars_none hV
  obtain ⟨c0, rfl⟩ := open_cfg (hval 0 24 v0 rfl rfl) h0
  obtain ⟨c1, rfl⟩ := open_cfg (hval 1 24 v1 rfl rfl) h1
  obtain ⟨q2, c2, l2, rfl, w2⟩ := open_acts (hval 2 25 v2 rfl rfl) h2
  obtain ⟨q3, c3, l3, rfl, w3⟩ := open_acts (hval 3 25 v3 rfl rfl) h3
  clear hA0 hval0
  (try simp only [List.append_nil, List.nil_append] at hW')
  refine (walkModelKeys c0 c1 q2 c2 l2 q3 c3 l3 W w2 w3).mono fun e W' ⟨he, hg⟩ => ?_
  subst he
  have hlt0 : ∀ x ∈ p0, x.block < W.heap.size := fun x hx => hW'.lt x (by simp [hx])
  have hlt1 : ∀ x ∈ p1, x.block < W.heap.size := fun x hx => hW'.lt x (by simp [hx])
  have hlt2 : ∀ x ∈ p2, x.block < W.heap.size := fun x hx => hW'.lt x (by simp [hx])
  have hlt3 : ∀ x ∈ p3, x.block < W.heap.size := fun x hx => hW'.lt x (by simp [hx])
  exact ⟨_, rfl, post_of_below (pa := (p0 ++ (p1 ++ (p2 ++ (p3 ++ []))))) (pv := []) hW' (fun _ _ _ => (trodAll_cons_mk (shut_bool Tryz.underlying4 _) trodAll_mk0)) (fun sp hsp => (trodAll_cons_mk (WideElems.Trod_stays (by kernel_rfl) (by kernel_rfl) (of_decide_eq_true (by kernel_rfl)) h0 (fun x hx => hg.same (hlt0 x hx)) (fun x hx => hsp x (by simp [hx]))) (trodAll_cons_mk (WideElems.Trod_stays (by kernel_rfl) (by kernel_rfl) (of_decide_eq_true (by kernel_rfl)) h1 (fun x hx => hg.same (hlt1 x hx)) (fun x hx => hsp x (by simp [hx]))) (trodAll_cons_mk (WideElems.Trod_stays (by kernel_rfl) (by kernel_rfl) (of_decide_eq_true (by kernel_rfl)) h2 (fun x hx => hg.same (hlt2 x hx)) (fun x hx => hsp x (by simp [hx]))) (trodAll_cons_mk (WideElems.Trod_stays (by kernel_rfl) (by kernel_rfl) (of_decide_eq_true (by kernel_rfl)) h3 (fun x hx => hg.same (hlt3 x hx)) (fun x hx => hsp x (by simp [hx]))) trodAll_mk0))))) (fun _ _ => rfl) (by simp)
    hg (ok_one (by kernel_rfl) rfl (okWide_bool_mk Tryz.underlying4 _))⟩
theorem proved : Rows.ModelKeysSaid :=
  OpenClaim.holds_of_wide 8 Tryz.f8 rfl rfl rfl rfl rfl rfl rfl ⟨rfl, rfl, rfl, rfl, rfl⟩ rfl rfl rfl rfl rfl (by kernel_rfl) Tryz.func8 (by kernel_rfl)
    (of_decide_eq_true (by kernel_rfl)) (by unfold Func.isWrapper; first | (rw [if_pos (by decide +kernel)]; kernel_rfl) | (rw [if_neg (by decide +kernel)]; exact ⟨rfl, rfl⟩))
    (fun os started H enc _ => lifted os started H enc)
#print axioms proved
end Go.Proofs.YtlealeecmmpckaaGreat.modelKeys
