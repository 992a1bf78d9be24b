/- ModelNew: the law returns true for every input, and leaves its arguments as they were. -/
import Derived.Test.YtlealeecmmpckaaGreatBue
import Derived.Test.YtlealeecmmpckaaGreatBui
import Derived.Test.YtlealeecmmpckaaGreatBum
import Derived.Test.YtlealeecmmpckaaGreatBul
import Derived.Test.YtlealeecmmpckaaGreatBug
import Derived.Test.YtlealeecmmpckaaGreatBuh
import Derived.Test.YtlealeecmmpckaaGreatBua
import Derived.Test.YtlealeecmmpckaaGreatBun
import Derived.Laws.AppendOwn
import Derived.Deep.RegionLaw
import Derived.Carry
namespace Go.Proofs.YtlealeecmmpckaaGreat
set_option linter.unusedVariables false
set_option linter.unusedSimpArgs false
open Go.RowKit Go.Lib Go.Shelf

/-- The reference's model: what it holds, and the values of its slices. -/
structure RM where
  text : ByteArray
  mv : Value
  marks : List MkV
  number : Int
  closed : Bool
  readers : Nat
  bv : Value
  sv : Value
  seats : List SeM
def RM.st (M : RM) : MS := ⟨M.text, M.marks, M.number, M.closed, M.readers, M.seats.map (·.st)⟩
def rdL (M : RM) : List Value := [.int .i64 M.seats.length, .int .i64 M.readers, .string M.text, M.mv, .int .i64 M.number, .bool M.closed, M.bv, M.sv]
def subL (l : List SeM) : List Value := l.map (fun S => .bool S.sub)
def rowL (l : List SeM) : List Value := l.map (·.v)
structure RdAt (W : World) (b : Nat) (M : RM) : Prop where
  blk : W.heap[b]? = some (.cells (rdL M).toArray 108 (0, 0))
  marks : MOwn W 0 M.mv M.marks
  subs : W.ownsRow 0 4 1 M.bv M.seats.length (subL M.seats)
  snaps : W.ownsRow 0 109 1 M.sv M.seats.length (rowL M.seats)
  slots : ∀ S ∈ M.seats, W.ownsRow 0 114 4 S.v S.sl.length (slL S.sl)
  smarks : ∀ S ∈ M.seats, ∀ x ∈ S.sl, MOwn W 0 x.mv x.s.marks
  some_ : M.bv.ownBlock ≠ none ∧ ∀ S ∈ M.seats, S.v.ownBlock ≠ none
  nodup : (M.seats.map (·.v.ownBlock)).Nodup
/-- The blocks that an operation may change. -/
def RM.fp (M : RM) (b : Nat) (k : Nat) : Prop := k = b ∨ M.bv.ownBlock = some k ∨ ∃ S ∈ M.seats, S.v.ownBlock = some k
theorem RdAt.below {W W' : World} {b : Nat} {M : RM} (h : RdAt W b M) (hb : Below W.heap.size W W') : RdAt W' b M :=
  ⟨(hb.block b (Array.getElem?_eq_some_iff.1 h.blk).1).trans h.blk, own_below6 h.marks hb, own_below6 h.subs hb, own_below6 h.snaps hb, fun S hS => own_below6 (h.slots S hS) hb, fun S hS x hx => own_below6 (h.smarks S hS x hx) hb, h.some_, h.nodup⟩
/-- The model's own block is written. -/
theorem RdAt.upd {W W' : World} {b : Nat} {M M' : RM} (h : RdAt W b M) (hb : W'.heap[b]? = some (.cells (rdL M').toArray 108 (0, 0))) (hk : ∀ k, k < W.heap.size → k ≠ b → W'.heap[k]? = W.heap[k]?)
    (hm : MOwn W' 0 M'.mv M'.marks) (hbv : M'.bv = M.bv) (hsv : M'.sv = M.sv) (hse : M'.seats = M.seats) : RdAt W' b M' :=
  ⟨hb, hm, by rw [hbv, hse]; exact own_keep h.subs h.blk (by decide) hk, by rw [hsv, hse]; exact own_keep h.snaps h.blk (by decide) hk, fun S hS => own_keep (h.slots S (hse ▸ hS)) h.blk (by decide) hk,
    fun S hS x hx => own_keep (h.smarks S (hse ▸ hS) x hx) h.blk (by decide) hk, by rw [hbv, hse]; exact h.some_, by rw [hse]; exact h.nodup⟩
attribute [local go_sem, local simp] resF resL_len resL_ne rset0 rset1 rset2 rset3 rset4 rset5
theorem rfail_any (e : Int) (w : World) : Calls Tryz.prog 56 #[.int .i64 e] w fun r w' => r = .returned (.agg (resL (failR e)).toArray) ∧ Below w.heap.size w w' := by
  have hz := heap_alloc_new w (.cells (resL {}).toArray 36)
  have hst := res_st hz rfl
  go_enter Tryz.func56, Tryz.ntmps56
  go_wp2
  exact ⟨rfl, _, results_cell_row rfl _ _ _ _ _ _ _ rfl (setRow_heap _ _ _ _ _ _ hz) Tryz.underlying36 rfl (by kernel_rfl), rfl, below_row ((Below.refl _ w).alloc (Nat.le_refl _) _) (Nat.le_refl _) _⟩
end Go.Proofs.YtlealeecmmpckaaGreat
namespace Go.Proofs.YtlealeecmmpckaaGreat
set_option linter.unusedVariables false
set_option linter.unusedSimpArgs false
open Go.RowKit Go.Lib Go.Shelf

theorem mk_at {w : World} {b off k : Nat} {l : List MkV} {m : MkV} (h : ∀ (k : Nat) (m : MkV), l[k]? = some m → ∀ (i : Nat) (u : Value), (mkL m)[i]? = some u → w.cell? ⟨b, off + (k * 3 + i), none⟩ = some u) (hx : l[k]? = some m) :
    w.cell? ⟨b, off + k * 3, none⟩ = some (.int .u32 m.id) ∧ w.cell? ⟨b, off + k * 3 + 1, none⟩ = some (.int .i64 m.at_) ∧ w.cell? ⟨b, off + k * 3 + 2, none⟩ = some (.int .u8 m.grav) :=
  ⟨h k m hx 0 _ rfl, h k m hx 1 _ rfl, h k m hx 2 _ rfl⟩
def MCs (w : World) (b off : Nat) (l : List MkV) : Prop := ∀ (k : Nat) (m : MkV), l[k]? = some m → ∀ (i : Nat) (u : Value), (mkL m)[i]? = some u → w.cell? ⟨b, off + (k * 3 + i), none⟩ = some u
theorem mcs_of {W : World} {b off : Nat} {l : List MkV} (h : MRow W (some ⟨b, off, none⟩) l) : MCs W b off l := by
  rcases h with ⟨h1, _⟩ | ⟨b', off', h1, _, h3⟩
  · cases h1
  · injection h1 with h1; injection h1 with e1 e2 _; subst e1; subst e2; exact h3
theorem mrow_some {W : World} {a : Option Addr} {l : List MkV} (h : MRow W a l) (hl : l ≠ []) : ∃ b off, a = some ⟨b, off, none⟩ ∧ b < W.heap.size := by
  rcases h with ⟨_, h2⟩ | ⟨b, off, h1, h2, _⟩
  · exact absurd h2 hl
  · exact ⟨b, off, h1, h2⟩
theorem mkL_one (m : MkV) : ∀ u ∈ mkL m, u.oneCell' = true := by
  intro u hu
  unfold mkL at hu
  simp only [List.mem_cons, List.not_mem_nil, or_false] at hu
  rcases hu with rfl | rfl | rfl <;> rfl
theorem own_someR {W : World} {B n s c : Nat} {e : TypeId} {a : Option Addr} {xs : List Value} (h : W.ownsRow B e s (.slice a n c) n xs) (hn : n ≠ 0) : ∃ g, a = some ⟨g, 0, none⟩ := by
  rcases h.2 with ⟨_, e2⟩ | ⟨g, cap, cur, e1, _⟩
  · exact absurd e2 hn
  · injection e1 with e1 _ _; exact ⟨g, e1⟩
theorem own_caseR {W : World} {B n s c : Nat} {e : TypeId} {a : Option Addr} {xs : List Value} (h : W.ownsRow B e s (.slice a n c) n xs) : (a = none ∧ n = 0 ∧ c = 0) ∨ ∃ g, a = some ⟨g, 0, none⟩ ∧ n ≤ c := by
  rcases h.2 with ⟨e1, e2⟩ | ⟨g, cap, cur, e1, _, _, h3, _⟩
  · injection e1 with e1 _ e3; exact .inl ⟨e1, e2, e3⟩
  · injection e1 with e1 _ e3; exact .inr ⟨g, e1, by omega⟩
theorem mk_split (lo hi : List MkV) : mksL (lo ++ hi) = mksL lo ++ mksL hi := by unfold mksL; rw [List.flatMap_append]
theorem mk_len (l : List MkV) : (mksL l).length = l.length * 3 := by
  induction l with
  | nil => rfl
  | cons m l ih => show (mkL m ++ mksL l).length = _; rw [List.length_append, ih, List.length_cons]; show 3 + _ = _; omega
theorem mk_ones (l : List MkV) : ∀ u ∈ mksL l, u.oneCell' = true := by
  intro u hu
  unfold mksL at hu
  obtain ⟨m, _, hm⟩ := List.mem_flatMap.1 hu
  exact mkL_one m u hm
theorem src_lo {W : World} {B g cr : Nat} {rest lo hi : List MkV} (h : MOwn W B (.slice (some ⟨g, 0, none⟩) rest.length cr) rest) (he : rest = lo ++ hi) : ∀ j u, (mksL lo)[j]? = some u → W.cell? ((⟨g, 0, none⟩ : Addr).add j) = some u := by
  intro j u hj
  refine h.cells (g := g) rfl j u ?_
  rw [he, mk_split, List.getElem?_append_left (List.getElem?_eq_some_iff.1 hj).1]
  exact hj
theorem src_hi {W : World} {B g cr : Nat} {rest lo hi : List MkV} (h : MOwn W B (.slice (some ⟨g, 0, none⟩) rest.length cr) rest) (he : rest = lo ++ hi) : ∀ j u, (mksL hi)[j]? = some u → W.cell? ((⟨g, lo.length * 3, none⟩ : Addr).add j) = some u := by
  intro j u hj
  have := h.cells (g := g) rfl (lo.length * 3 + j) u (by
    rw [he, mk_split, List.getElem?_append_right (by rw [mk_len]; omega), mk_len, show lo.length * 3 + j - lo.length * 3 = j by omega]
    exact hj)
  have e1 : (⟨g, 0, none⟩ : Addr).add (lo.length * 3 + j) = ⟨g, lo.length * 3 + j, none⟩ := by unfold Addr.add; split <;> simp_all
  have e2 : (⟨g, lo.length * 3, none⟩ : Addr).add j = ⟨g, lo.length * 3 + j, none⟩ := by unfold Addr.add; split <;> simp_all
  rw [e1] at this; rw [e2]; exact this
theorem new_at {W : World} {g : Nat} {L : List Value} {T : TypeId} (h : W.heap[g]? = some (.cells L.toArray T (0, 0))) : ∀ (j : Nat) (u : Value), L[j]? = some u → W.cell? ((⟨g, 0, none⟩ : Addr).add j) = some u := by
  intro j u hj
  have e : (⟨g, 0, none⟩ : Addr).add j = ⟨g, j, none⟩ := by unfold Addr.add; split <;> simp_all
  rw [e]
  simp only [World.cell?, h]
  simpa using hj
theorem new_second (W : World) (o o2 : Obj) : ((W.alloc o).alloc o2).heap[W.heap.size + 1]? = some o2 := by
  have := heap_alloc_new (W.alloc o) o2
  rwa [World.size_alloc] at this
theorem own_empty (W : World) : (W.alloc (.cells #[] 81)).ownsRow W.heap.size 81 3 (.slice (some ⟨W.heap.size, 0, none⟩) 0 0) 0 [] :=
  ⟨rfl, .inr ⟨W.heap.size, 0, #[], rfl, Nat.le_refl _, heap_alloc_new W _, Nat.le_refl _, by unfold maxLen; omega, rfl, rfl⟩⟩
end Go.Proofs.YtlealeecmmpckaaGreat
namespace Go.Proofs.YtlealeecmmpckaaGreat
set_option linter.unusedVariables false
set_option linter.unusedSimpArgs false
open Go.RowKit Go.Lib Go.Shelf

theorem rsl_at : ∀ (l : List SnM) (k : Nat) (x : SnM), l[k]? = some x → ∀ (i : Nat) (u : Value), (snL x)[i]? = some u → (slL l)[k * 4 + i]? = some u
  | [], _, _, h, _, _, _ => by simp at h
  | y :: l, 0, x, h, i, u, hu => by
    obtain rfl : y = x := by simpa using h
    show (snL y ++ slL l)[0 * 4 + i]? = _
    rw [Nat.zero_mul, Nat.zero_add, List.getElem?_append_left (List.getElem?_eq_some_iff.1 hu).1]; exact hu
  | y :: l, k + 1, x, h, i, u, hu => by
    have := rsl_at l k x (by simpa using h) i u hu
    show (snL y ++ slL l)[(k + 1) * 4 + i]? = _
    rw [List.getElem?_append_right (by show 4 ≤ _; omega), show (k + 1) * 4 + i - (snL y).length = k * 4 + i by show _ - 4 = _; omega]; exact this
/-- A client's row of slots in memory. -/
structure RowAt (W : World) (M : RM) (c : Nat) (S : SeM) (gs cs g cp : Nat) : Prop where
  sv : M.sv = .slice (some ⟨gs, 0, none⟩) M.seats.length cs
  v : S.v = .slice (some ⟨g, 0, none⟩) S.sl.length cp
  cap : S.sl.length ≤ cp
  row : W.cell? ⟨gs, c, none⟩ = some (.slice (some ⟨g, 0, none⟩) S.sl.length cp)
  sn : ∀ (k : Nat) (x : SnM), S.sl[k]? = some x → W.cell? ⟨g, k * 4, none⟩ = some (.bool x.s.held) ∧ W.cell? ⟨g, k * 4 + 1, none⟩ = some (.string x.s.text) ∧ W.cell? ⟨g, k * 4 + 2, none⟩ = some x.mv ∧ W.cell? ⟨g, k * 4 + 3, none⟩ = some (.int .i64 x.s.cursor)
theorem RdAt.rowAt {W : World} {b : Nat} {M : RM} (h : RdAt W b M) {c : Nat} {S : SeM} (hS : M.seats[c]? = some S) : ∃ gs cs g cp, RowAt W M c S gs cs g cp := by
  have hmem := List.mem_of_getElem? hS
  have h1 := h.snaps
  have h2 := h.slots S hmem
  have hlen : M.seats.length ≠ 0 := by have := (List.getElem?_eq_some_iff.1 hS).1; omega
  rcases h1.2 with ⟨_, e2⟩ | ⟨gs, cs, curS, e1, _⟩
  · exact absurd e2 hlen
  rcases h2.2 with ⟨e2, _⟩ | ⟨g, cp, cur, e2, _, hg, q1, _⟩
  · exact absurd (by rw [e2]; rfl) (h.some_.2 S hmem)
  rw [e1] at h1
  have hv := e2
  rw [e2] at h2
  refine ⟨gs, cs, g, cp, e1, hv, q1, ?_, fun k x hx => ?_⟩
  · refine (own_cell h1 c _ ?_).1
    show (rowL M.seats)[c]? = _
    unfold rowL; rw [List.getElem?_map, hS]; simp [hv]
  · have a := rsl_at S.sl k x hx
    exact ⟨(own_cell h2 _ _ (a 0 _ rfl)).1, (own_cell h2 _ _ (a 1 _ rfl)).1, (own_cell h2 _ _ (a 2 _ rfl)).1, (own_cell h2 _ _ (a 3 _ rfl)).1⟩
theorem RdAt.cs {W : World} {b : Nat} {M : RM} (h : RdAt W b M) : W.cell? ⟨b, 0, none⟩ = some (.int .i64 M.seats.length) ∧ W.cell? ⟨b, 1, none⟩ = some (.int .i64 M.readers) ∧ W.cell? ⟨b, 2, none⟩ = some (.string M.text) ∧ W.cell? ⟨b, 3, none⟩ = some M.mv ∧ W.cell? ⟨b, 4, none⟩ = some (.int .i64 M.number) ∧ W.cell? ⟨b, 5, none⟩ = some (.bool M.closed) ∧ W.cell? ⟨b, 6, none⟩ = some M.bv ∧ W.cell? ⟨b, 7, none⟩ = some M.sv := by
  refine ⟨?_, ?_, ?_, ?_, ?_, ?_, ?_, ?_⟩ <;> simp [World.cell?, h.blk, rdL]
theorem rtext_any (b : Nat) (M : RM) (w : World) (h : RdAt w b M) : Calls Tryz.prog 50 #[.pointer (some ⟨b, 0, none⟩)] w fun e w' => e = .returned (.string M.text) ∧ w = w' := by
  obtain ⟨_, _, c0, _⟩ := h.cs
  go_enter Tryz.func50, Tryz.ntmps50
  go_wp2
  go_returns
  exact ⟨rfl, rfl⟩
theorem rnumber_any (b : Nat) (M : RM) (w : World) (h : RdAt w b M) : Calls Tryz.prog 51 #[.pointer (some ⟨b, 0, none⟩)] w fun e w' => e = .returned (.int .i64 M.number) ∧ w = w' := by
  obtain ⟨_, _, _, _, c0, _⟩ := h.cs
  go_enter Tryz.func51, Tryz.ntmps51
  go_wp2
  go_returns
  exact ⟨rfl, rfl⟩
theorem rclosed_any (b : Nat) (M : RM) (w : World) (h : RdAt w b M) : Calls Tryz.prog 52 #[.pointer (some ⟨b, 0, none⟩)] w fun e w' => e = .returned (.bool M.closed) ∧ w = w' := by
  obtain ⟨_, _, _, _, _, c0, _⟩ := h.cs
  go_enter Tryz.func52, Tryz.ntmps52
  go_wp2
  go_returns
  exact ⟨rfl, rfl⟩
set_option maxRecDepth 100000 in
theorem rmarks_any (b : Nat) (M : RM) (w : World) (h : RdAt w b M) (hs : M.marks.length ≤ 1000) : Calls Tryz.prog 54 #[.pointer (some ⟨b, 0, none⟩)] w fun e w' => ∃ v, e = .returned v ∧ MOwn w' w.heap.size v M.marks ∧ Below w.heap.size w w' := by
  obtain ⟨i0, hi, hz0, hz1, hz2⟩ := info_parts infoMk
  obtain ⟨am, cm, hmv⟩ := own_slice h.marks
  have hoM := h.marks
  rw [hmv] at hoM
  obtain ⟨_, _, _, c3, _⟩ := h.cs
  rw [hmv] at c3
  have c3' := fun o => Lib.cell?_alloc_some o c3
  have e1 := own_empty w
  have hB1 := (Below.refl w.heap.size w).alloc (Nat.le_refl _) (.cells #[] 81)
  have hoM1 := own_below6 hoM hB1
  rcases own_caseR hoM1 with ⟨rfl, hn, rfl⟩ | ⟨g, rfl, hgc⟩
  · have hnil : M.marks = [] := List.eq_nil_of_length_eq_zero hn
    rw [hn] at c3 c3'
    rw [hnil]
    go_enter Tryz.func54, Tryz.ntmps54
    go_wp2_with (at_builtin; refine wpList_append_own_none _ rfl _ _ 70 rfl w.heap.size 81 i0 3 Tryz.underlying70 hi _ 0 [] rfl e1 rfl ?_)
    go_returns
    exact ⟨_, rfl, e1, hB1⟩
  · have hsrc : ∀ (j : Nat) (u : Value), (mksL M.marks)[j]? = some u → (w.alloc (.cells #[] 81)).cell? ((⟨g, 0, none⟩ : Addr).add j) = some u := src_lo (hi := []) hoM1 (by simp)
    have HS := Lib.hid hsrc
    clear hsrc
    go_enter Tryz.func54, Tryz.ntmps54
    go_wp2_with (at_builtin; refine wpList_append_own _ rfl _ _ 70 rfl w.heap.size 81 i0 _ 3 24 Tryz.underlying70 hi hz0 hz1 hz2 rfl (by decide) _ 0 [] rfl e1 ⟨g, 0, none⟩ M.marks.length cm (mksL M.marks) rfl (mk_len M.marks) HS.out (mk_ones M.marks) (by unfold maxLen; omega) (by omega) (by simp) ?_; intro v6 w6 hn6 hg6 _)
    go_returns
    refine ⟨_, rfl, ?_, hB1.grown hg6 (by simp) (fun k hk => (e1.lt k hk).1)⟩
    rw [Nat.zero_add, List.nil_append] at hn6
    exact hn6
end Go.Proofs.YtlealeecmmpckaaGreat
namespace Go.Proofs.YtlealeecmmpckaaGreat
set_option linter.unusedVariables false
set_option linter.unusedSimpArgs false
open Go.RowKit Go.Lib Go.Shelf

theorem heldS_out {st : MS} {c : Int} (h : c < 0 ∨ (st.seats.length : Int) ≤ c) : heldS st c = [] := by unfold heldS; rw [if_pos h]
set_option maxRecDepth 100000 in
set_option maxHeartbeats 2000000 in
theorem rheld_out (b : Nat) (c : Int) (M : RM) (w : World) (h : RdAt w b M) (hc : c < 0 ∨ (M.seats.length : Int) ≤ c) :
    Calls Tryz.prog 55 #[.pointer (some ⟨b, 0, none⟩), .int .i64 c] w fun e w' => e = .returned (.slice none 0 0) ∧ w = w' := by
  obtain ⟨c0, _⟩ := h.cs
  rcases hc with hc | hc
  · have hd : decide (c < 0) = true := by simpa using hc
    go_enter Tryz.func55, Tryz.ntmps55
    go_wp2
    go_returns
    exact ⟨rfl, rfl⟩
  · have hd : decide (c < 0) = false := by simp; omega
    have hd2 : decide ((M.seats.length : Int) ≤ c) = true := by simpa using hc
    go_enter Tryz.func55, Tryz.ntmps55
    go_wp2
    go_returns
    exact ⟨rfl, rfl⟩
set_option maxRecDepth 100000 in
set_option maxHeartbeats 2000000 in
theorem rheld_in (b c : Nat) (M : RM) (w : World) (h : RdAt w b M) (S : SeM) (hS : M.seats[c]? = some S) (hr : M.readers = S.sl.length) (hl : S.sl.length ≤ 8) (hcl : M.seats.length ≤ 8) :
    Calls Tryz.prog 55 #[.pointer (some ⟨b, 0, none⟩), .int .i64 (c : Int)] w fun e w' => ∃ v, e = .returned v ∧ w'.ownsRow w.heap.size 3 1 v (heldL S.st.slots).length ((heldL S.st.slots).map natV) ∧ Below w.heap.size w w' := by
  obtain ⟨i0, hi, hz0, hz1, hz2⟩ := info_parts infoI64
  obtain ⟨hc, _⟩ := List.getElem?_eq_some_iff.1 hS
  obtain ⟨gs, cs, g, cp, hA⟩ := h.rowAt hS
  have kx : ∀ W, Below w.heap.size w W → W.cell? ⟨b, 1, none⟩ = some (.int .i64 S.sl.length) ∧ W.cell? ⟨b, 7, none⟩ = some (.slice (some ⟨gs, 0, none⟩) M.seats.length cs) ∧ W.cell? ⟨gs, c, none⟩ = some (.slice (some ⟨g, 0, none⟩) S.sl.length cp) := fun W hW => by
    obtain ⟨_, a1, _, _, _, _, _, a7⟩ := (h.below hW).cs
    rw [hr] at a1; rw [hA.sv] at a7
    exact ⟨a1, a7, cell_below hA.row hW⟩
  have kn : ∀ W, Below w.heap.size w W → ∀ (k : Nat) (x : SnM), S.sl[k]? = some x → W.cell? ⟨g, k * 4, none⟩ = some (.bool x.s.held) := fun W hW k x hx => cell_below (hA.sn k x hx).1 hW
  obtain ⟨c0, _⟩ := h.cs
  have Kx := Lib.hid kx
  have Kn := Lib.hid kn
  have hcp := hA.cap
  have hd : decide ((c : Int) < 0) = false := by simp
  have hd2 : decide (M.seats.length ≤ c) = false := by simp; omega
  have hlen : S.st.slots.length = S.sl.length := List.length_map ..
  clear kx kn hr
  go_enter Tryz.func55, Tryz.ntmps55
  go_wp2
  go_loopw [5, 6, 21, 22, 23, 24, 25, 26, 27, 28, 29, 30, 31, 32, 33, 34, 35, 36, 37, 38, 39, 40, 41, 42, 43] (fun x5 i x21 x22 x23 x24 x25 x26 x27 x28 x29 x30 x31 x32 x33 x34 x35 x36 x37 x38 x39 x40 x41 x42 x43 wr => ∃ k : Nat, i = .int .i64 k ∧ k ≤ S.sl.length ∧ wr.ownsRow w.heap.size 3 1 x5 (hpL S.st.slots k).length ((hpL S.st.slots k).map natV) ∧ Below w.heap.size w wr) (fun x5 i x21 x22 x23 x24 x25 x26 x27 x28 x29 x30 x31 x32 x33 x34 x35 x36 x37 x38 x39 x40 x41 x42 x43 wr => S.sl.length - (intOf i).toNat)
  case atStart => exact ⟨0, rfl, by omega, ⟨rfl, .inl ⟨rfl, rfl⟩⟩, Below.refl _ _⟩
  case round =>
    obtain ⟨k, rfl, hk, ho, hB⟩ := hrel
    obtain ⟨y1, y7, yr⟩ := Kx.out _ hB
    by_cases hlt : k < S.sl.length
    · have hx := List.getElem?_eq_getElem hlt
      generalize S.sl[k] = x at hx
      have s0 := Kn.out _ hB k x hx
      have hxs : S.st.slots.getD k default = x.s := by
        rw [List.getD_eq_getElem?_getD]; show ((S.sl.map (·.s))[k]?).getD default = _
        rw [List.getElem?_map, hx]; rfl
      have hsu := hpL_succ S.st.slots k
      rw [hxs] at hsu
      have hle := hpL_le S.st.slots k
      have Hsu := Lib.hid hsu
      clear hsu hxs
      cases hh : x.s.held with
      | true =>
        rw [hh] at s0
        go_wp2_with (at_builtin; refine wpList_append_own _ rfl _ _ 73 rfl w.heap.size 3 i0 (.int .i64 0) 1 8 Tryz.underlying73 hi hz0 hz1 hz2 rfl (by decide) _ _ _ rfl (ho.alloc _) ⟨_, 0, none⟩ 1 1 [.int .i64 (k : Int)] rfl rfl (cell_one_new _ _ _) (by simp [Value.oneCell']) (by unfold maxLen; omega) (by omega) (by have := hB.size; simp; omega) ?_; intro v' w3 hown' hgrow _)
        have hB3 : Below w.heap.size w w3 := (hB.alloc hB.size _).grown hgrow (by have := hB.size; simp; omega) fun k hk => (ho.lt k hk).1
        go_roundw
        case rel => exact ⟨k + 1, by go_num, by omega, by rw [Hsu.out, hh, if_pos rfl, List.length_append, List.map_append]; exact hown', hB3⟩
        case measure => simp [intOf]; omega
      | false =>
        rw [hh] at s0
        go_wp2
        go_roundw
        case rel => exact ⟨k + 1, by go_num, by omega, by rw [Hsu.out, hh, if_neg (by simp), List.append_nil]; exact ho, hB⟩
        case measure => simp [intOf]; omega
    · have hke : k = S.st.slots.length := by omega
      go_wp2
      go_returns
      exact ⟨_, rfl, by rw [← hpL_all, ← hke]; exact ho, hB⟩
end Go.Proofs.YtlealeecmmpckaaGreat
namespace Go.Proofs.YtlealeecmmpckaaGreat
set_option linter.unusedVariables false
set_option linter.unusedSimpArgs false
open Go.RowKit Go.Lib Go.Shelf

def RmI (w : World) (ad a2 : Option Addr) (l l2 : List MkV) (c c2 : Nat) (a : Act) (wr : World) : Prop :=
  ∃ (k : Nat) (u : Nat → Value), a = { tmps := #[.slice ad l.length c, .slice a2 l2.length c2, u 2, u 3, u 4, .int .i64 k, u 6, u 7, u 8, u 9, u 10, u 11, u 12, u 13, u 14, u 15, u 16, u 17, u 18, u 19, u 20, u 21, u 22, u 23, u 24, u 25], defers := [] } ∧ k ≤ l.length ∧ l.take k = l2.take k ∧ Below w.heap.size w wr
theorem RmI.intro {w : World} {ad a2 : Option Addr} {l l2 : List MkV} {c c2 : Nat} {a : Act} {wr : World} (k : Nat) (h : a = { tmps := #[.slice ad l.length c, .slice a2 l2.length c2, a.tmps.getD 2 undef, a.tmps.getD 3 undef, a.tmps.getD 4 undef, .int .i64 k, a.tmps.getD 6 undef, a.tmps.getD 7 undef, a.tmps.getD 8 undef, a.tmps.getD 9 undef, a.tmps.getD 10 undef, a.tmps.getD 11 undef, a.tmps.getD 12 undef, a.tmps.getD 13 undef, a.tmps.getD 14 undef, a.tmps.getD 15 undef, a.tmps.getD 16 undef, a.tmps.getD 17 undef, a.tmps.getD 18 undef, a.tmps.getD 19 undef, a.tmps.getD 20 undef, a.tmps.getD 21 undef, a.tmps.getD 22 undef, a.tmps.getD 23 undef, a.tmps.getD 24 undef, a.tmps.getD 25 undef], defers := [] }) (hk : k ≤ l.length) (he : l.take k = l2.take k) (hB : Below w.heap.size w wr) : RmI w ad a2 l l2 c c2 a wr := ⟨k, fun i => a.tmps.getD i undef, h, hk, he, hB⟩
theorem ret_b {a b : Bool} (h : a = b) : Ending.returned (.bool a) = Ending.returned (.bool b) := by rw [h]
set_option maxRecDepth 100000 in
set_option maxHeartbeats 4000000 in
theorem refMSame_any (ad a2 : Option Addr) (c c2 : Nat) (l l2 : List MkV) (w : World) (hr : MRow w ad l) (hr2 : MRow w a2 l2) (hc : l.length ≤ c) (hc2 : l2.length ≤ c2) (h64 : l.length ≤ 1000) (h65 : l2.length ≤ 1000) :
    Calls Tryz.prog 53 #[.slice ad l.length c, .slice a2 l2.length c2] w fun e w' => e = .returned (.bool (decide (l = l2))) ∧ Below w.heap.size w w' := by
  by_cases hlen : l.length = l2.length
  · go_enter Tryz.func53, Tryz.ntmps53
    go_wp2
    refine wp_loop (RmI w ad a2 l l2 c c2) (fun a _ => l.length - (intOf (a.tmps.getD 5 undef)).toNat) ?_ ?_
    · exact RmI.intro 0 (by rw [hlen]; rfl) (by omega) rfl (Below.refl _ _)
    · rintro a wr ⟨k, u, rfl, hk, he, hB⟩
      have HLEN := Lib.hid hlen
      have HEQ := Lib.hid he
      by_cases hlt : k < l.length
      · have hlt2 : k < l2.length := by omega
        have hg := List.getElem?_eq_getElem hlt
        have hg2 := List.getElem?_eq_getElem hlt2
        generalize l[k] = m at hg
        generalize l2[k] = m2 at hg2
        obtain ⟨b, off, rfl, hb⟩ := mrow_some hr (fun h => by rw [h] at hlt; simp at hlt)
        obtain ⟨b2, off2, rfl, hb2⟩ := mrow_some hr2 (fun h => by rw [h] at hlt2; simp at hlt2)
        have K1 := mk_at (mcs_of (hr.on hB.drew)) hg
        have K2 := mk_at (mcs_of (hr2.on hB.drew)) hg2
        have hBd := hB.drew
        have hno : m ≠ m2 → decide (l = l2) = false := fun hn => by
          rw [decide_eq_false_iff_not]
          intro e; subst e
          rw [hg] at hg2; injection hg2 with hg2; exact hn hg2
        have hyes : m = m2 → l.take (k + 1) = l2.take (k + 1) := fun e => by
          rw [List.take_add_one, List.take_add_one, hg, hg2, he, e]
        have HNO := Lib.hid hno; have HYES := Lib.hid hyes
        clear hno hyes hg hg2 hr hr2 he hlen
        obtain ⟨mi, ma, mg⟩ := m
        obtain ⟨ni, na, ng⟩ := m2
        dsimp only at K1 K2
        by_cases e1 : mi = ni
        · subst e1
          by_cases e2 : ma = na
          · subst e2
            by_cases e3 : mg = ng
            · subst e3
              go_wp2
              refine wp_region_noPanic ?_
              refine wp_region_held_drew (S := fun W => (W.cell? ⟨b, off + k * 3, none⟩ = some (.int .u32 mi) ∧ W.cell? ⟨b, off + k * 3 + 1, none⟩ = some (.int .i64 ma) ∧ W.cell? ⟨b, off + k * 3 + 2, none⟩ = some (.int .u8 mg)) ∧ W.cell? ⟨b2, off2 + k * 3, none⟩ = some (.int .u32 mi) ∧ W.cell? ⟨b2, off2 + k * 3 + 1, none⟩ = some (.int .i64 ma) ∧ W.cell? ⟨b2, off2 + k * 3 + 2, none⟩ = some (.int .u8 mg)) (by kernel_rfl) ?_ (fun hHeld => ?_)
              · exact ⟨K1, K2⟩
              first | (refine np_skip (i := 0) rfl (by kernel_rfl) (by kernel_rfl) (by kernel_rfl) (by rfl) (by assumption) ?_; (try simp only [Act.put, List.setIfInBounds_toArray, List.set_cons_zero, List.set_cons_succ])) | (refine np_take (i := 0) (v := ?_) rfl (by kernel_rfl) (by kernel_rfl) (by kernel_rfl) (by rfl) ?_ (by assumption) ?_; rotate_left 1; (· (intro w hSw; (try dsimp only at hSw); go_simp; all_goals with_reducible rfl)); (try simp only [Act.put, List.setIfInBounds_toArray, List.set_cons_zero, List.set_cons_succ]))
              first | (refine np_skip (i := 1) rfl (by kernel_rfl) (by kernel_rfl) (by kernel_rfl) (by rfl) (by assumption) ?_; (try simp only [Act.put, List.setIfInBounds_toArray, List.set_cons_zero, List.set_cons_succ])) | (refine np_take (i := 1) (v := ?_) rfl (by kernel_rfl) (by kernel_rfl) (by kernel_rfl) (by rfl) ?_ (by assumption) ?_; rotate_left 1; (· (intro w hSw; (try dsimp only at hSw); go_simp; all_goals with_reducible rfl)); (try simp only [Act.put, List.setIfInBounds_toArray, List.set_cons_zero, List.set_cons_succ]))
              first | (refine np_skip (i := 2) rfl (by kernel_rfl) (by kernel_rfl) (by kernel_rfl) (by rfl) (by assumption) ?_; (try simp only [Act.put, List.setIfInBounds_toArray, List.set_cons_zero, List.set_cons_succ])) | (refine np_take (i := 2) (v := ?_) rfl (by kernel_rfl) (by kernel_rfl) (by kernel_rfl) (by rfl) ?_ (by assumption) ?_; rotate_left 1; (· (intro w hSw; (try dsimp only at hSw); go_simp; all_goals with_reducible rfl)); (try simp only [Act.put, List.setIfInBounds_toArray, List.set_cons_zero, List.set_cons_succ]))
              first | (refine np_skip (i := 3) rfl (by kernel_rfl) (by kernel_rfl) (by kernel_rfl) (by rfl) (by assumption) ?_; (try simp only [Act.put, List.setIfInBounds_toArray, List.set_cons_zero, List.set_cons_succ])) | (refine np_take (i := 3) (v := ?_) rfl (by kernel_rfl) (by kernel_rfl) (by kernel_rfl) (by rfl) ?_ (by assumption) ?_; rotate_left 1; (· (intro w hSw; (try dsimp only at hSw); go_simp; all_goals with_reducible rfl)); (try simp only [Act.put, List.setIfInBounds_toArray, List.set_cons_zero, List.set_cons_succ]))
              first | (refine np_skip (i := 4) rfl (by kernel_rfl) (by kernel_rfl) (by kernel_rfl) (by rfl) (by assumption) ?_; (try simp only [Act.put, List.setIfInBounds_toArray, List.set_cons_zero, List.set_cons_succ])) | (refine np_take (i := 4) (v := ?_) rfl (by kernel_rfl) (by kernel_rfl) (by kernel_rfl) (by rfl) ?_ (by assumption) ?_; rotate_left 1; (· (intro w hSw; (try dsimp only at hSw); go_simp; all_goals with_reducible rfl)); (try simp only [Act.put, List.setIfInBounds_toArray, List.set_cons_zero, List.set_cons_succ]))
              first | (refine np_skip (i := 5) rfl (by kernel_rfl) (by kernel_rfl) (by kernel_rfl) (by rfl) (by assumption) ?_; (try simp only [Act.put, List.setIfInBounds_toArray, List.set_cons_zero, List.set_cons_succ])) | (refine np_take (i := 5) (v := ?_) rfl (by kernel_rfl) (by kernel_rfl) (by kernel_rfl) (by rfl) ?_ (by assumption) ?_; rotate_left 1; (· (intro w hSw; (try dsimp only at hSw); go_simp; all_goals with_reducible rfl)); (try simp only [Act.put, List.setIfInBounds_toArray, List.set_cons_zero, List.set_cons_succ]))
              first | (refine np_skip (i := 6) rfl (by kernel_rfl) (by kernel_rfl) (by kernel_rfl) (by rfl) (by assumption) ?_; (try simp only [Act.put, List.setIfInBounds_toArray, List.set_cons_zero, List.set_cons_succ])) | (refine np_take (i := 6) (v := ?_) rfl (by kernel_rfl) (by kernel_rfl) (by kernel_rfl) (by rfl) ?_ (by assumption) ?_; rotate_left 1; (· (intro w hSw; (try dsimp only at hSw); go_simp; all_goals with_reducible rfl)); (try simp only [Act.put, List.setIfInBounds_toArray, List.set_cons_zero, List.set_cons_succ]))
              first | (refine np_skip (i := 7) rfl (by kernel_rfl) (by kernel_rfl) (by kernel_rfl) (by rfl) (by assumption) ?_; (try simp only [Act.put, List.setIfInBounds_toArray, List.set_cons_zero, List.set_cons_succ])) | (refine np_take (i := 7) (v := ?_) rfl (by kernel_rfl) (by kernel_rfl) (by kernel_rfl) (by rfl) ?_ (by assumption) ?_; rotate_left 1; (· (intro w hSw; (try dsimp only at hSw); go_simp; all_goals with_reducible rfl)); (try simp only [Act.put, List.setIfInBounds_toArray, List.set_cons_zero, List.set_cons_succ]))
              first | (refine np_skip (i := 8) rfl (by kernel_rfl) (by kernel_rfl) (by kernel_rfl) (by rfl) (by assumption) ?_; (try simp only [Act.put, List.setIfInBounds_toArray, List.set_cons_zero, List.set_cons_succ])) | (refine np_take (i := 8) (v := ?_) rfl (by kernel_rfl) (by kernel_rfl) (by kernel_rfl) (by rfl) ?_ (by assumption) ?_; rotate_left 1; (· (intro w hSw; (try dsimp only at hSw); go_simp; all_goals with_reducible rfl)); (try simp only [Act.put, List.setIfInBounds_toArray, List.set_cons_zero, List.set_cons_succ]))
              refine wpAnyH_done (by kernel_rfl) ?_ _
              refine NoPanic.normal ?_
              go_wp2
              exact ⟨RmI.intro (k + 1) rfl (by omega) (HYES.out (by first | rfl | trivial)) hBd, by simp [intOf]; omega⟩
            · have d3 : (mg == ng) = false := by simpa using e3
              have d3' : (mg != ng) = true := by simpa using e3
              have hx := HNO.out (fun h => e3 (by injection h))
              go_wp2
              refine wp_region_noPanic ?_
              refine wp_region_held_drew (S := fun W => (W.cell? ⟨b, off + k * 3, none⟩ = some (.int .u32 mi) ∧ W.cell? ⟨b, off + k * 3 + 1, none⟩ = some (.int .i64 ma) ∧ W.cell? ⟨b, off + k * 3 + 2, none⟩ = some (.int .u8 mg)) ∧ W.cell? ⟨b2, off2 + k * 3, none⟩ = some (.int .u32 mi) ∧ W.cell? ⟨b2, off2 + k * 3 + 1, none⟩ = some (.int .i64 ma) ∧ W.cell? ⟨b2, off2 + k * 3 + 2, none⟩ = some (.int .u8 ng)) (by kernel_rfl) ?_ (fun hHeld => ?_)
              · exact ⟨K1, K2⟩
              first | (refine np_skip (i := 0) rfl (by kernel_rfl) (by kernel_rfl) (by kernel_rfl) (by rfl) (by assumption) ?_; (try simp only [Act.put, List.setIfInBounds_toArray, List.set_cons_zero, List.set_cons_succ])) | (refine np_take (i := 0) (v := ?_) rfl (by kernel_rfl) (by kernel_rfl) (by kernel_rfl) (by rfl) ?_ (by assumption) ?_; rotate_left 1; (· (intro w hSw; (try dsimp only at hSw); go_simp; all_goals with_reducible rfl)); (try simp only [Act.put, List.setIfInBounds_toArray, List.set_cons_zero, List.set_cons_succ]))
              first | (refine np_skip (i := 1) rfl (by kernel_rfl) (by kernel_rfl) (by kernel_rfl) (by rfl) (by assumption) ?_; (try simp only [Act.put, List.setIfInBounds_toArray, List.set_cons_zero, List.set_cons_succ])) | (refine np_take (i := 1) (v := ?_) rfl (by kernel_rfl) (by kernel_rfl) (by kernel_rfl) (by rfl) ?_ (by assumption) ?_; rotate_left 1; (· (intro w hSw; (try dsimp only at hSw); go_simp; all_goals with_reducible rfl)); (try simp only [Act.put, List.setIfInBounds_toArray, List.set_cons_zero, List.set_cons_succ]))
              first | (refine np_skip (i := 2) rfl (by kernel_rfl) (by kernel_rfl) (by kernel_rfl) (by rfl) (by assumption) ?_; (try simp only [Act.put, List.setIfInBounds_toArray, List.set_cons_zero, List.set_cons_succ])) | (refine np_take (i := 2) (v := ?_) rfl (by kernel_rfl) (by kernel_rfl) (by kernel_rfl) (by rfl) ?_ (by assumption) ?_; rotate_left 1; (· (intro w hSw; (try dsimp only at hSw); go_simp; all_goals with_reducible rfl)); (try simp only [Act.put, List.setIfInBounds_toArray, List.set_cons_zero, List.set_cons_succ]))
              first | (refine np_skip (i := 3) rfl (by kernel_rfl) (by kernel_rfl) (by kernel_rfl) (by rfl) (by assumption) ?_; (try simp only [Act.put, List.setIfInBounds_toArray, List.set_cons_zero, List.set_cons_succ])) | (refine np_take (i := 3) (v := ?_) rfl (by kernel_rfl) (by kernel_rfl) (by kernel_rfl) (by rfl) ?_ (by assumption) ?_; rotate_left 1; (· (intro w hSw; (try dsimp only at hSw); go_simp; all_goals with_reducible rfl)); (try simp only [Act.put, List.setIfInBounds_toArray, List.set_cons_zero, List.set_cons_succ]))
              first | (refine np_skip (i := 4) rfl (by kernel_rfl) (by kernel_rfl) (by kernel_rfl) (by rfl) (by assumption) ?_; (try simp only [Act.put, List.setIfInBounds_toArray, List.set_cons_zero, List.set_cons_succ])) | (refine np_take (i := 4) (v := ?_) rfl (by kernel_rfl) (by kernel_rfl) (by kernel_rfl) (by rfl) ?_ (by assumption) ?_; rotate_left 1; (· (intro w hSw; (try dsimp only at hSw); go_simp; all_goals with_reducible rfl)); (try simp only [Act.put, List.setIfInBounds_toArray, List.set_cons_zero, List.set_cons_succ]))
              first | (refine np_skip (i := 5) rfl (by kernel_rfl) (by kernel_rfl) (by kernel_rfl) (by rfl) (by assumption) ?_; (try simp only [Act.put, List.setIfInBounds_toArray, List.set_cons_zero, List.set_cons_succ])) | (refine np_take (i := 5) (v := ?_) rfl (by kernel_rfl) (by kernel_rfl) (by kernel_rfl) (by rfl) ?_ (by assumption) ?_; rotate_left 1; (· (intro w hSw; (try dsimp only at hSw); go_simp; all_goals with_reducible rfl)); (try simp only [Act.put, List.setIfInBounds_toArray, List.set_cons_zero, List.set_cons_succ]))
              first | (refine np_skip (i := 6) rfl (by kernel_rfl) (by kernel_rfl) (by kernel_rfl) (by rfl) (by assumption) ?_; (try simp only [Act.put, List.setIfInBounds_toArray, List.set_cons_zero, List.set_cons_succ])) | (refine np_take (i := 6) (v := ?_) rfl (by kernel_rfl) (by kernel_rfl) (by kernel_rfl) (by rfl) ?_ (by assumption) ?_; rotate_left 1; (· (intro w hSw; (try dsimp only at hSw); go_simp; all_goals with_reducible rfl)); (try simp only [Act.put, List.setIfInBounds_toArray, List.set_cons_zero, List.set_cons_succ]))
              first | (refine np_skip (i := 7) rfl (by kernel_rfl) (by kernel_rfl) (by kernel_rfl) (by rfl) (by assumption) ?_; (try simp only [Act.put, List.setIfInBounds_toArray, List.set_cons_zero, List.set_cons_succ])) | (refine np_take (i := 7) (v := ?_) rfl (by kernel_rfl) (by kernel_rfl) (by kernel_rfl) (by rfl) ?_ (by assumption) ?_; rotate_left 1; (· (intro w hSw; (try dsimp only at hSw); go_simp; all_goals with_reducible rfl)); (try simp only [Act.put, List.setIfInBounds_toArray, List.set_cons_zero, List.set_cons_succ]))
              first | (refine np_skip (i := 8) rfl (by kernel_rfl) (by kernel_rfl) (by kernel_rfl) (by rfl) (by assumption) ?_; (try simp only [Act.put, List.setIfInBounds_toArray, List.set_cons_zero, List.set_cons_succ])) | (refine np_take (i := 8) (v := ?_) rfl (by kernel_rfl) (by kernel_rfl) (by kernel_rfl) (by rfl) ?_ (by assumption) ?_; rotate_left 1; (· (intro w hSw; (try dsimp only at hSw); go_simp; all_goals with_reducible rfl)); (try simp only [Act.put, List.setIfInBounds_toArray, List.set_cons_zero, List.set_cons_succ]))
              refine wpAnyH_done (by kernel_rfl) ?_ _
              refine NoPanic.normal ?_
              have HX := Lib.hid hx
              clear hx
              go_wp2
              go_returns
              exact ⟨by rw [HX.out]; rfl, hBd⟩
          · have d2 : (ma == na) = false := by simpa using e2
            have d2' : (ma != na) = true := by simpa using e2
            have hx := HNO.out (fun h => e2 (by injection h))
            go_wp2
            refine wp_region_noPanic ?_
            refine wp_region_held_drew (S := fun W => (W.cell? ⟨b, off + k * 3, none⟩ = some (.int .u32 mi) ∧ W.cell? ⟨b, off + k * 3 + 1, none⟩ = some (.int .i64 ma) ∧ W.cell? ⟨b, off + k * 3 + 2, none⟩ = some (.int .u8 mg)) ∧ W.cell? ⟨b2, off2 + k * 3, none⟩ = some (.int .u32 mi) ∧ W.cell? ⟨b2, off2 + k * 3 + 1, none⟩ = some (.int .i64 na) ∧ W.cell? ⟨b2, off2 + k * 3 + 2, none⟩ = some (.int .u8 ng)) (by kernel_rfl) ?_ (fun hHeld => ?_)
            · exact ⟨K1, K2⟩
            first | (refine np_skip (i := 0) rfl (by kernel_rfl) (by kernel_rfl) (by kernel_rfl) (by rfl) (by assumption) ?_; (try simp only [Act.put, List.setIfInBounds_toArray, List.set_cons_zero, List.set_cons_succ])) | (refine np_take (i := 0) (v := ?_) rfl (by kernel_rfl) (by kernel_rfl) (by kernel_rfl) (by rfl) ?_ (by assumption) ?_; rotate_left 1; (· (intro w hSw; (try dsimp only at hSw); go_simp; all_goals with_reducible rfl)); (try simp only [Act.put, List.setIfInBounds_toArray, List.set_cons_zero, List.set_cons_succ]))
            first | (refine np_skip (i := 1) rfl (by kernel_rfl) (by kernel_rfl) (by kernel_rfl) (by rfl) (by assumption) ?_; (try simp only [Act.put, List.setIfInBounds_toArray, List.set_cons_zero, List.set_cons_succ])) | (refine np_take (i := 1) (v := ?_) rfl (by kernel_rfl) (by kernel_rfl) (by kernel_rfl) (by rfl) ?_ (by assumption) ?_; rotate_left 1; (· (intro w hSw; (try dsimp only at hSw); go_simp; all_goals with_reducible rfl)); (try simp only [Act.put, List.setIfInBounds_toArray, List.set_cons_zero, List.set_cons_succ]))
            first | (refine np_skip (i := 2) rfl (by kernel_rfl) (by kernel_rfl) (by kernel_rfl) (by rfl) (by assumption) ?_; (try simp only [Act.put, List.setIfInBounds_toArray, List.set_cons_zero, List.set_cons_succ])) | (refine np_take (i := 2) (v := ?_) rfl (by kernel_rfl) (by kernel_rfl) (by kernel_rfl) (by rfl) ?_ (by assumption) ?_; rotate_left 1; (· (intro w hSw; (try dsimp only at hSw); go_simp; all_goals with_reducible rfl)); (try simp only [Act.put, List.setIfInBounds_toArray, List.set_cons_zero, List.set_cons_succ]))
            first | (refine np_skip (i := 3) rfl (by kernel_rfl) (by kernel_rfl) (by kernel_rfl) (by rfl) (by assumption) ?_; (try simp only [Act.put, List.setIfInBounds_toArray, List.set_cons_zero, List.set_cons_succ])) | (refine np_take (i := 3) (v := ?_) rfl (by kernel_rfl) (by kernel_rfl) (by kernel_rfl) (by rfl) ?_ (by assumption) ?_; rotate_left 1; (· (intro w hSw; (try dsimp only at hSw); go_simp; all_goals with_reducible rfl)); (try simp only [Act.put, List.setIfInBounds_toArray, List.set_cons_zero, List.set_cons_succ]))
            first | (refine np_skip (i := 4) rfl (by kernel_rfl) (by kernel_rfl) (by kernel_rfl) (by rfl) (by assumption) ?_; (try simp only [Act.put, List.setIfInBounds_toArray, List.set_cons_zero, List.set_cons_succ])) | (refine np_take (i := 4) (v := ?_) rfl (by kernel_rfl) (by kernel_rfl) (by kernel_rfl) (by rfl) ?_ (by assumption) ?_; rotate_left 1; (· (intro w hSw; (try dsimp only at hSw); go_simp; all_goals with_reducible rfl)); (try simp only [Act.put, List.setIfInBounds_toArray, List.set_cons_zero, List.set_cons_succ]))
            first | (refine np_skip (i := 5) rfl (by kernel_rfl) (by kernel_rfl) (by kernel_rfl) (by rfl) (by assumption) ?_; (try simp only [Act.put, List.setIfInBounds_toArray, List.set_cons_zero, List.set_cons_succ])) | (refine np_take (i := 5) (v := ?_) rfl (by kernel_rfl) (by kernel_rfl) (by kernel_rfl) (by rfl) ?_ (by assumption) ?_; rotate_left 1; (· (intro w hSw; (try dsimp only at hSw); go_simp; all_goals with_reducible rfl)); (try simp only [Act.put, List.setIfInBounds_toArray, List.set_cons_zero, List.set_cons_succ]))
            first | (refine np_skip (i := 6) rfl (by kernel_rfl) (by kernel_rfl) (by kernel_rfl) (by rfl) (by assumption) ?_; (try simp only [Act.put, List.setIfInBounds_toArray, List.set_cons_zero, List.set_cons_succ])) | (refine np_take (i := 6) (v := ?_) rfl (by kernel_rfl) (by kernel_rfl) (by kernel_rfl) (by rfl) ?_ (by assumption) ?_; rotate_left 1; (· (intro w hSw; (try dsimp only at hSw); go_simp; all_goals with_reducible rfl)); (try simp only [Act.put, List.setIfInBounds_toArray, List.set_cons_zero, List.set_cons_succ]))
            first | (refine np_skip (i := 7) rfl (by kernel_rfl) (by kernel_rfl) (by kernel_rfl) (by rfl) (by assumption) ?_; (try simp only [Act.put, List.setIfInBounds_toArray, List.set_cons_zero, List.set_cons_succ])) | (refine np_take (i := 7) (v := ?_) rfl (by kernel_rfl) (by kernel_rfl) (by kernel_rfl) (by rfl) ?_ (by assumption) ?_; rotate_left 1; (· (intro w hSw; (try dsimp only at hSw); go_simp; all_goals with_reducible rfl)); (try simp only [Act.put, List.setIfInBounds_toArray, List.set_cons_zero, List.set_cons_succ]))
            first | (refine np_skip (i := 8) rfl (by kernel_rfl) (by kernel_rfl) (by kernel_rfl) (by rfl) (by assumption) ?_; (try simp only [Act.put, List.setIfInBounds_toArray, List.set_cons_zero, List.set_cons_succ])) | (refine np_take (i := 8) (v := ?_) rfl (by kernel_rfl) (by kernel_rfl) (by kernel_rfl) (by rfl) ?_ (by assumption) ?_; rotate_left 1; (· (intro w hSw; (try dsimp only at hSw); go_simp; all_goals with_reducible rfl)); (try simp only [Act.put, List.setIfInBounds_toArray, List.set_cons_zero, List.set_cons_succ]))
            refine wpAnyH_done (by kernel_rfl) ?_ _
            refine NoPanic.normal ?_
            have HX := Lib.hid hx
            clear hx
            go_wp2
            go_returns
            exact ⟨by rw [HX.out]; rfl, hBd⟩
        · have d1 : (mi == ni) = false := by simpa using e1
          have d1' : (mi != ni) = true := by simpa using e1
          have hx := HNO.out (fun h => e1 (by injection h))
          go_wp2
          refine wp_region_noPanic ?_
          refine wp_region_held_drew (S := fun W => (W.cell? ⟨b, off + k * 3, none⟩ = some (.int .u32 mi) ∧ W.cell? ⟨b, off + k * 3 + 1, none⟩ = some (.int .i64 ma) ∧ W.cell? ⟨b, off + k * 3 + 2, none⟩ = some (.int .u8 mg)) ∧ W.cell? ⟨b2, off2 + k * 3, none⟩ = some (.int .u32 ni) ∧ W.cell? ⟨b2, off2 + k * 3 + 1, none⟩ = some (.int .i64 na) ∧ W.cell? ⟨b2, off2 + k * 3 + 2, none⟩ = some (.int .u8 ng)) (by kernel_rfl) ?_ (fun hHeld => ?_)
          · exact ⟨K1, K2⟩
          first | (refine np_skip (i := 0) rfl (by kernel_rfl) (by kernel_rfl) (by kernel_rfl) (by rfl) (by assumption) ?_; (try simp only [Act.put, List.setIfInBounds_toArray, List.set_cons_zero, List.set_cons_succ])) | (refine np_take (i := 0) (v := ?_) rfl (by kernel_rfl) (by kernel_rfl) (by kernel_rfl) (by rfl) ?_ (by assumption) ?_; rotate_left 1; (· (intro w hSw; (try dsimp only at hSw); go_simp; all_goals with_reducible rfl)); (try simp only [Act.put, List.setIfInBounds_toArray, List.set_cons_zero, List.set_cons_succ]))
          first | (refine np_skip (i := 1) rfl (by kernel_rfl) (by kernel_rfl) (by kernel_rfl) (by rfl) (by assumption) ?_; (try simp only [Act.put, List.setIfInBounds_toArray, List.set_cons_zero, List.set_cons_succ])) | (refine np_take (i := 1) (v := ?_) rfl (by kernel_rfl) (by kernel_rfl) (by kernel_rfl) (by rfl) ?_ (by assumption) ?_; rotate_left 1; (· (intro w hSw; (try dsimp only at hSw); go_simp; all_goals with_reducible rfl)); (try simp only [Act.put, List.setIfInBounds_toArray, List.set_cons_zero, List.set_cons_succ]))
          first | (refine np_skip (i := 2) rfl (by kernel_rfl) (by kernel_rfl) (by kernel_rfl) (by rfl) (by assumption) ?_; (try simp only [Act.put, List.setIfInBounds_toArray, List.set_cons_zero, List.set_cons_succ])) | (refine np_take (i := 2) (v := ?_) rfl (by kernel_rfl) (by kernel_rfl) (by kernel_rfl) (by rfl) ?_ (by assumption) ?_; rotate_left 1; (· (intro w hSw; (try dsimp only at hSw); go_simp; all_goals with_reducible rfl)); (try simp only [Act.put, List.setIfInBounds_toArray, List.set_cons_zero, List.set_cons_succ]))
          first | (refine np_skip (i := 3) rfl (by kernel_rfl) (by kernel_rfl) (by kernel_rfl) (by rfl) (by assumption) ?_; (try simp only [Act.put, List.setIfInBounds_toArray, List.set_cons_zero, List.set_cons_succ])) | (refine np_take (i := 3) (v := ?_) rfl (by kernel_rfl) (by kernel_rfl) (by kernel_rfl) (by rfl) ?_ (by assumption) ?_; rotate_left 1; (· (intro w hSw; (try dsimp only at hSw); go_simp; all_goals with_reducible rfl)); (try simp only [Act.put, List.setIfInBounds_toArray, List.set_cons_zero, List.set_cons_succ]))
          first | (refine np_skip (i := 4) rfl (by kernel_rfl) (by kernel_rfl) (by kernel_rfl) (by rfl) (by assumption) ?_; (try simp only [Act.put, List.setIfInBounds_toArray, List.set_cons_zero, List.set_cons_succ])) | (refine np_take (i := 4) (v := ?_) rfl (by kernel_rfl) (by kernel_rfl) (by kernel_rfl) (by rfl) ?_ (by assumption) ?_; rotate_left 1; (· (intro w hSw; (try dsimp only at hSw); go_simp; all_goals with_reducible rfl)); (try simp only [Act.put, List.setIfInBounds_toArray, List.set_cons_zero, List.set_cons_succ]))
          first | (refine np_skip (i := 5) rfl (by kernel_rfl) (by kernel_rfl) (by kernel_rfl) (by rfl) (by assumption) ?_; (try simp only [Act.put, List.setIfInBounds_toArray, List.set_cons_zero, List.set_cons_succ])) | (refine np_take (i := 5) (v := ?_) rfl (by kernel_rfl) (by kernel_rfl) (by kernel_rfl) (by rfl) ?_ (by assumption) ?_; rotate_left 1; (· (intro w hSw; (try dsimp only at hSw); go_simp; all_goals with_reducible rfl)); (try simp only [Act.put, List.setIfInBounds_toArray, List.set_cons_zero, List.set_cons_succ]))
          first | (refine np_skip (i := 6) rfl (by kernel_rfl) (by kernel_rfl) (by kernel_rfl) (by rfl) (by assumption) ?_; (try simp only [Act.put, List.setIfInBounds_toArray, List.set_cons_zero, List.set_cons_succ])) | (refine np_take (i := 6) (v := ?_) rfl (by kernel_rfl) (by kernel_rfl) (by kernel_rfl) (by rfl) ?_ (by assumption) ?_; rotate_left 1; (· (intro w hSw; (try dsimp only at hSw); go_simp; all_goals with_reducible rfl)); (try simp only [Act.put, List.setIfInBounds_toArray, List.set_cons_zero, List.set_cons_succ]))
          first | (refine np_skip (i := 7) rfl (by kernel_rfl) (by kernel_rfl) (by kernel_rfl) (by rfl) (by assumption) ?_; (try simp only [Act.put, List.setIfInBounds_toArray, List.set_cons_zero, List.set_cons_succ])) | (refine np_take (i := 7) (v := ?_) rfl (by kernel_rfl) (by kernel_rfl) (by kernel_rfl) (by rfl) ?_ (by assumption) ?_; rotate_left 1; (· (intro w hSw; (try dsimp only at hSw); go_simp; all_goals with_reducible rfl)); (try simp only [Act.put, List.setIfInBounds_toArray, List.set_cons_zero, List.set_cons_succ]))
          first | (refine np_skip (i := 8) rfl (by kernel_rfl) (by kernel_rfl) (by kernel_rfl) (by rfl) (by assumption) ?_; (try simp only [Act.put, List.setIfInBounds_toArray, List.set_cons_zero, List.set_cons_succ])) | (refine np_take (i := 8) (v := ?_) rfl (by kernel_rfl) (by kernel_rfl) (by kernel_rfl) (by rfl) ?_ (by assumption) ?_; rotate_left 1; (· (intro w hSw; (try dsimp only at hSw); go_simp; all_goals with_reducible rfl)); (try simp only [Act.put, List.setIfInBounds_toArray, List.set_cons_zero, List.set_cons_succ]))
          refine wpAnyH_done (by kernel_rfl) ?_ _
          refine NoPanic.normal ?_
          have HX := Lib.hid hx
          clear hx
          go_wp2
          go_returns
          exact ⟨by rw [HX.out]; rfl, hBd⟩
      · obtain rfl : k = l.length := by omega
        have hx : decide (l = l2) = true := by
          rw [decide_eq_true_iff]
          have := HEQ.out
          rwa [List.take_length, HLEN.out, List.take_length] at this
        have HX := Lib.hid hx
        clear hx he hlen
        go_wp2
        go_returns
        exact ⟨by rw [HX.out]; rfl, hB⟩
  · have hx : decide (l = l2) = false := by
      rw [decide_eq_false_iff_not]; intro e; exact hlen (by rw [e])
    have d1 : (l.length == l2.length) = false := by simpa using hlen
    have d2 : ((l.length : Int) != l2.length) = true := by simp; omega
    have HX := Lib.hid hx
    clear hx
    go_enter Tryz.func53, Tryz.ntmps53
    go_wp2
    go_returns
    exact ⟨by rw [HX.out]; rfl, Below.refl _ _⟩
end Go.Proofs.YtlealeecmmpckaaGreat
namespace Go.Proofs.YtlealeecmmpckaaGreat
set_option linter.unusedVariables false
set_option linter.unusedSimpArgs false
open Go.RowKit Go.Lib Go.Shelf

theorem rheld_any (b : Nat) (c : Int) (M : RM) (w : World) (h : RdAt w b M) (hcl : M.seats.length ≤ 8) (hsl : ∀ S ∈ M.seats, M.readers = S.sl.length ∧ S.sl.length ≤ 8) :
    Calls Tryz.prog 55 #[.pointer (some ⟨b, 0, none⟩), .int .i64 c] w fun e w' => ∃ v, e = .returned v ∧ w'.ownsRow w.heap.size 3 1 v (heldS M.st c).length ((heldS M.st c).map natV) ∧ Below w.heap.size w w' := by
  have hlen : M.st.seats.length = M.seats.length := List.length_map ..
  by_cases hc : c < 0 ∨ (M.seats.length : Int) ≤ c
  · refine (rheld_out b c M w h hc).mono ?_
    rintro e w' ⟨rfl, rfl⟩
    rw [heldS_out (by rw [hlen]; exact hc)]
    exact ⟨_, rfl, ⟨rfl, .inl ⟨rfl, rfl⟩⟩, Below.refl _ _⟩
  · obtain ⟨n, rfl⟩ : ∃ n : Nat, c = n := ⟨c.toNat, by omega⟩
    have hS := List.getElem?_eq_getElem (l := M.seats) (i := n) (by omega)
    have e : heldS M.st n = heldL (M.seats[n]'(by omega)).st.slots := by
      unfold heldS; rw [hlen, if_neg hc, Int.toNat_natCast]
      show heldL (M.st.seats.getD n default).slots = _
      rw [List.getD_eq_getElem?_getD]; show heldL (((M.seats.map (fun S : SeM => S.st))[n]?).getD default).slots = _
      rw [List.getElem?_map, hS]; rfl
    rw [e]
    have h2 := hsl _ (List.mem_of_getElem? hS)
    exact rheld_in b n M w h _ hS h2.1 h2.2 hcl
/-- Both are in memory and say the same. -/
structure Both (W : World) (bm br : Nat) (M : MM) (R : RM) : Prop where
  m : MdAt W bm M
  r : RdAt W br R
theorem Both.on {W W' : World} {bm br : Nat} {M : MM} {R : RM} (h : Both W bm br M R) (hb : Below W.heap.size W W') : Both W' bm br M R := ⟨h.m.below hb, h.r.below hb⟩
theorem hl_at {w : World} {B g cp : Nat} {L : List Nat} {n : Nat} (h : w.ownsRow B 3 1 (.slice (some ⟨g, 0, none⟩) n cp) L.length (L.map natV)) {k : Nat} (hk : k < L.length) : w.cell? ⟨g, k, none⟩ = some (.int .i64 (L.getD k 0)) := by
  refine (own_cell h k _ ?_).1
  rw [List.getElem?_map, List.getElem?_eq_getElem hk, List.getD_eq_getElem?_getD, List.getElem?_eq_getElem hk]; rfl
theorem own_max {w : World} {B s n : Nat} {e : TypeId} {v : Value} {xs : List Value} (h : w.ownsRow B e s v n xs) : n ≤ maxLen := by
  rcases h.2 with ⟨_, e2⟩ | ⟨g, cap, cur, _, _, _, h3, h4, _⟩
  · omega
  · omega
def SamI (w : World) (bm br : Nat) (n : Nat) (a : Act) (wr : World) : Prop :=
  ∃ (c : Int) (u : Nat → Value), a = { tmps := #[.pointer (some ⟨bm, 0, none⟩), .pointer (some ⟨br, 0, none⟩), u 2, u 3, u 4, .int .i64 c, u 6, u 7, u 8, u 9, u 10, u 11, u 12, u 13, u 14, u 15, u 16, u 17, u 18, u 19, u 20, u 21, u 22, u 23, u 24, u 25, u 26, u 27, u 28, u 29, u 30, u 31, u 32, u 33, u 34, u 35, u 36, u 37, u 38, u 39, u 40, u 41, u 42, u 43, u 44, u 45, u 46, u 47, u 48, u 49, u 50, u 51, u 52, u 53, u 54, u 55, u 56, u 57, u 58, u 59, u 60, u 61, u 62, u 63, u 64, u 65, u 66, u 67, u 68, u 69], defers := [] } ∧ -1 ≤ c ∧ c ≤ n + 1 ∧ Below w.heap.size w wr
theorem SamI.intro {w : World} {bm br : Nat} {n : Nat} {a : Act} {wr : World} (c : Int) (h : a = { tmps := #[.pointer (some ⟨bm, 0, none⟩), .pointer (some ⟨br, 0, none⟩), a.tmps.getD 2 undef, a.tmps.getD 3 undef, a.tmps.getD 4 undef, .int .i64 c, a.tmps.getD 6 undef, a.tmps.getD 7 undef, a.tmps.getD 8 undef, a.tmps.getD 9 undef, a.tmps.getD 10 undef, a.tmps.getD 11 undef, a.tmps.getD 12 undef, a.tmps.getD 13 undef, a.tmps.getD 14 undef, a.tmps.getD 15 undef, a.tmps.getD 16 undef, a.tmps.getD 17 undef, a.tmps.getD 18 undef, a.tmps.getD 19 undef, a.tmps.getD 20 undef, a.tmps.getD 21 undef, a.tmps.getD 22 undef, a.tmps.getD 23 undef, a.tmps.getD 24 undef, a.tmps.getD 25 undef, a.tmps.getD 26 undef, a.tmps.getD 27 undef, a.tmps.getD 28 undef, a.tmps.getD 29 undef, a.tmps.getD 30 undef, a.tmps.getD 31 undef, a.tmps.getD 32 undef, a.tmps.getD 33 undef, a.tmps.getD 34 undef, a.tmps.getD 35 undef, a.tmps.getD 36 undef, a.tmps.getD 37 undef, a.tmps.getD 38 undef, a.tmps.getD 39 undef, a.tmps.getD 40 undef, a.tmps.getD 41 undef, a.tmps.getD 42 undef, a.tmps.getD 43 undef, a.tmps.getD 44 undef, a.tmps.getD 45 undef, a.tmps.getD 46 undef, a.tmps.getD 47 undef, a.tmps.getD 48 undef, a.tmps.getD 49 undef, a.tmps.getD 50 undef, a.tmps.getD 51 undef, a.tmps.getD 52 undef, a.tmps.getD 53 undef, a.tmps.getD 54 undef, a.tmps.getD 55 undef, a.tmps.getD 56 undef, a.tmps.getD 57 undef, a.tmps.getD 58 undef, a.tmps.getD 59 undef, a.tmps.getD 60 undef, a.tmps.getD 61 undef, a.tmps.getD 62 undef, a.tmps.getD 63 undef, a.tmps.getD 64 undef, a.tmps.getD 65 undef, a.tmps.getD 66 undef, a.tmps.getD 67 undef, a.tmps.getD 68 undef, a.tmps.getD 69 undef], defers := [] }) (h1 : -1 ≤ c) (h2 : c ≤ n + 1) (hB : Below w.heap.size w wr) : SamI w bm br n a wr := ⟨c, fun i => a.tmps.getD i undef, h, h1, h2, hB⟩
def SamJ (wr : World) (bm br : Nat) (c : Int) (a1 a2 : Option Addr) (n c1 c2 : Nat) (a : Act) (W : World) : Prop :=
  ∃ (k : Nat) (u : Nat → Value), a = { tmps := #[.pointer (some ⟨bm, 0, none⟩), .pointer (some ⟨br, 0, none⟩), u 2, u 3, u 4, .int .i64 c, .slice a1 n c1, .slice a2 n c2, .int .i64 k, u 9, u 10, u 11, u 12, u 13, u 14, u 15, u 16, u 17, u 18, u 19, u 20, u 21, u 22, u 23, u 24, u 25, u 26, u 27, u 28, u 29, u 30, u 31, u 32, u 33, u 34, u 35, u 36, u 37, u 38, u 39, u 40, u 41, u 42, u 43, u 44, u 45, u 46, u 47, u 48, u 49, u 50, u 51, u 52, u 53, u 54, u 55, u 56, u 57, u 58, u 59, u 60, u 61, u 62, u 63, u 64, u 65, u 66, u 67, u 68, u 69], defers := [] } ∧ k ≤ n ∧ Below wr.heap.size wr W
theorem SamJ.intro {wr : World} {bm br : Nat} {c : Int} {a1 a2 : Option Addr} {n c1 c2 : Nat} {a : Act} {W : World} (k : Nat) (h : a = { tmps := #[.pointer (some ⟨bm, 0, none⟩), .pointer (some ⟨br, 0, none⟩), a.tmps.getD 2 undef, a.tmps.getD 3 undef, a.tmps.getD 4 undef, .int .i64 c, .slice a1 n c1, .slice a2 n c2, .int .i64 k, a.tmps.getD 9 undef, a.tmps.getD 10 undef, a.tmps.getD 11 undef, a.tmps.getD 12 undef, a.tmps.getD 13 undef, a.tmps.getD 14 undef, a.tmps.getD 15 undef, a.tmps.getD 16 undef, a.tmps.getD 17 undef, a.tmps.getD 18 undef, a.tmps.getD 19 undef, a.tmps.getD 20 undef, a.tmps.getD 21 undef, a.tmps.getD 22 undef, a.tmps.getD 23 undef, a.tmps.getD 24 undef, a.tmps.getD 25 undef, a.tmps.getD 26 undef, a.tmps.getD 27 undef, a.tmps.getD 28 undef, a.tmps.getD 29 undef, a.tmps.getD 30 undef, a.tmps.getD 31 undef, a.tmps.getD 32 undef, a.tmps.getD 33 undef, a.tmps.getD 34 undef, a.tmps.getD 35 undef, a.tmps.getD 36 undef, a.tmps.getD 37 undef, a.tmps.getD 38 undef, a.tmps.getD 39 undef, a.tmps.getD 40 undef, a.tmps.getD 41 undef, a.tmps.getD 42 undef, a.tmps.getD 43 undef, a.tmps.getD 44 undef, a.tmps.getD 45 undef, a.tmps.getD 46 undef, a.tmps.getD 47 undef, a.tmps.getD 48 undef, a.tmps.getD 49 undef, a.tmps.getD 50 undef, a.tmps.getD 51 undef, a.tmps.getD 52 undef, a.tmps.getD 53 undef, a.tmps.getD 54 undef, a.tmps.getD 55 undef, a.tmps.getD 56 undef, a.tmps.getD 57 undef, a.tmps.getD 58 undef, a.tmps.getD 59 undef, a.tmps.getD 60 undef, a.tmps.getD 61 undef, a.tmps.getD 62 undef, a.tmps.getD 63 undef, a.tmps.getD 64 undef, a.tmps.getD 65 undef, a.tmps.getD 66 undef, a.tmps.getD 67 undef, a.tmps.getD 68 undef, a.tmps.getD 69 undef], defers := [] }) (hk : k ≤ n) (hB : Below wr.heap.size wr W) : SamJ wr bm br c a1 a2 n c1 c2 a W := ⟨k, fun i => a.tmps.getD i undef, h, hk, hB⟩
set_option maxRecDepth 100000 in
set_option maxHeartbeats 4000000 in
theorem rsame_models (bm br : Nat) (M : MM) (R : RM) (W : World) {K : Int} (h : Both W bm br M R) (hst : M.st = R.st) (hok : MSok M.st K) : Calls Tryz.prog 22 #[.pointer (some ⟨bm, 0, none⟩), .pointer (some ⟨br, 0, none⟩)] W fun e w' => e = .returned (.bool true) ∧ Below W.heap.size W w' := by
  have e1 : M.text = R.text := congrArg MS.text hst
  have e2 : M.marks = R.marks := congrArg MS.marks hst
  have e3 : M.number = R.number := congrArg MS.number hst
  have e4 : M.closed = R.closed := congrArg MS.closed hst
  have e5 : M.readers = R.readers := congrArg MS.readers hst
  have e6 : M.seats.length = R.seats.length := by have := congrArg (fun s : MS => s.seats.length) hst; simpa [MM.st, RM.st] using this
  have hcl : M.seats.length ≤ 8 := by have := hok.clients; simpa [MM.st] using this
  have hrd : M.readers ≤ 8 := hok.readers
  have hslM : ∀ S ∈ M.seats, S.sl.length ≤ 8 := fun S hS => by
    have := (hok.slots S.st (List.mem_map.2 ⟨S, hS, rfl⟩)).1
    have h2 : S.sl.length = M.readers := by simpa [SeM.st, MM.st] using this
    omega
  have hslR : ∀ S ∈ R.seats, R.readers = S.sl.length ∧ S.sl.length ≤ 8 := fun S hS => by
    rw [hst] at hok
    have := (hok.slots S.st (List.mem_map.2 ⟨S, hS, rfl⟩)).1
    have h2 : S.sl.length = R.readers := by simpa [SeM.st, RM.st] using this
    omega
  have hmk : M.marks.length ≤ 64 := hok.marks.1
  have t1 := fun W (h : Both W bm br M R) => text_any bm M W h.m
  have t2 := fun W (h : Both W bm br M R) => rtext_any br R W h.r
  have n1 := fun W (h : Both W bm br M R) => number_any bm M W h.m
  have n2 := fun W (h : Both W bm br M R) => rnumber_any br R W h.r
  have c1 := fun W (h : Both W bm br M R) => closed_any bm M W h.m
  have c2 := fun W (h : Both W bm br M R) => rclosed_any br R W h.r
  have m1 := fun W (h : Both W bm br M R) => marks_any bm M W h.m (by omega)
  have m2 := fun W (h : Both W bm br M R) => rmarks_any br R W h.r (by rw [← e2]; omega)
  have d1 := fun W (h : Both W bm br M R) c => held_any bm c M W h.m hcl hslM
  have d2 := fun W (h : Both W bm br M R) c => rheld_any br c R W h.r (by rw [← e6]; exact hcl) hslR
  have nn := fun W (h : Both W bm br M R) => (show W.cell? ⟨br, 0, none⟩ = some (.int .i64 M.seats.length) by rw [e6]; exact h.r.cs.1)
  rw [e1] at t1; rw [e3] at n1; rw [e4] at c1; rw [e2] at m1 hmk
  simp only [hst] at d1
  have T1 := Lib.hid t1; have T2 := Lib.hid t2; have N1 := Lib.hid n1; have N2 := Lib.hid n2; have C1 := Lib.hid c1; have C2 := Lib.hid c2; have M1 := Lib.hid m1; have M2 := Lib.hid m2; have D1 := Lib.hid d1; have D2 := Lib.hid d2; have NN := Lib.hid nn
  clear t1 t2 n1 n2 c1 c2 m1 m2 d1 d2 nn e1 e2 e3 e4 e5 e6 hst hok hslM hslR
  have HO := Lib.hid h
  clear h
  generalize M.seats.length = n at *
  go_enter Tryz.func22, Tryz.ntmps22
  go_wp2_with (first | (go_at_call 53; have hx := hq2; refine (refMSame_any am2 am3 cm2 cm3 R.marks R.marks w3 (hq1.on hb3) hq2 hcm2 hcm3 (by omega) (by omega)).mono ?_; rintro e w4 ⟨rfl, hb4⟩; rw [decide_eq_true rfl]) | (go_at_call 54; refine (M2.out _ (HO.out.on hb2)).mono ?_; rintro e w3 ⟨v3, rfl, ho3, hb3⟩; obtain ⟨am3, cm3, rfl⟩ := own_slice ho3; obtain ⟨hq2, hcm3⟩ := mrow_own rfl ho3) | (go_at_call 31; refine (M1.out _ HO.out).mono ?_; rintro e w2 ⟨v2, rfl, ho2, hb2⟩; obtain ⟨am2, cm2, rfl⟩ := own_slice ho2; obtain ⟨hq1, hcm2⟩ := mrow_own rfl ho2) | (go_at_call 27; refine (T1.out _ HO.out).mono ?_; rintro e w' ⟨rfl, rfl⟩) | (go_at_call 50; refine (T2.out _ HO.out).mono ?_; rintro e w' ⟨rfl, rfl⟩) | (go_at_call 28; refine (N1.out _ HO.out).mono ?_; rintro e w' ⟨rfl, rfl⟩) | (go_at_call 51; refine (N2.out _ HO.out).mono ?_; rintro e w' ⟨rfl, rfl⟩) | (go_at_call 30; refine (C1.out _ HO.out).mono ?_; rintro e w' ⟨rfl, rfl⟩) | (go_at_call 52; refine (C2.out _ HO.out).mono ?_; rintro e w' ⟨rfl, rfl⟩))
  have hB4 : Below W.heap.size W w4 := (hb2.trans (hb3.mono hb2.size)).trans (hb4.mono (Nat.le_trans hb2.size hb3.size))
  refine wp_loop (SamI W bm br n) (fun a _ => (n + 2 - intOf (a.tmps.getD 5 undef)).toNat) ?_ ?_
  · exact SamI.intro (-1) rfl (by omega) (by omega) hB4
  · rintro a wr ⟨c, u, rfl, hc0, hc1, hB⟩
    have HOr := Lib.hid (HO.out.on hB)
    have hnn := NN.out _ HOr.out
    by_cases hlt : c ≤ n
    · have dl : decide (c ≤ (n : Int)) = true := by simpa using hlt
      go_wp2_with (first | (go_at_call 55; refine (D2.out _ (HOr.out.on hb5) c).mono ?_; rintro e w6 ⟨v6, rfl, ho6, hb6⟩; obtain ⟨a6, k6, rfl⟩ := own_slice ho6) | (go_at_call 33; refine (D1.out _ HOr.out c).mono ?_; rintro e w5 ⟨v5, rfl, ho5, hb5⟩; obtain ⟨a5, k5, rfl⟩ := own_slice ho5))
      have ho5' := own_below6 ho5 hb6
      have hB6 := (hB.trans (hb5.mono hB.size)).trans (hb6.mono (Nat.le_trans hB.size hb5.size))
      generalize heldS R.st c = L at *
      have hLm := own_max ho6
      unfold maxLen at hLm
      refine wp_loop (SamJ w6 bm br c a5 a6 L.length k5 k6) (fun a _ => L.length - (intOf (a.tmps.getD 8 undef)).toNat) ?_ ?_
      · exact SamJ.intro 0 rfl (by omega) (Below.refl _ _)
      · rintro a W7 ⟨k, u, rfl, hk, hB7⟩
        by_cases hlk : k < L.length
        · obtain ⟨g5, rfl⟩ := own_someR ho5' (by omega)
          obtain ⟨g6, rfl⟩ := own_someR ho6 (by omega)
          have q5 := hl_at (own_below6 ho5' (hB7.mono (Nat.le_refl _))) hlk
          have q6 := hl_at (own_below6 ho6 (hB7.mono (Nat.le_refl _))) hlk
          generalize L.getD k 0 = x at q5 q6
          go_wp2
          refine wp_region_noPanic ?_
          refine wp_region_held_drew (S := fun W => W.cell? ⟨g5, k, none⟩ = some (.int .i64 x) ∧ W.cell? ⟨g6, k, none⟩ = some (.int .i64 x)) (by kernel_rfl) ?_ (fun hHeld => ?_)
          · exact ⟨q5, q6⟩
          first | (refine np_skip (i := 0) rfl (by kernel_rfl) (by kernel_rfl) (by kernel_rfl) (by rfl) (by assumption) ?_; (try simp only [Act.put, List.setIfInBounds_toArray, List.set_cons_zero, List.set_cons_succ])) | (refine np_take (i := 0) (v := ?_) rfl (by kernel_rfl) (by kernel_rfl) (by kernel_rfl) (by rfl) ?_ (by assumption) ?_; rotate_left 1; (· (intro w hSw; (try dsimp only at hSw); go_simp; all_goals with_reducible rfl)); (try simp only [Act.put, List.setIfInBounds_toArray, List.set_cons_zero, List.set_cons_succ]))
          first | (refine np_skip (i := 1) rfl (by kernel_rfl) (by kernel_rfl) (by kernel_rfl) (by rfl) (by assumption) ?_; (try simp only [Act.put, List.setIfInBounds_toArray, List.set_cons_zero, List.set_cons_succ])) | (refine np_take (i := 1) (v := ?_) rfl (by kernel_rfl) (by kernel_rfl) (by kernel_rfl) (by rfl) ?_ (by assumption) ?_; rotate_left 1; (· (intro w hSw; (try dsimp only at hSw); go_simp; all_goals with_reducible rfl)); (try simp only [Act.put, List.setIfInBounds_toArray, List.set_cons_zero, List.set_cons_succ]))
          first | (refine np_skip (i := 2) rfl (by kernel_rfl) (by kernel_rfl) (by kernel_rfl) (by rfl) (by assumption) ?_; (try simp only [Act.put, List.setIfInBounds_toArray, List.set_cons_zero, List.set_cons_succ])) | (refine np_take (i := 2) (v := ?_) rfl (by kernel_rfl) (by kernel_rfl) (by kernel_rfl) (by rfl) ?_ (by assumption) ?_; rotate_left 1; (· (intro w hSw; (try dsimp only at hSw); go_simp; all_goals with_reducible rfl)); (try simp only [Act.put, List.setIfInBounds_toArray, List.set_cons_zero, List.set_cons_succ]))
          first | (refine np_skip (i := 3) rfl (by kernel_rfl) (by kernel_rfl) (by kernel_rfl) (by rfl) (by assumption) ?_; (try simp only [Act.put, List.setIfInBounds_toArray, List.set_cons_zero, List.set_cons_succ])) | (refine np_take (i := 3) (v := ?_) rfl (by kernel_rfl) (by kernel_rfl) (by kernel_rfl) (by rfl) ?_ (by assumption) ?_; rotate_left 1; (· (intro w hSw; (try dsimp only at hSw); go_simp; all_goals with_reducible rfl)); (try simp only [Act.put, List.setIfInBounds_toArray, List.set_cons_zero, List.set_cons_succ]))
          first | (refine np_skip (i := 4) rfl (by kernel_rfl) (by kernel_rfl) (by kernel_rfl) (by rfl) (by assumption) ?_; (try simp only [Act.put, List.setIfInBounds_toArray, List.set_cons_zero, List.set_cons_succ])) | (refine np_take (i := 4) (v := ?_) rfl (by kernel_rfl) (by kernel_rfl) (by kernel_rfl) (by rfl) ?_ (by assumption) ?_; rotate_left 1; (· (intro w hSw; (try dsimp only at hSw); go_simp; all_goals with_reducible rfl)); (try simp only [Act.put, List.setIfInBounds_toArray, List.set_cons_zero, List.set_cons_succ]))
          first | (refine np_skip (i := 5) rfl (by kernel_rfl) (by kernel_rfl) (by kernel_rfl) (by rfl) (by assumption) ?_; (try simp only [Act.put, List.setIfInBounds_toArray, List.set_cons_zero, List.set_cons_succ])) | (refine np_take (i := 5) (v := ?_) rfl (by kernel_rfl) (by kernel_rfl) (by kernel_rfl) (by rfl) ?_ (by assumption) ?_; rotate_left 1; (· (intro w hSw; (try dsimp only at hSw); go_simp; all_goals with_reducible rfl)); (try simp only [Act.put, List.setIfInBounds_toArray, List.set_cons_zero, List.set_cons_succ]))
          first | (refine np_skip (i := 6) rfl (by kernel_rfl) (by kernel_rfl) (by kernel_rfl) (by rfl) (by assumption) ?_; (try simp only [Act.put, List.setIfInBounds_toArray, List.set_cons_zero, List.set_cons_succ])) | (refine np_take (i := 6) (v := ?_) rfl (by kernel_rfl) (by kernel_rfl) (by kernel_rfl) (by rfl) ?_ (by assumption) ?_; rotate_left 1; (· (intro w hSw; (try dsimp only at hSw); go_simp; all_goals with_reducible rfl)); (try simp only [Act.put, List.setIfInBounds_toArray, List.set_cons_zero, List.set_cons_succ]))
          first | (refine np_skip (i := 7) rfl (by kernel_rfl) (by kernel_rfl) (by kernel_rfl) (by rfl) (by assumption) ?_; (try simp only [Act.put, List.setIfInBounds_toArray, List.set_cons_zero, List.set_cons_succ])) | (refine np_take (i := 7) (v := ?_) rfl (by kernel_rfl) (by kernel_rfl) (by kernel_rfl) (by rfl) ?_ (by assumption) ?_; rotate_left 1; (· (intro w hSw; (try dsimp only at hSw); go_simp; all_goals with_reducible rfl)); (try simp only [Act.put, List.setIfInBounds_toArray, List.set_cons_zero, List.set_cons_succ]))
          first | (refine np_skip (i := 8) rfl (by kernel_rfl) (by kernel_rfl) (by kernel_rfl) (by rfl) (by assumption) ?_; (try simp only [Act.put, List.setIfInBounds_toArray, List.set_cons_zero, List.set_cons_succ])) | (refine np_take (i := 8) (v := ?_) rfl (by kernel_rfl) (by kernel_rfl) (by kernel_rfl) (by rfl) ?_ (by assumption) ?_; rotate_left 1; (· (intro w hSw; (try dsimp only at hSw); go_simp; all_goals with_reducible rfl)); (try simp only [Act.put, List.setIfInBounds_toArray, List.set_cons_zero, List.set_cons_succ]))
          refine wpAnyH_done (by kernel_rfl) ?_ _
          refine NoPanic.normal ?_
          go_wp2
          exact ⟨SamJ.intro (k + 1) (by first | rfl | (simp; done)) (by omega) (by first | exact hB7.drew | exact hB7), by simp [intOf]; omega⟩
        · obtain rfl : k = L.length := by omega
          go_wp2
          exact ⟨SamI.intro (c + 1) (by first | rfl | (simp; done)) (by omega) (by omega) (hB6.trans (hB7.mono hB6.size)), by simp [intOf]; omega⟩
    · have dl : decide (c ≤ (n : Int)) = false := by simpa using hlt
      go_wp2
      go_returns
      exact ⟨rfl, hB⟩
end Go.Proofs.YtlealeecmmpckaaGreat
namespace Go.Proofs.YtlealeecmmpckaaGreat
set_option linter.unusedVariables false
set_option linter.unusedSimpArgs false
open Go.RowKit Go.Lib Go.Shelf

theorem infoSnp : (Tryz.prog.info? 114).map (fun i => (i.zero, i.size, i.bytes)) = some (some (.agg #[.bool false, .string ⟨#[]⟩, .slice none 0 0, .int .i64 0]), 4, 56) := by kernel_rfl
theorem infoBo : (Tryz.prog.info? 4).map (fun i => (i.zero, i.size, i.bytes)) = some (some (.bool false), 1, 1) := by kernel_rfl
theorem infoRw : (Tryz.prog.info? 109).map (fun i => (i.zero, i.size, i.bytes)) = some (some (.slice none 0 0), 1, 24) := by kernel_rfl
@[irreducible] def mkRns (w : World) (n : Nat) : World := w.alloc (.cells (slL (List.replicate n zSn)).toArray 114)
@[irreducible] def mkBos (w : World) (n : Nat) : World := w.alloc (.cells (List.replicate n (Value.bool false)).toArray 4)
theorem mkRns_eq (w : World) (n : Nat) : mkRns w n = w.alloc (.cells (slL (List.replicate n zSn)).toArray 114) := by unfold mkRns; rfl
theorem mkBos_eq (w : World) (n : Nat) : mkBos w n = w.alloc (.cells (List.replicate n (Value.bool false)).toArray 4) := by unfold mkBos; rfl
theorem made_bos (n : Nat) : (madeCells (Value.cells (.bool false)) (n * 1)).toList = List.replicate n (Value.bool false) := by
  rw [Nat.mul_one]
  apply List.ext_getElem?
  intro i
  simp [madeCells, Value.cells, Nat.mod_one]
  by_cases h : i < n
  · simp [h]
  · simp [h]
theorem run_rns (w : World) (n : Nat) (hn : n ≤ 1000) : (Instr.makeSlice 109 (.int .i64 n) (.int .i64 n)).run Tryz.prog w = .ok (.slice (some ⟨w.heap.size, 0, none⟩) n n) (mkRns w n) := by
  obtain ⟨i0, hi0, hz0, hz1, hz2⟩ := info_parts infoSnp
  have := run_make (P := Tryz.prog) w 109 114 i0 _ Tryz.underlying109 hi0 hz0 .i64 .i64 n n (by omega) (Int.le_refl _) (by rw [hz2]; omega) (by omega)
  have e : madeCells (Value.cells (.agg #[.bool false, .string ⟨#[]⟩, .slice none 0 0, .int .i64 0])) ((n : Int).toNat * i0.size) = (slL (List.replicate n zSn)).toArray := by rw [hz1, Int.toNat_natCast]; exact Array.toList_inj.1 (made_slots n)
  rw [this, e, mkRns_eq, Int.toNat_natCast]
theorem run_bos (w : World) (n : Nat) (hn : n ≤ 1000) : (Instr.makeSlice 105 (.int .i64 n) (.int .i64 n)).run Tryz.prog w = .ok (.slice (some ⟨w.heap.size, 0, none⟩) n n) (mkBos w n) := by
  obtain ⟨i0, hi0, hz0, hz1, hz2⟩ := info_parts infoBo
  have := run_make (P := Tryz.prog) w 105 4 i0 _ Tryz.underlying105 hi0 hz0 .i64 .i64 n n (by omega) (Int.le_refl _) (by rw [hz2]; omega) (by omega)
  have e : madeCells (Value.cells (.bool false)) ((n : Int).toNat * i0.size) = (List.replicate n (Value.bool false)).toArray := by rw [hz1, Int.toNat_natCast]; exact Array.toList_inj.1 (made_bos n)
  rw [this, e, mkBos_eq, Int.toNat_natCast]
theorem make_rns (w : World) (n : Nat) (hn : n ≤ 1000) : ∃ V, (Instr.makeSlice 109 (.int .i64 n) (.int .i64 n)).run Tryz.prog w = .ok (.slice (some ⟨w.heap.size, 0, none⟩) n n) V ∧ V.heap.size = w.heap.size + 1 ∧ V.heap[w.heap.size]? = some (.cells (slL (List.replicate n zSn)).toArray 114 (0, 0)) ∧ Below w.heap.size w V :=
  ⟨_, run_rns w n hn, by rw [mkRns_eq, World.size_alloc], by rw [mkRns_eq]; exact heap_alloc_new _ _, by rw [mkRns_eq]; exact (Below.refl _ w).alloc (Nat.le_refl _) _⟩
theorem make_bos (w : World) (n : Nat) (hn : n ≤ 1000) : ∃ V, (Instr.makeSlice 105 (.int .i64 n) (.int .i64 n)).run Tryz.prog w = .ok (.slice (some ⟨w.heap.size, 0, none⟩) n n) V ∧ V.heap.size = w.heap.size + 1 ∧ V.heap[w.heap.size]? = some (.cells (List.replicate n (Value.bool false)).toArray 4 (0, 0)) ∧ Below w.heap.size w V :=
  ⟨_, run_bos w n hn, by rw [mkBos_eq, World.size_alloc], by rw [mkBos_eq]; exact heap_alloc_new _ _, by rw [mkBos_eq]; exact (Below.refl _ w).alloc (Nat.le_refl _) _⟩
theorem rns_own {W : World} {g n : Nat} (h : W.heap[g]? = some (.cells (slL (List.replicate n zSn)).toArray 114 (0, 0))) (hn : n ≤ 1000) : W.ownsRow g 114 4 (.slice (some ⟨g, 0, none⟩) n n) (List.replicate n zSn).length (slL (List.replicate n zSn)) := by
  have e : (List.replicate n zSn).length = n := List.length_replicate ..
  refine ⟨slL_len _, .inr ⟨g, n, _, by rw [e], Nat.le_refl _, h, by omega, by unfold maxLen; omega, by show (slL _).length = _; rw [slL_len, e], ?_⟩⟩
  show (slL _).take _ = _
  rw [List.take_of_length_le (by rw [slL_len]; exact Nat.le_refl _)]
theorem bos_own {W : World} {g n : Nat} (h : W.heap[g]? = some (.cells (List.replicate n (Value.bool false)).toArray 4 (0, 0))) (hn : n ≤ 1000) : W.ownsRow g 4 1 (.slice (some ⟨g, 0, none⟩) n n) n (List.replicate n (Value.bool false)) := by
  refine ⟨by simp, .inr ⟨g, n, _, rfl, Nat.le_refl _, h, by omega, by unfold maxLen; omega, by simp, ?_⟩⟩
  rw [List.take_of_length_le (by simp)]
/-- The model's cells while it is built. -/
def rdC (n : Nat) (M : RM) : List Value := [.int .i64 n, .int .i64 M.readers, .string M.text, M.mv, .int .i64 M.number, .bool M.closed, M.bv, M.sv]
/-- The reference's model while New builds it: the rows D stand. -/
structure RBld (s : Nat) (W : World) (b n : Nat) (M : RM) : Prop where
  blk : W.heap[b]? = some (.cells (rdC n M).toArray 108 (0, 0))
  marks : MOwn W 0 M.mv M.marks
  subs : W.ownsRow s 4 1 M.bv n (List.replicate n (Value.bool false))
  snaps : W.ownsRow s 109 1 M.sv M.seats.length (rowL M.seats)
  slots : ∀ S ∈ M.seats, W.ownsRow s 114 4 S.v S.sl.length (slL S.sl)
  smarks : ∀ S ∈ M.seats, ∀ x ∈ S.sl, MOwn W 0 x.mv x.s.marks
  some_ : M.bv.ownBlock ≠ none ∧ ∀ S ∈ M.seats, S.v.ownBlock ≠ none
  nosub : ∀ S ∈ M.seats, S.sub = false
  nodup : (M.seats.map (·.v.ownBlock)).Nodup
theorem RBld.below {s : Nat} {W W' : World} {b n : Nat} {M : RM} (h : RBld s W b n M) (hb : Below W.heap.size W W') : RBld s W' b n M :=
  ⟨(hb.block b (Array.getElem?_eq_some_iff.1 h.blk).1).trans h.blk, own_below6 h.marks hb, own_below6 h.subs hb, own_below6 h.snaps hb, fun S hS => own_below6 (h.slots S hS) hb, fun S hS x hx => own_below6 (h.smarks S hS x hx) hb, h.some_, h.nosub, h.nodup⟩
theorem subL_false : ∀ (D : List SeM), (∀ S ∈ D, S.sub = false) → subL D = List.replicate D.length (Value.bool false)
  | [], _ => rfl
  | S :: D, h => by
    show Value.bool S.sub :: subL D = _
    rw [h S (by simp), subL_false D (fun x hx => h x (List.mem_cons_of_mem _ hx))]; rfl
theorem RBld.rdAt {s : Nat} {W : World} {b n : Nat} {M : RM} (h : RBld s W b n M) (hn : M.seats.length = n) : RdAt W b M := by
  subst hn
  refine ⟨h.blk, h.marks, ?_, own_mono (Nat.zero_le _) h.snaps, fun S hS => own_mono (Nat.zero_le _) (h.slots S hS), h.smarks, h.some_, h.nodup⟩
  rw [subL_false _ h.nosub]
  exact own_mono (Nat.zero_le _) h.subs
end Go.Proofs.YtlealeecmmpckaaGreat
namespace Go.Proofs.YtlealeecmmpckaaGreat
set_option linter.unusedVariables false
set_option linter.unusedSimpArgs false
open Go.RowKit Go.Lib Go.Shelf

/-- A row's own block has the row's type. -/
theorem own_type {w : World} {B s n : Nat} {e : TypeId} {v : Value} {xs : List Value} (h : w.ownsRow B e s v n xs) : ∀ g, v.ownBlock = some g → ∃ cs, w.heap[g]? = some (.cells cs e (0, 0)) := by
  intro g hg
  rcases h.2 with ⟨e1, _⟩ | ⟨g', _, cu, e1, _, hg', _⟩
  · rw [e1] at hg; cases hg
  · rw [e1] at hg; injection hg with hg; have hg2 : g' = g := hg; subst hg2; exact ⟨cu, hg'⟩
/-- A row stays where the blocks of its type stay. -/
theorem own_keepT {w w' : World} {B s n : Nat} {e : TypeId} {v : Value} {xs : List Value} (h : w.ownsRow B e s v n xs) (hk : ∀ (k : Nat) (cs : Array Value), w.heap[k]? = some (Obj.cells cs e (0, 0)) → w'.heap[k]? = w.heap[k]?) : w'.ownsRow B e s v n xs := by
  refine ⟨h.1, ?_⟩
  rcases h.2 with hn | ⟨g, cap, cur, rfl, hB, hg, rest⟩
  · exact .inl hn
  · exact .inr ⟨g, cap, cur, rfl, hB, (hk g _ hg).trans hg, rest⟩
theorem rowL_len (D : List SeM) : (rowL D).length = D.length := by simp [rowL]
theorem RBld.push {s : Nat} {W w6 : World} {b n : Nat} {M : RM} (h : RBld s W b n M) (S : SeM) (v6 : Value) (o : Obj) (hsz : s ≤ W.heap.size - 1)
    (hg6 : (W.alloc o).grownBy w6 M.sv.ownBlock) (hn6 : w6.ownsRow s 109 1 v6 (M.seats.length + 1) (rowL M.seats ++ [S.v]))
    (hslot : W.ownsRow (W.heap.size - 1) 114 4 S.v S.sl.length (slL S.sl)) (hold : ∀ S' ∈ M.seats, ∀ g, S'.v.ownBlock = some g → g < W.heap.size - 1)
    (hsome : S.v.ownBlock ≠ none) (hsub : S.sub = false) (hsm : ∀ x ∈ S.sl, MOwn W 0 x.mv x.s.marks) :
    RBld s (w6.setCell ⟨b, 7, none⟩ v6) b n { M with sv := v6, seats := M.seats ++ [S] } := by
  have hlt : ∀ (k : Nat) (cs : Array Value) (e : TypeId), W.heap[k]? = some (Obj.cells cs e (0, 0)) → k < W.heap.size := fun k cs e h => (Array.getElem?_eq_some_iff.1 h).1
  have hk6 : ∀ (k : Nat) (cs : Array Value) (e : TypeId), e ≠ 109 → W.heap[k]? = some (Obj.cells cs e (0, 0)) → w6.heap[k]? = W.heap[k]? := fun k cs e he hk => by
    refine (hg6.block k (by have := hlt _ _ _ hk; simp; omega) (fun hc => ?_)).trans (heap_alloc_old _ _ (hlt _ _ _ hk))
    obtain ⟨cs2, h2⟩ := own_type h.snaps k hc.symm
    rw [hk] at h2; injection h2 with h2; injection h2 with _ h2 _; exact he h2
  have hb6 := (hk6 b _ _ (by decide) h.blk).trans h.blk
  have hkf : ∀ (e : TypeId), e ≠ 109 → e ≠ 108 → ∀ (k : Nat) (cs : Array Value), W.heap[k]? = some (Obj.cells cs e (0, 0)) → (w6.setCell ⟨b, 7, none⟩ v6).heap[k]? = W.heap[k]? := fun e he he2 k cs hk =>
    (setCell_ne _ _ _ _ (fun hkb => by have hkb : k = b := hkb; subst hkb; rw [h.blk] at hk; injection hk with hk; injection hk with _ h2 _; exact he2 h2.symm)).trans (hk6 k cs e he hk)
  refine ⟨?_, own_keepT h.marks (hkf _ (by decide) (by decide)), own_keepT h.subs (hkf _ (by decide) (by decide)), ?_, ?_, ?_, ⟨h.some_.1, ?_⟩, ?_, ?_⟩
  · exact blk_set hb6 7 v6
  · show World.ownsRow _ s _ 1 v6 (M.seats ++ [S]).length (rowL (M.seats ++ [S]))
    rw [List.length_append, show rowL (M.seats ++ [S]) = rowL M.seats ++ [S.v] from by simp [rowL]]
    exact own_keep hn6 hb6 (by decide) (fun k _ hk => setCell_ne _ _ _ _ hk)
  · intro S' hS'
    rcases List.mem_append.1 hS' with h1 | h1
    · exact own_keepT (h.slots S' h1) (hkf _ (by decide) (by decide))
    · rw [List.mem_singleton.1 h1]; exact own_keepT (own_mono hsz hslot) (hkf _ (by decide) (by decide))
  · intro S' hS' x hx
    rcases List.mem_append.1 hS' with h1 | h1
    · exact own_keepT (h.smarks S' h1 x hx) (hkf _ (by decide) (by decide))
    · rw [List.mem_singleton.1 h1] at hx; exact own_keepT (hsm x hx) (hkf _ (by decide) (by decide))
  · intro S' hS'
    rcases List.mem_append.1 hS' with h1 | h1
    · exact h.some_.2 S' h1
    · rw [List.mem_singleton.1 h1]; exact hsome
  · intro S' hS'
    rcases List.mem_append.1 hS' with h1 | h1
    · exact h.nosub S' h1
    · rw [List.mem_singleton.1 h1]; exact hsub
  · show ((M.seats ++ [S]).map (·.v.ownBlock)).Nodup
    rw [List.map_append, List.nodup_append]
    refine ⟨h.nodup, by simp, fun a ha c hc e => ?_⟩
    obtain ⟨S', hS', rfl⟩ := List.mem_map.1 ha
    have hc2 : c = S.v.ownBlock := by simpa using hc
    rw [hc2] at e
    cases ho : S.v.ownBlock with
    | none => exact hsome ho
    | some g =>
      rw [ho] at e
      have h1 := hold S' hS' g e
      have h2 := (World.ownsRow.lt hslot g ho).1
      omega
end Go.Proofs.YtlealeecmmpckaaGreat
namespace Go.Proofs.YtlealeecmmpckaaGreat
set_option linter.unusedVariables false
set_option linter.unusedSimpArgs false
open Go.RowKit Go.Lib Go.Shelf
theorem RBld.keep6 {s : Nat} {W w6 : World} {b n : Nat} {M : RM} (h : RBld s W b n M) {o : Obj} (hg6 : (W.alloc o).grownBy w6 M.sv.ownBlock) {k : Nat} {cs : Array Value} {e : TypeId} (he : e ≠ 109) (hk : W.heap[k]? = some (Obj.cells cs e (0, 0))) : w6.heap[k]? = some (Obj.cells cs e (0, 0)) := by
  have hlt := (Array.getElem?_eq_some_iff.1 hk).1
  refine ((hg6.block k (by simp; omega) (fun hc => ?_)).trans (heap_alloc_old _ _ hlt)).trans hk
  obtain ⟨cs2, h2⟩ := own_type h.snaps k hc.symm
  rw [hk] at h2; injection h2 with h2; injection h2 with _ h2 _; exact he h2
theorem rblk7 {W : World} {b n : Nat} {M : RM} (h : W.heap[b]? = some (Obj.cells (rdC n M).toArray 108 (0, 0))) : W.cell? ⟨b, 7, none⟩ = some M.sv ∧ W.frozen? ⟨b, 7, none⟩ = false := by
  constructor <;> simp [World.cell?, World.frozen?, h, rdC]
theorem rnewS_st {c : CfgV} {n r : Nat} {D : List SeM} (hn : c.clients = n) (hr : c.readers = r) (hD : D.map (·.st) = List.replicate n ⟨false, List.replicate r zeroSn⟩) (bv sv : Value) : (⟨c.text, .slice none 0 0, [], 0, false, r, bv, sv, D⟩ : RM).st = newS c := by
  show (⟨c.text, [], 0, false, r, D.map (·.st)⟩ : MS) = _
  rw [hD]
  unfold newS
  rw [hn, hr]
  rfl
set_option maxRecDepth 100000 in
set_option maxHeartbeats 4000000 in
theorem rnew_any (c : CfgV) (w : World) : Calls Tryz.prog 21 #[c.v] w fun e w' => (cfgE c ≠ 0 ∧ e = .returned (.tuple #[.pointer none, .int .i64 (cfgE c)]) ∧ Below w.heap.size w w') ∨
    (cfgE c = 0 ∧ ∃ b M, e = .returned (.tuple #[.pointer (some ⟨b, 0, none⟩), .int .i64 0]) ∧ RdAt w' b M ∧ M.st = newS c ∧ Below w.heap.size w w' ∧ ∀ k, M.fp b k → w.heap.size ≤ k) := by
  obtain ⟨i0, hi, iz0, iz1, iz2⟩ := info_parts infoRw
  have hB0 := (Below.refl w.heap.size w).alloc (Nat.le_refl _) (.cells #[.int .i64 c.slots, .int .u64 c.gens, .int .i64 c.clients, .int .i64 c.readers, .int .i64 c.queue, .int .i64 c.batch, .int .i64 c.feed, .string c.text] 24)
  have hz0 := heap_alloc_new w (.cells #[.int .i64 c.slots, .int .u64 c.gens, .int .i64 c.clients, .int .i64 c.readers, .int .i64 c.queue, .int .i64 c.batch, .int .i64 c.feed, .string c.text] 24)
  have hck := fun W => refConfig_any c W
  unfold CfgV.v at hck ⊢
  by_cases he : cfgE c = 0
  · rw [he] at hck
    have hcl : 0 ≤ c.clients ∧ c.clients ≤ 8 ∧ 0 ≤ c.readers ∧ c.readers ≤ 8 := by
      unfold cfgE at he
      split at he
      · rename_i hb
        simp [cfgB, inB] at hb
        omega
      · cases he
    obtain ⟨n, hn⟩ : ∃ n : Nat, c.clients = n := ⟨c.clients.toNat, by omega⟩
    obtain ⟨r, hr⟩ : ∃ n : Nat, c.readers = n := ⟨c.readers.toNat, by omega⟩
    have hn8 : n ≤ 8 := by omega
    have hr8 : r ≤ 8 := by omega
    refine Calls.mono (R := fun e w' => ∃ b M, e = .returned (.tuple #[.pointer (some ⟨b, 0, none⟩), .int .i64 0]) ∧ RdAt w' b M ∧ M.st = newS c ∧ Below w.heap.size w w' ∧ ∀ k, M.fp b k → w.heap.size ≤ k) ?_ (fun e w' h => .inr ⟨he, h⟩)
    clear he hcl
    rw [hn, hr] at hck hz0 hB0
    have Hn := Lib.hid hn
    have Hr := Lib.hid hr
    rw [hn, hr]
    clear hn hr
    go_enter Tryz.func21, Tryz.ntmps21
    go_wp2_with (go_at_call 49; refine (hck _).mono ?_; rintro e w1 ⟨rfl, hb1⟩; have hB1 := hB0.trans (hb1.mono (by simp)); have hz1 := (hb1.block _ (by simp)).trans hz0; clear hck hz0 hb1 hB0)
    have kx : ∀ W, Below w1.heap.size w1 W → W.cell? ⟨w.heap.size, 7, none⟩ = some (.string c.text) ∧ W.cell? ⟨w.heap.size, 3, none⟩ = some (.int .i64 r) ∧ W.cell? ⟨w.heap.size, 2, none⟩ = some (.int .i64 n) := fun W hW => by
      have hz := (hW.block _ (Array.getElem?_eq_some_iff.1 hz1).1).trans hz1
      refine ⟨?_, ?_, ?_⟩ <;> simp [World.cell?, hz]
    have Kx := Lib.hid kx
    clear kx
    have hx0 := (Below.refl w1.heap.size w1).drew
    obtain ⟨V1, hmk, hs1, hg1, hbV⟩ := make_bos w1.drew n (by omega)
    have hx6 := hx0.trans hbV
    have hx8 := hx6.alloc hx6.size (.cells (rdC n ⟨c.text, .slice none 0 0, [], 0, false, r, .slice (some ⟨w1.heap.size, 0, none⟩) n n, .slice none 0 0, []⟩).toArray 108)
    have hs1' : V1.heap.size = w1.heap.size + 1 := hs1
    clear hs1
    refine wp_region_noPanic ?_
    refine wp_region_held_drew (S := fun W => W.cell? ⟨w.heap.size, 7, none⟩ = some (.string c.text) ∧ W.cell? ⟨w.heap.size, 3, none⟩ = some (.int .i64 r) ∧ W.cell? ⟨w.heap.size, 2, none⟩ = some (.int .i64 n)) (by kernel_rfl) ?_ (fun hHeld => ?_)
    · first | exact Kx.out _ hx8' | exact Kx.out _ hx6' | exact Kx.out _ hx0
    first | fail | (refine np_take (i := 0) (v := ?_) rfl (by kernel_rfl) (by kernel_rfl) (by kernel_rfl) (by rfl) ?_ (by assumption) ?_; rotate_left 1; (· (intro w hSw; (try dsimp only at hSw); go_simp; all_goals with_reducible rfl)); (try simp only [Act.put, List.setIfInBounds_toArray, List.set_cons_zero, List.set_cons_succ]))
    first | fail | (refine np_take (i := 1) (v := ?_) rfl (by kernel_rfl) (by kernel_rfl) (by kernel_rfl) (by rfl) ?_ (by assumption) ?_; rotate_left 1; (· (intro w hSw; (try dsimp only at hSw); go_simp; all_goals with_reducible rfl)); (try simp only [Act.put, List.setIfInBounds_toArray, List.set_cons_zero, List.set_cons_succ]))
    first | fail | (refine np_take (i := 2) (v := ?_) rfl (by kernel_rfl) (by kernel_rfl) (by kernel_rfl) (by rfl) ?_ (by assumption) ?_; rotate_left 1; (· (intro w hSw; (try dsimp only at hSw); go_simp; all_goals with_reducible rfl)); (try simp only [Act.put, List.setIfInBounds_toArray, List.set_cons_zero, List.set_cons_succ]))
    first | fail | (refine np_take (i := 3) (v := ?_) rfl (by kernel_rfl) (by kernel_rfl) (by kernel_rfl) (by rfl) ?_ (by assumption) ?_; rotate_left 1; (· (intro w hSw; (try dsimp only at hSw); go_simp; all_goals with_reducible rfl)); (try simp only [Act.put, List.setIfInBounds_toArray, List.set_cons_zero, List.set_cons_succ]))
    first | fail | (refine np_take (i := 4) (v := ?_) rfl (by kernel_rfl) (by kernel_rfl) (by kernel_rfl) (by rfl) ?_ (by assumption) ?_; rotate_left 1; (· (intro w hSw; (try dsimp only at hSw); go_simp; all_goals with_reducible rfl)); (try simp only [Act.put, List.setIfInBounds_toArray, List.set_cons_zero, List.set_cons_succ]))
    first | fail | (refine np_take (i := 5) (v := ?_) rfl (by kernel_rfl) (by kernel_rfl) (by kernel_rfl) (by rfl) ?_ (by assumption) ?_; rotate_left 1; (· (intro w hSw; (try dsimp only at hSw); go_simp; all_goals with_reducible rfl)); (try simp only [Act.put, List.setIfInBounds_toArray, List.set_cons_zero, List.set_cons_succ]))
    first | fail | (refine np_take (i := 6) (v := ?_) rfl (by kernel_rfl) (by kernel_rfl) (by kernel_rfl) (by rfl) ?_ (by assumption) ?_; rotate_left 1; (· (intro w hSw; (try dsimp only at hSw); go_simp; all_goals with_reducible rfl)); (try simp only [Act.put, List.setIfInBounds_toArray, List.set_cons_zero, List.set_cons_succ]))
    first | fail | (refine np_take (i := 7) (v := ?_) rfl (by kernel_rfl) (by kernel_rfl) (by kernel_rfl) (by rfl) ?_ (by assumption) ?_; rotate_left 1; (· (intro w hSw; (try dsimp only at hSw); go_simp; all_goals with_reducible rfl)); (try simp only [Act.put, List.setIfInBounds_toArray, List.set_cons_zero, List.set_cons_succ]))
    first | fail | (refine np_step (i := 8) rfl (by kernel_rfl) (fun K hK => ?_); rw [if_pos (by rfl)]; go_simp; ((have hx6' := hx6)); (try go_wp2_with fail); refine hK.out _ _ ?_ (fun hHeld => ?_); (· (first | exact Kx.out _ hx8' | exact Kx.out _ hx6' | exact Kx.out _ hx0)); clear hK K; (try simp only [Act.put, List.setIfInBounds_toArray, List.set_cons_zero, List.set_cons_succ]))
    first | fail | (refine np_take (i := 9) (v := ?_) rfl (by kernel_rfl) (by kernel_rfl) (by kernel_rfl) (by rfl) ?_ (by assumption) ?_; rotate_left 1; (· (intro w hSw; (try dsimp only at hSw); go_simp; all_goals with_reducible rfl)); (try simp only [Act.put, List.setIfInBounds_toArray, List.set_cons_zero, List.set_cons_succ]))
    first | fail | (refine np_step (i := 10) rfl (by kernel_rfl) (fun K hK => ?_); rw [if_pos (by rfl)]; go_simp; ((have hx8' := hx8)); (try go_wp2_with fail); refine hK.out _ _ ?_ (fun hHeld => ?_); (· (first | exact Kx.out _ hx8' | exact Kx.out _ hx6' | exact Kx.out _ hx0)); clear hK K; (try simp only [Act.put, List.setIfInBounds_toArray, List.set_cons_zero, List.set_cons_succ]))
    first | fail | (refine np_take (i := 11) (v := ?_) rfl (by kernel_rfl) (by kernel_rfl) (by kernel_rfl) (by rfl) ?_ (by assumption) ?_; rotate_left 1; (· (intro w hSw; (try dsimp only at hSw); go_simp; all_goals with_reducible rfl)); (try simp only [Act.put, List.setIfInBounds_toArray, List.set_cons_zero, List.set_cons_succ]))
    refine wpAnyH_done (by kernel_rfl) ?_ _
    refine NoPanic.normal ?_
    obtain ⟨M0, hM0⟩ : ∃ M0 : RM, M0 = ⟨c.text, .slice none 0 0, [], 0, false, r, .slice (some ⟨w1.heap.size, 0, none⟩) n n, .slice none 0 0, []⟩ := ⟨_, rfl⟩
    have hBd : RBld w.heap.size (V1.alloc (.cells (rdC n M0).toArray 108)) (w1.heap.size + 1) n M0 := by
      subst hM0
      have hw1 := hB1.size
      have hg1' := (heap_alloc_old V1 (.cells (rdC n ⟨c.text, .slice none 0 0, [], 0, false, r, .slice (some ⟨w1.heap.size, 0, none⟩) n n, .slice none 0 0, []⟩).toArray 108) (Array.getElem?_eq_some_iff.1 hg1).1).trans hg1
      refine ⟨?_, ⟨rfl, .inl ⟨rfl, rfl⟩⟩, own_mono hw1 (bos_own hg1' (by omega)), ⟨rfl, .inl ⟨rfl, rfl⟩⟩, (fun S hS => by cases hS), (fun S hS => by cases hS), ⟨by simp [Value.ownBlock], fun S hS => by cases hS⟩, (fun S hS => by cases hS), by simp⟩
      rw [← hs1']; exact heap_alloc_new V1 _
    have hBV : Below w.heap.size w (V1.alloc (.cells (rdC n M0).toArray 108)) := by subst hM0; exact hB1.trans (hx8.mono hB1.size)
    have hcz : (V1.alloc (.cells (rdC n M0).toArray 108)).heap[w.heap.size]? = some (.cells #[.int .i64 c.slots, .int .u64 c.gens, .int .i64 n, .int .i64 r, .int .i64 c.queue, .int .i64 c.batch, .int .i64 c.feed, .string c.text] 24 (0, 0)) := by
      subst hM0; exact (hx8.block _ (Array.getElem?_eq_some_iff.1 hz1).1).trans hz1
    have hV : V1.alloc (.cells (rdC n M0).toArray 108) = V1.alloc (.cells #[.int .i64 n, .int .i64 r, .string c.text, .slice none 0 0, .int .i64 0, .bool false, .slice (some ⟨w1.heap.size, 0, none⟩) n n, .slice none 0 0] 108) := by subst hM0; rfl
    rw [hV] at hBd hBV hcz
    have hwg : w.heap.size < w1.heap.size := (Array.getElem?_eq_some_iff.1 hz1).1
    have hbs : M0.seats = [] := by subst hM0; rfl
    have hfb : ∀ k, M0.bv.ownBlock = some k → w.heap.size ≤ k := by
      subst hM0; intro k hk; injection hk with hk; have : w1.heap.size = k := hk; omega
    have HFB := Lib.hid hfb
    have HM0 := Lib.hid hM0
    clear hV hx0 hx6 hx8 hHeld Kx hmk hbV hg1 hz1 hfb hM0
    generalize V1.alloc (.cells #[.int .i64 n, .int .i64 r, .string c.text, .slice none 0 0, .int .i64 0, .bool false, .slice (some ⟨w1.heap.size, 0, none⟩) n n, .slice none 0 0] 108) = V at *
    have cx : ∀ W : World, W.heap[w.heap.size]? = some (.cells #[.int .i64 c.slots, .int .u64 c.gens, .int .i64 n, .int .i64 r, .int .i64 c.queue, .int .i64 c.batch, .int .i64 c.feed, .string c.text] 24 (0, 0)) → W.cell? ⟨w.heap.size, 2, none⟩ = some (.int .i64 n) ∧ W.cell? ⟨w.heap.size, 3, none⟩ = some (.int .i64 r) := fun W h => by constructor <;> simp [World.cell?, h]
    have CX := Lib.hid cx
    clear cx
    go_wp2
    go_loopw [6, 23, 24, 25, 26, 27, 28, 29, 30, 31, 32, 33, 34, 35, 36, 37, 38, 39, 40] (fun i x23 x24 x25 x26 x27 x28 x29 x30 x31 x32 x33 x34 x35 x36 x37 x38 x39 x40 wr => ∃ (k : Nat) (sv : Value) (D : List SeM), i = .int .i64 k ∧ k ≤ n ∧ D.length = k ∧ D.map (·.st) = List.replicate k ⟨false, List.replicate r zeroSn⟩ ∧ RBld w.heap.size wr (w1.heap.size + 1) n { M0 with sv := sv, seats := D } ∧ Below w.heap.size w wr ∧ wr.heap[w.heap.size]? = some (.cells #[.int .i64 c.slots, .int .u64 c.gens, .int .i64 n, .int .i64 r, .int .i64 c.queue, .int .i64 c.batch, .int .i64 c.feed, .string c.text] 24 (0, 0))) (fun i x23 x24 x25 x26 x27 x28 x29 x30 x31 x32 x33 x34 x35 x36 x37 x38 x39 x40 wr => n - (intOf i).toNat)
    case atStart => exact ⟨0, M0.sv, [], rfl, by omega, rfl, rfl, by rw [← hbs]; exact hBd, hBV, hcz⟩
    case round =>
      obtain ⟨k, sv, D, rfl, hk, hD, hDs, hBd, hBV, hcz⟩ := hrel
      subst hD
      obtain ⟨q2, q3⟩ := CX.out _ hcz
      have hDs' := Lib.hid hDs
      clear hDs
      by_cases hlt : D.length < n
      · obtain ⟨V2, hmk, hs2, hg2, hb2⟩ := make_rns wr.drew r (by omega)
        have hb2' : Below wr.heap.size wr V2 := (Below.refl _ _).drew.trans hb2
        have hBd2 := hBd.below hb2'
        have hs2' : V2.heap.size = wr.heap.size + 1 := hs2
        have hBV2 := hBV.trans (hb2'.mono hBV.size)
        have hcz2 := (hb2'.block _ (Array.getElem?_eq_some_iff.1 hcz).1).trans hcz
        have hwz := hBV.size
        have c7 : wr.cell? ⟨w1.heap.size + 1, 7, none⟩ = some sv := by simp [World.cell?, hBd.blk, rdC]
        have c72 : V2.cell? ⟨w1.heap.size + 1, 7, none⟩ = some sv := by simp [World.cell?, hBd2.blk, rdC]
        obtain ⟨O, hO⟩ : ∃ O : Obj, O = .cells #[.slice (some ⟨wr.heap.size, 0, none⟩) r r] 109 := ⟨_, rfl⟩
        have c73 : (V2.alloc O).cell? ⟨w1.heap.size + 1, 7, none⟩ = some sv := Lib.cell?_alloc_some O c72
        have hown := hBd2.snaps.alloc O
        have hown' : (V2.alloc O).ownsRow w.heap.size 109 1 sv D.length (rowL D) := hown
        clear hown
        subst hO
        have hnew := pieces_new V2 [.slice (some ⟨wr.heap.size, 0, none⟩) r r] 109
        rw [hs2'] at hnew
        have HBd2 := Lib.hid hBd2
        have Hown := Lib.hid hown'
        have Hnew := Lib.hid hnew
        have HG2 := Lib.hid hg2
        clear hown' hnew hBd2 hb2 hs2 hg2
        go_wp2
        go_region_law (rw [if_pos (by rfl)]; refine wp_append_own _ _ _ 106 rfl w.heap.size 109 i0 (.slice none 0 0) 1 24 Tryz.underlying106 hi iz0 iz1 iz2 rfl (by decide) sv D.length (rowL D) rfl Hown.out _ _ _ [.slice (some ⟨wr.heap.size, 0, none⟩) r r] rfl rfl Hnew.out (by simp [Value.oneCell']) (by unfold maxLen; omega) (by omega) (by have := hBV2.size; simp; omega) ?_; intro v6 w6 hn6 hg6 _; obtain ⟨a6, cc6, rfl⟩ := own_slice hn6; obtain ⟨c76, f76⟩ := rblk7 (HBd2.out.keep6 hg6 (by decide) HBd2.out.blk))
        all_goals
          have hkw := (HBd2.out.keep6 hg6 (by decide) hcz2)
          have hcz6 := (setCell_ne w6 ⟨w1.heap.size + 1, 7, none⟩ (.slice a6 (D.length + 1) cc6) w.heap.size (show w.heap.size ≠ w1.heap.size + 1 by omega)).trans hkw
          have hB6 := ((hBV2.alloc hBV2.size (.cells #[.slice (some ⟨wr.heap.size, 0, none⟩) r r] 109)).grown hg6 (by have := hBV2.size; simp; omega) (fun q hq => (Hown.out.lt q hq).1)).setCell (p := ⟨w1.heap.size + 1, 7, none⟩) (by show w.heap.size ≤ w1.heap.size + 1; omega) (.slice a6 (D.length + 1) cc6)
          have hBd6 : RBld w.heap.size (w6.setCell ⟨w1.heap.size + 1, 7, none⟩ (.slice a6 (D.length + 1) cc6)) (w1.heap.size + 1) n { M0 with sv := .slice a6 (D.length + 1) cc6, seats := D ++ [⟨false, .slice (some ⟨wr.heap.size, 0, none⟩) r r, List.replicate r zSn⟩] } := HBd2.out.push ⟨false, .slice (some ⟨wr.heap.size, 0, none⟩) r r, List.replicate r zSn⟩ _ _ (by omega) hg6 hn6 (by rw [hs2', Nat.add_sub_cancel]; exact rns_own HG2.out (by omega)) (fun S' hS' g hg => by rw [hs2', Nat.add_sub_cancel]; exact own_blk (hBd.slots S' hS') hg) (by simp [Value.ownBlock]) rfl (fun x hx => by rw [(List.mem_replicate.1 hx).2]; exact ⟨rfl, .inl ⟨rfl, rfl⟩⟩)
          go_wp2
          go_roundw
          case rel => exact ⟨D.length + 1, _, _, by go_num, by omega, by rw [List.length_append]; rfl, by rw [List.map_append, hDs'.out, List.replicate_succ']; congr 1; show [SeM.st ⟨false, _, List.replicate r zSn⟩] = _; simp [SeM.st, zSn], hBd6, hB6, hcz6⟩
          case measure => simp [intOf]; omega
      · have hkn : D.length = n := by omega
        go_wp2
        go_returns
        have hDn := hkn
        have hDs2 := hDs'.out
        rw [hkn] at hDs2
        refine ⟨_, _, rfl, hBd.rdAt hDn, ?_, hBV, ?_⟩
        · rw [HM0.out]; exact rnewS_st Hn.out Hr.out hDs2 _ _
        · rintro j (h | h | ⟨S, hS, h⟩)
          · omega
          · exact HFB.out j h
          · exact (World.ownsRow.lt (hBd.slots S hS) j h).1
  · refine Calls.mono (R := fun e w' => e = .returned (.tuple #[.pointer none, .int .i64 (cfgE c)]) ∧ Below w.heap.size w w') ?_ (fun e w' h => .inl ⟨he, h⟩)
    have hd : (cfgE c == 0) = false := by simpa using he
    generalize cfgE c = E at *
    go_enter Tryz.func21, Tryz.ntmps21
    go_wp2_with (go_at_call 49; refine (hck _).mono ?_; rintro e w1 ⟨rfl, hb1⟩; have hB1 := hB0.trans (hb1.mono (by simp)))
    go_returns
    exact ⟨rfl, hB1⟩
end Go.Proofs.YtlealeecmmpckaaGreat
namespace Go.Proofs.YtlealeecmmpckaaGreat
set_option linter.unusedVariables false
set_option linter.unusedSimpArgs false
open Go.RowKit Go.Lib Go.Shelf

theorem cfg8 {W : World} {g : Nat} {x0 x1 x2 x3 x4 x5 x6 x7 : Value} {T : TypeId} (h : W.heap[g]? = some (.cells #[x0, x1, x2, x3, x4, x5, x6, x7] T (0, 0))) : (W.cell? ⟨g, 0, none⟩ = some x0 ∧ W.cell? ⟨g, 1, none⟩ = some x1 ∧ W.cell? ⟨g, 2, none⟩ = some x2 ∧ W.cell? ⟨g, 3, none⟩ = some x3) ∧ W.cell? ⟨g, 4, none⟩ = some x4 ∧ W.cell? ⟨g, 5, none⟩ = some x5 ∧ W.cell? ⟨g, 6, none⟩ = some x6 ∧ W.cell? ⟨g, 7, none⟩ = some x7 := by
  refine ⟨⟨?_, ?_, ?_, ?_⟩, ?_, ?_, ?_, ?_⟩ <;> simp [World.cell?, h]
set_option maxRecDepth 100000 in
set_option maxHeartbeats 2000000 in
theorem walkModelNew (c : CfgV) (w : World) : Calls Tryz.prog 5 #[c.v] w fun e w' => e = .returned (.bool true) ∧ Below w.heap.size w w' := by
  have hm := fun W => new_any c W
  have hr := fun W => rnew_any c W
  by_cases he : cfgE c = 0
  · have hok := newS_ok he
    have hm2 : ∀ W, Calls Tryz.prog 20 #[c.v] W fun e w' => ∃ b M, e = .returned (.tuple #[.pointer (some ⟨b, 0, none⟩), .int .i64 0]) ∧ MdAt w' b M ∧ M.st = newS c ∧ Below W.heap.size W w' := fun W =>
      (hm W).mono fun e w' h => h.elim (fun h => absurd he h.1) fun ⟨_, b, M, h1, h2, h3, h4, _⟩ => ⟨b, M, h1, h2, h3, h4⟩
    have hr2 : ∀ W, Calls Tryz.prog 21 #[c.v] W fun e w' => ∃ b M, e = .returned (.tuple #[.pointer (some ⟨b, 0, none⟩), .int .i64 0]) ∧ RdAt w' b M ∧ M.st = newS c ∧ Below W.heap.size W w' := fun W =>
      (hr W).mono fun e w' h => h.elim (fun h => absurd he h.1) fun ⟨_, b, M, h1, h2, h3, h4, _⟩ => ⟨b, M, h1, h2, h3, h4⟩
    have HOK := Lib.hid hok
    clear hm hr he hok
    have hb0 := fun o => (Below.refl w.heap.size w).alloc (Nat.le_refl _) o
    generalize newS c = st0 at *
    unfold CfgV.v at hm2 hr2 ⊢
    go_enter Tryz.func5, Tryz.ntmps5
    go_wp2_with (first | (go_at_call 13; refine (known_any _).mono ?_; rintro e w4 ⟨rfl, hb4⟩) | (go_at_call 22; have hx := HS2; refine (rsame_models b1 b2 M1 R2 _ ⟨hM1.below hb2, hR2⟩ (HS1.out.trans HS2.out.symm) (by rw [HS1.out]; exact HOK.out)).mono ?_; rintro e w3 ⟨rfl, hb3⟩) | (go_at_call 21; refine (hr2 _).mono ?_; rintro e w2 ⟨b2, R2, rfl, hR2, hs2, hb2⟩; have HS2 := Lib.hid hs2; clear hs2) | (go_at_call 20; refine (hm2 _).mono ?_; rintro e w1 ⟨b1, M1, rfl, hM1, hs1, hb1⟩; have HS1 := Lib.hid hs1; clear hs1; have hB1 := (hb0 (.cells #[.int .i64 c.slots, .int .u64 c.gens, .int .i64 c.clients, .int .i64 c.readers, .int .i64 c.queue, .int .i64 c.batch, .int .i64 c.feed, .string c.text] 24)).trans (hb1.mono (by simp)); have hz1 := (hb1.block _ (by simp)).trans (heap_alloc_new w (.cells #[.int .i64 c.slots, .int .u64 c.gens, .int .i64 c.clients, .int .i64 c.readers, .int .i64 c.queue, .int .i64 c.batch, .int .i64 c.feed, .string c.text] 24)); obtain ⟨⟨z0, z1, z2, z3⟩, z4, z5, z6, z7⟩ := cfg8 hz1; clear hz1))
    go_returns
    exact ⟨rfl, ((hB1.trans (hb2.mono hB1.size)).trans (hb3.mono (Nat.le_trans hB1.size hb2.size))).trans (hb4.mono (Nat.le_trans hB1.size (Nat.le_trans hb2.size hb3.size)))⟩
  · have hm2 : ∀ W, Calls Tryz.prog 20 #[c.v] W fun e w' => e = .returned (.tuple #[.pointer none, .int .i64 (cfgE c)]) ∧ Below W.heap.size W w' := fun W =>
      (hm W).mono fun e w' h => h.elim (fun h => ⟨h.2.1, h.2.2⟩) fun h => absurd h.1 he
    have hr2 : ∀ W, Calls Tryz.prog 21 #[c.v] W fun e w' => e = .returned (.tuple #[.pointer none, .int .i64 (cfgE c)]) ∧ Below W.heap.size W w' := fun W =>
      (hr W).mono fun e w' h => h.elim (fun h => ⟨h.2.1, h.2.2⟩) fun h => absurd h.1 he
    clear hm hr
    generalize cfgE c = E at *
    clear he
    have hb0 := fun o => (Below.refl w.heap.size w).alloc (Nat.le_refl _) o
    unfold CfgV.v at hm2 hr2 ⊢
    go_enter Tryz.func5, Tryz.ntmps5
    go_wp2_with (first | (go_at_call 13; refine (known_any _).mono ?_; rintro e w4 ⟨rfl, hb4⟩) | (go_at_call 21; refine (hr2 _).mono ?_; rintro e w2 ⟨rfl, hb2⟩) | (go_at_call 20; refine (hm2 _).mono ?_; rintro e w1 ⟨rfl, hb1⟩; have hB1 := (hb0 (.cells #[.int .i64 c.slots, .int .u64 c.gens, .int .i64 c.clients, .int .i64 c.readers, .int .i64 c.queue, .int .i64 c.batch, .int .i64 c.feed, .string c.text] 24)).trans (hb1.mono (by simp)); have hz1 := (hb1.block _ (by simp)).trans (heap_alloc_new w (.cells #[.int .i64 c.slots, .int .u64 c.gens, .int .i64 c.clients, .int .i64 c.readers, .int .i64 c.queue, .int .i64 c.batch, .int .i64 c.feed, .string c.text] 24)); obtain ⟨⟨z0, z1, z2, z3⟩, z4, z5, z6, z7⟩ := cfg8 hz1; clear hz1))
    go_returns
    exact ⟨rfl, (hB1.trans (hb2.mono hB1.size)).trans (hb4.mono (Nat.le_trans hB1.size hb2.size))⟩
end Go.Proofs.YtlealeecmmpckaaGreat
namespace Go.Proofs.YtlealeecmmpckaaGreat.modelNew
set_option linter.unusedVariables false
set_option linter.unusedSimpArgs false
open Go.ChangeShapes Go.WideShapes Go.ChangeAt Go.RowKit
open Go.ChangeMaps (open_string shut_string)
set_option linter.unusedVariables false

set_option maxRecDepth 100000 in
theorem lifted (os : Os) (started : os.Started) (H : Type) (enc : TypeId × Value → H) :
    ReturnsInHanded {} Tryz.checked os 5 .any (Rows.modelNewSpec.pre6 enc Tryz.prog Tryz.f5 Rows.modelNewRow.domain false) (Rows.modelNewSpec.post enc Tryz.prog Tryz.f5 false true false false) := by
  refine returnsInHanded_of_change_sized (C := Tryz.checked) own started (by kernel_rfl) Tryz.func5
    (ChangeSpec.witness6 (enc := enc) (C := Tryz.checked) false ⟨#[], #[.agg #[.int .i64 0, .int .u64 0, .int .i64 0, .int .i64 0, .int .i64 0, .int .i64 0, .int .i64 0, .string ⟨#[]⟩]], []⟩ 8 (by kernel_rfl) (by kernel_rfl) (by kernel_rfl) (by kernel_rfl)) ?_
  intro W base args ds gs before hval0 hW hcnd hsz0 _
  have hval : ∀ (j : Nat) t v, Tryz.f5.params[j]? = some t → args[j]? = some v → Value.okWide Tryz.prog W .any base t v := hval0
  have hW' := hW
  obtain ⟨p, q, hA0, hV, rfl, hfz, hnd⟩ := hW
  have hA : DataW.TrodAll enc Tryz.prog W 0 (fun _ => true) true Tryz.f5.params.toList args.toList ds p := hA0
  rw [Tryz.params5] at hA hval
  obtain ⟨v0, vs0, d0, ds0, p0, q0, hargs, rfl, rfl, h0, r0⟩ := trodAll_cons hA
  obtain ⟨rfl, rfl, rfl⟩ := trodAll_nil r0
  obtain rfl : args = #[v0] := by cases args; simp_all
  obtain ⟨rfl, rfl⟩ := trodVars_none hV
  obtain ⟨c0, rfl⟩ := open_cfg (hval 0 24 v0 rfl rfl) h0
  clear hA0 hval0
  (try simp only [List.append_nil, List.nil_append] at hW')
  refine (walkModelNew c0 W ).mono fun e W' ⟨he, hg⟩ => ?_
  subst he
  have hlt0 : ∀ x ∈ p0, x.block < W.heap.size := fun x hx => hW'.lt x (by simp [hx])
  exact ⟨_, rfl, post_of_below (pa := (p0 ++ [])) (pv := []) hW' (fun _ _ _ => (trodAll_cons_mk (shut_bool Tryz.underlying4 _) trodAll_mk0)) (fun sp hsp => (trodAll_cons_mk (WideElems.Trod_stays (by kernel_rfl) (by kernel_rfl) (of_decide_eq_true (by kernel_rfl)) h0 (fun x hx => hg.same (hlt0 x hx)) (fun x hx => hsp x (by simp [hx]))) trodAll_mk0)) (fun _ _ => rfl) (by simp)
    hg (ok_one (by kernel_rfl) rfl (okWide_bool_mk Tryz.underlying4 _))⟩

theorem proved : Rows.ModelNewSaid :=
  OpenClaim.holds_of_wide 5 Tryz.f5 rfl rfl rfl rfl rfl rfl rfl ⟨rfl, rfl, rfl, rfl, rfl⟩ rfl rfl rfl rfl rfl (by kernel_rfl) Tryz.func5 (by kernel_rfl)
    (of_decide_eq_true (by kernel_rfl)) (by unfold Func.isWrapper; first | (rw [if_pos (by decide +kernel)]; kernel_rfl) | (rw [if_neg (by decide +kernel)]; exact ⟨rfl, rfl⟩))
    (fun os started H enc _ => lifted os started H enc)
#print axioms proved
end Go.Proofs.YtlealeecmmpckaaGreat.modelNew
