/- The texts RcB RcC. -/
import Derived.Test.YtlealeecmmpckaaGreatKxe
import Derived.Test.YtlealeecmmpckaaGreatKxc
import Derived.Test.YtlealeecmmpckaaGreatKxf
import Derived.Test.YtlealeecmmpckaaGreatKuh
import Derived.Test.YtlealeecmmpckaaGreatKxi
import Derived.Deep.RegionLaw
namespace Go.Proofs.YtlealeecmmpckaaGreat
set_option linter.unusedVariables false
set_option linter.unusedSimpArgs false
set_option maxRecDepth 100000
set_option maxHeartbeats 8000000
open Go.RowKit Go.Lib Go.Shelf
structure RCp (s : Nat) (W : World) (b n : Nat) (X : List Value) (M : RM) : Prop where
  blk : W.heap[b]? = some (.cells (rdC n M).toArray 108 (0, 0))
  marks : MOwn W 0 M.mv M.marks
  subs : W.ownsRow s 4 1 M.bv n X
  snaps : W.ownsRow s 109 1 M.sv M.seats.length (rowL M.seats)
  slots : ∀ S ∈ M.seats, W.ownsRow s 114 4 S.v S.sl.length (slL S.sl)
  smarks : ∀ S ∈ M.seats, ∀ x ∈ S.sl, MOwn W 0 x.mv x.s.marks
  some_ : M.bv.ownBlock ≠ none ∧ ∀ S ∈ M.seats, S.v.ownBlock ≠ none
  nodup : (M.seats.map (·.v.ownBlock)).Nodup
theorem RCp.below {s : Nat} {W W' : World} {b n : Nat} {X : List Value} {M : RM} (h : RCp s W b n X M) (hb : Below W.heap.size W W') : RCp s W' b n X M :=
  ⟨(hb.block b (Array.getElem?_eq_some_iff.1 h.blk).1).trans h.blk, own_below6 h.marks hb, own_below6 h.subs hb, own_below6 h.snaps hb, fun S hS => own_below6 (h.slots S hS) hb, fun S hS x hx => own_below6 (h.smarks S hS x hx) hb, h.some_, h.nodup⟩
theorem RCp.rdAt {s : Nat} {W : World} {b n : Nat} {X : List Value} {M : RM} (h : RCp s W b n X M) (hn : M.seats.length = n) (hX : X = subL M.seats) : RdAt W b M := by
  subst hn
  subst hX
  exact ⟨h.blk, h.marks, own_mono (Nat.zero_le _) h.subs, own_mono (Nat.zero_le _) h.snaps, fun S hS => own_mono (Nat.zero_le _) (h.slots S hS), h.smarks, h.some_, h.nodup⟩
theorem RCp.keep6 {s : Nat} {W w6 : World} {b n : Nat} {X : List Value} {M : RM} (h : RCp s W b n X M) {o : Obj} (hg6 : (W.alloc o).grownBy w6 M.sv.ownBlock) {k : Nat} {cs : Array Value} {e : TypeId} (he : e ≠ 109) (hk : W.heap[k]? = some (Obj.cells cs e (0, 0))) : w6.heap[k]? = some (Obj.cells cs e (0, 0)) := by
  have hlt := (Array.getElem?_eq_some_iff.1 hk).1
  refine ((hg6.block k (by simp; omega) (fun hc => ?_)).trans (heap_alloc_old _ _ hlt)).trans hk
  obtain ⟨cs2, h2⟩ := own_type h.snaps k hc.symm
  rw [hk] at h2; injection h2 with h2; injection h2 with _ h2 _; exact he h2
theorem RCp.push {s z : Nat} {W w6 : World} {b n : Nat} {X : List Value} {M : RM} (h : RCp s W b n X M) (S : SeM) (v6 : Value) (o : Obj) (hsz : s ≤ z)
    (hg6 : (W.alloc o).grownBy w6 M.sv.ownBlock) (hn6 : w6.ownsRow s 109 1 v6 (M.seats.length + 1) (rowL M.seats ++ [S.v]))
    (hslot : W.ownsRow z 114 4 S.v S.sl.length (slL S.sl)) (hold : ∀ S' ∈ M.seats, ∀ g, S'.v.ownBlock = some g → g < z)
    (hsome : S.v.ownBlock ≠ none) (hsm : ∀ x ∈ S.sl, MOwn W 0 x.mv x.s.marks) :
    RCp s (w6.setCell ⟨b, 7, none⟩ v6) b n X { M with sv := v6, seats := M.seats ++ [S] } := by
  have hlt : ∀ (k : Nat) (cs : Array Value) (e : TypeId), W.heap[k]? = some (Obj.cells cs e (0, 0)) → k < W.heap.size := fun k cs e h => (Array.getElem?_eq_some_iff.1 h).1
  have hk6 : ∀ (k : Nat) (cs : Array Value) (e : TypeId), e ≠ 109 → W.heap[k]? = some (Obj.cells cs e (0, 0)) → w6.heap[k]? = W.heap[k]? := fun k cs e he hk => (h.keep6 hg6 he hk).trans hk.symm
  have hb6 := (hk6 b _ _ (by decide) h.blk).trans h.blk
  have hkf : ∀ (e : TypeId), e ≠ 109 → e ≠ 108 → ∀ (k : Nat) (cs : Array Value), W.heap[k]? = some (Obj.cells cs e (0, 0)) → (w6.setCell ⟨b, 7, none⟩ v6).heap[k]? = W.heap[k]? := fun e he he2 k cs hk =>
    (setCell_ne _ _ _ _ (fun hkb => by have hkb : k = b := hkb; subst hkb; rw [h.blk] at hk; injection hk with hk; injection hk with _ h2 _; exact he2 h2.symm)).trans (hk6 k cs e he hk)
  refine ⟨?_, own_keepT h.marks (hkf _ (by decide) (by decide)), own_keepT h.subs (hkf _ (by decide) (by decide)), ?_, ?_, ?_, ⟨h.some_.1, ?_⟩, ?_⟩
  · exact blk_set hb6 7 v6
  · show World.ownsRow _ s _ 1 v6 (M.seats ++ [S]).length (rowL (M.seats ++ [S]))
    rw [List.length_append, show rowL (M.seats ++ [S]) = rowL M.seats ++ [S.v] from by simp [rowL]]
    exact own_keep hn6 hb6 (by decide) (fun k _ hk => setCell_ne _ _ _ _ hk)
  · intro S' hS'
    rcases List.mem_append.1 hS' with h1 | h1
    · exact own_keepT (h.slots S' h1) (hkf _ (by decide) (by decide))
    · rw [List.mem_singleton.1 h1]; exact own_keepT (own_mono hsz hslot) (hkf _ (by decide) (by decide))
  · intro S' hS' x hx
    rcases List.mem_append.1 hS' with h1 | h1
    · exact own_keepT (h.smarks S' h1 x hx) (hkf _ (by decide) (by decide))
    · rw [List.mem_singleton.1 h1] at hx; exact own_keepT (hsm x hx) (hkf _ (by decide) (by decide))
  · intro S' hS'
    rcases List.mem_append.1 hS' with h1 | h1
    · exact h.some_.2 S' h1
    · rw [List.mem_singleton.1 h1]; exact hsome
  · show ((M.seats ++ [S]).map (·.v.ownBlock)).Nodup
    rw [List.map_append, List.nodup_append]
    refine ⟨h.nodup, by simp, fun a ha c hc e => ?_⟩
    obtain ⟨S', hS', rfl⟩ := List.mem_map.1 ha
    have hc2 : c = S.v.ownBlock := by simpa using hc
    rw [hc2] at e
    cases ho : S.v.ownBlock with
    | none => exact hsome ho
    | some g =>
      rw [ho] at e
      have h1 := hold S' hS' g e
      have h2 := (World.ownsRow.lt hslot g ho).1
      omega
theorem rcp7 {W : World} {b n : Nat} {M : RM} (h : W.heap[b]? = some (Obj.cells (rdC n M).toArray 108 (0, 0))) : W.cell? ⟨b, 7, none⟩ = some M.sv ∧ W.frozen? ⟨b, 7, none⟩ = false := by
  constructor <;> simp [World.cell?, World.frozen?, h, rdC]
theorem own_emptyT (W : World) (T : TypeId) (s : Nat) : (W.alloc (.cells #[] T)).ownsRow W.heap.size T s (.slice (some ⟨W.heap.size, 0, none⟩) 0 0) 0 [] :=
  ⟨by simp, .inr ⟨W.heap.size, 0, #[], rfl, Nat.le_refl _, heap_alloc_new W _, Nat.le_refl _, by unfold maxLen; omega, by simp, by simp⟩⟩
theorem own_some_ne {w : World} {B s n : Nat} {e : TypeId} {v : Value} {xs : List Value} (h : w.ownsRow B e s v n xs) (hv : v ≠ .slice none 0 0) : v.ownBlock ≠ none := by
  rcases h.2 with ⟨e1, _⟩ | ⟨g, _, _, e1, _⟩
  · exact absurd e1 hv
  · rw [e1]; simp [Value.ownBlock]
theorem subL_ones (l : List SeM) : ∀ u ∈ subL l, u.oneCell' = true := by
  intro u hu; obtain ⟨S, _, rfl⟩ := List.mem_map.1 hu; rfl
theorem subL_len (l : List SeM) : (subL l).length = l.length := by simp [subL]
end Go.Proofs.YtlealeecmmpckaaGreat
namespace Go.Proofs.YtlealeecmmpckaaGreat
set_option linter.unusedVariables false
set_option linter.unusedSimpArgs false
set_option maxRecDepth 100000
set_option maxHeartbeats 8000000
open Go.RowKit Go.Lib Go.Shelf
theorem rcopy_any (b : Nat) (M : RM) (w : World) (h : RdAt w b M) {K : Int} (hok : MSok M.st K) : Calls Tryz.prog 25 #[.pointer (some ⟨b, 0, none⟩)] w fun e w' => ∃ b2 N, e = .returned (.pointer (some ⟨b2, 0, none⟩)) ∧ RdAt w' b2 N ∧ N.st = M.st ∧ Below w.heap.size w w' ∧ ∀ k, N.fp b2 k → w.heap.size ≤ k := by
  obtain ⟨i0, hi, iz0, iz1, iz2⟩ := info_parts infoRw
  obtain ⟨j0, hj, jz0, jz1, jz2⟩ := info_parts infoSnp
  obtain ⟨k0, hk0, kz0, kz1, kz2⟩ := info_parts infoBo
  have hcl : M.seats.length ≤ 8 := by have := hok.clients; have h2 : M.st.seats.length = M.seats.length := List.length_map ..; omega
  have hr8 : M.readers ≤ 8 := hok.readers
  have hsl : ∀ S ∈ M.seats, S.sl.length ≤ 8 := fun S hS => by
    have h1 := (hok.slots S.st (List.mem_map.2 ⟨S, hS, rfl⟩)).1
    have h2 : S.st.slots.length = S.sl.length := List.length_map ..
    have h3 : M.st.readers = M.readers := rfl
    omega
  have HSL := Lib.hid hsl
  clear hsl
  obtain ⟨am, cm, hmv⟩ := own_slice h.marks
  obtain ⟨asv, csv, hsv⟩ := own_slice h.snaps
  obtain ⟨gb, cb, hbv⟩ : ∃ gb cb, M.bv = .slice (some ⟨gb, 0, none⟩) M.seats.length cb := by
    rcases h.subs.2 with ⟨e1, _⟩ | ⟨g, cap, cur, e1, _⟩
    · exact absurd (by rw [e1]; rfl) h.some_.1
    · exact ⟨g, cap, e1⟩
  obtain ⟨c0, c1, c2, c3, c4, c5, c6, c7⟩ := h.cs
  rw [hmv] at c3
  rw [hbv] at c6
  rw [hsv] at c7
  have c6' := fun o1 o2 => Lib.cell?_alloc_some o2 (Lib.cell?_alloc_some o1 c6)
  have hB1 := (Below.refl w.heap.size w).alloc (Nat.le_refl _) (.cells #[.int .i64 M.seats.length, .int .i64 M.readers, .string M.text, .slice am M.marks.length cm, .int .i64 M.number, .bool M.closed, .slice (some ⟨gb, 0, none⟩) M.seats.length cb, .slice asv M.seats.length csv] 108)
  have hz1 := heap_alloc_new w (.cells #[.int .i64 M.seats.length, .int .i64 M.readers, .string M.text, .slice am M.marks.length cm, .int .i64 M.number, .bool M.closed, .slice (some ⟨gb, 0, none⟩) M.seats.length cb, .slice asv M.seats.length csv] 108)
  obtain ⟨W1, hW1⟩ : ∃ W1, w.alloc (.cells #[.int .i64 M.seats.length, .int .i64 M.readers, .string M.text, .slice am M.marks.length cm, .int .i64 M.number, .bool M.closed, .slice (some ⟨gb, 0, none⟩) M.seats.length cb, .slice asv M.seats.length csv] 108) = W1 := ⟨_, rfl⟩
  have hs1 : W1.heap.size = w.heap.size + 1 := by rw [← hW1]; simp
  rw [hW1] at hB1 hz1
  have c6W : W1.cell? ⟨b, 6, none⟩ = some (.slice (some ⟨gb, 0, none⟩) M.seats.length cb) := by rw [← hW1]; exact Lib.cell?_alloc_some _ c6
  have c6V := fun o => Lib.cell?_alloc_some o c6W
  have hB2 := hB1.alloc hB1.size (.cells #[] 4)
  have e1 := own_emptyT W1 4 1
  rw [hs1] at e1
  have hsb := (own_below6 h.subs hB2)
  rw [hbv] at hsb
  have hsrc : ∀ (j : Nat) (u : Value), (subL M.seats)[j]? = some u → (W1.alloc (.cells #[] 4)).cell? ((⟨gb, 0, none⟩ : Addr).add j) = some u := fun j u hj => hsb.cells (g := gb) rfl j u hj
  have HS := Lib.hid hsrc
  have H := Lib.hid h
  clear hsrc hsb h
  go_enter Tryz.func25, Tryz.ntmps25
  go_wp2_with (first | (simp only [hW1]) | (at_builtin; refine wpList_append_own _ rfl _ _ 105 rfl (w.heap.size + 1) 4 k0 _ 1 1 Tryz.underlying105 hk0 kz0 kz1 kz2 rfl (by decide) _ 0 [] rfl e1 ⟨gb, 0, none⟩ M.seats.length cb (subL M.seats) rfl (by rw [subL_len, Nat.mul_one]) HS.out (subL_ones M.seats) (by unfold maxLen; omega) (by omega) (by rw [World.size_alloc]; omega) ?_; intro v4 w4 hn4 hg4 hnil4; rw [Nat.zero_add, List.nil_append] at hn4; obtain ⟨a4, c4', rfl⟩ := own_slice hn4; have hz4 : w4.heap[w.heap.size]? = some (.cells #[.int .i64 M.seats.length, .int .i64 M.readers, .string M.text, .slice am M.marks.length cm, .int .i64 M.number, .bool M.closed, .slice (some ⟨gb, 0, none⟩) M.seats.length cb, .slice asv M.seats.length csv] 108 (0, 0)) := (hg4.block w.heap.size (by rw [World.size_alloc]; omega) (fun hc => by injection hc with hc; have hc2 : w.heap.size = w.heap.size + 1 := hc; omega)).trans ((heap_alloc_old W1 _ (by omega)).trans hz1); have c64 : w4.cell? ⟨w.heap.size, 6, none⟩ = some (.slice (some ⟨gb, 0, none⟩) M.seats.length cb) := (by simp [World.cell?, hz4]); have f64 : w4.frozen? ⟨w.heap.size, 6, none⟩ = false := (by simp [World.frozen?, hz4]); have hz5 : (w4.setCell ⟨w.heap.size, 6, none⟩ (.slice a4 M.seats.length c4')).heap[w.heap.size]? = some (.cells #[.int .i64 M.seats.length, .int .i64 M.readers, .string M.text, .slice am M.marks.length cm, .int .i64 M.number, .bool M.closed, .slice a4 M.seats.length c4', .slice asv M.seats.length csv] 108 (0, 0)) := (by have := blk_set (L := [.int .i64 M.seats.length, .int .i64 M.readers, .string M.text, .slice am M.marks.length cm, .int .i64 M.number, .bool M.closed, .slice (some ⟨gb, 0, none⟩) M.seats.length cb, .slice asv M.seats.length csv]) hz4 6 (.slice a4 M.seats.length c4'); exact this); have c75 : (w4.setCell ⟨w.heap.size, 6, none⟩ (.slice a4 M.seats.length c4')).cell? ⟨w.heap.size, 7, none⟩ = some (.slice asv M.seats.length csv) := (by simp [World.cell?, hz5]); have f75 : (w4.setCell ⟨w.heap.size, 6, none⟩ (.slice a4 M.seats.length c4')).frozen? ⟨w.heap.size, 7, none⟩ = false := (by simp [World.frozen?, hz5])))
  have hne4 : Value.slice a4 M.seats.length c4' ≠ .slice none 0 0 := fun e => by have := (hnil4.1 e).1; injection this with this; cases this
  obtain ⟨R0, hR0⟩ : ∃ R0 : RM, R0 = ⟨M.text, .slice am M.marks.length cm, M.marks, M.number, M.closed, M.readers, .slice a4 M.seats.length c4', .slice none 0 0, []⟩ := ⟨_, rfl⟩
  have hz6 : ((w4.setCell ⟨w.heap.size, 6, none⟩ (.slice a4 M.seats.length c4')).setCell ⟨w.heap.size, 7, none⟩ (.slice none 0 0)).heap[w.heap.size]? = some (.cells #[.int .i64 M.seats.length, .int .i64 M.readers, .string M.text, .slice am M.marks.length cm, .int .i64 M.number, .bool M.closed, .slice a4 M.seats.length c4', .slice none 0 0] 108 (0, 0)) := by
    have := blk_set (L := [.int .i64 M.seats.length, .int .i64 M.readers, .string M.text, .slice am M.marks.length cm, .int .i64 M.number, .bool M.closed, .slice a4 M.seats.length c4', .slice asv M.seats.length csv]) hz5 7 (.slice none 0 0); exact this
  have hB6 : Below w.heap.size w ((w4.setCell ⟨w.heap.size, 6, none⟩ (.slice a4 M.seats.length c4')).setCell ⟨w.heap.size, 7, none⟩ (.slice none 0 0)) :=
    ((hB2.grown hg4 (by simp; omega) (fun q hq => by injection hq with hq; have hq2 : w.heap.size + 1 = q := hq; omega)).setCell (p := ⟨w.heap.size, 6, none⟩) (Nat.le_refl _) _).setCell (p := ⟨w.heap.size, 7, none⟩) (Nat.le_refl _) _
  have hRC : RCp w.heap.size ((w4.setCell ⟨w.heap.size, 6, none⟩ (.slice a4 M.seats.length c4')).setCell ⟨w.heap.size, 7, none⟩ (.slice none 0 0)) w.heap.size M.seats.length (subL M.seats) R0 := by
    subst hR0
    refine ⟨hz6, ?_, own_mono (by omega) (own_keep (own_keep hn4 hz4 (by decide) (fun k _ hk => setCell_ne _ _ _ _ hk)) hz5 (by decide) (fun k _ hk => setCell_ne _ _ _ _ hk)), World.ownsRow_nil _ _ _ _, (fun S hS => by cases hS), (fun S hS => by cases hS), ⟨own_some_ne hn4 hne4, fun S hS => by cases hS⟩, by simp⟩
    have := own_below6 H.out.marks hB6
    rw [hmv] at this; exact this
  have hsd : R0.seats = [] := by rw [hR0]
  have hsq : R0.sv = .slice none 0 0 := by rw [hR0]
  have HR0 := Lib.hid hR0
  have HSV := Lib.hid hsv
  have HN4 := Lib.hid hn4
  clear hz1 hz4 hz5 hz6 c64 f64 c75 f75 hn4 hg4 hnil4 hne4 e1 HS c0 c1 c2 c3 c4 c5 c6 c7 c6' c6W c6V hR0 hB1 hB2 hsv
  generalize (w4.setCell ⟨w.heap.size, 6, none⟩ (.slice a4 M.seats.length c4')).setCell ⟨w.heap.size, 7, none⟩ (.slice none 0 0) = W6 at *
  go_loopw [4, 18, 19, 20, 21, 22, 23, 24, 25, 26, 27, 28, 29, 30, 31, 32, 33, 34, 35, 36, 37, 38, 39, 40] (fun i x18 x19 x20 x21 x22 x23 x24 x25 x26 x27 x28 x29 x30 x31 x32 x33 x34 x35 x36 x37 x38 x39 x40 wr => ∃ (k : Nat) (sv : Value) (D : List SeM), i = .int .i64 k ∧ k ≤ M.seats.length ∧ D.length = k ∧ D.map (·.st) = (M.seats.take k).map (·.st) ∧ RCp w.heap.size wr w.heap.size M.seats.length (subL M.seats) { R0 with sv := sv, seats := D } ∧ Below w.heap.size w wr) (fun i x18 x19 x20 x21 x22 x23 x24 x25 x26 x27 x28 x29 x30 x31 x32 x33 x34 x35 x36 x37 x38 x39 x40 wr => M.seats.length - (intOf i).toNat)
  case atStart => exact ⟨0, .slice none 0 0, [], rfl, by omega, rfl, rfl, by rw [← hsd, ← hsq]; exact hRC, hB6⟩
  case round =>
    obtain ⟨k, sv, D, rfl, hk, hD, hDs, hBd, hBV⟩ := hrel
    subst hD
    have hDs' := Lib.hid hDs
    clear hDs
    have hMr := H.out.below hBV
    have z7 := hMr.c7 HSV.out
    by_cases hlt : D.length < M.seats.length
    · have hS := List.getElem?_eq_getElem hlt
      generalize M.seats[D.length] = S at hS
      have hmem := List.mem_of_getElem? hS
      obtain ⟨gs, cs, g, cp, gb2, cb2, cur, hSA⟩ := hMr.seatAt hS
      have hss := HSV.out.symm.trans hSA.sv
      injection hss with hs1' _ hs3'
      subst hs1'
      subst hs3'
      have zr := hSA.c1
      have hcap := hSA.cap
      have hl8 := HSL.out S hmem
      have z7' := fun o => Lib.cell?_alloc_some o z7
      have zr' := fun o => Lib.cell?_alloc_some o zr
      have hxV : Below wr.heap.size wr (wr.drew.alloc (.cells #[] 114)) := ((Below.refl wr.heap.size wr).drew).alloc (Nat.le_refl _) _
      have hE := own_emptyT wr.drew 114 4
      have hsr := own_below6 (hMr.slots S hmem) hxV
      rw [hSA.v] at hsr
      have hsrc : ∀ (j : Nat) (u : Value), (slL S.sl)[j]? = some u → (wr.drew.alloc (.cells #[] 114)).cell? ((⟨g, 0, none⟩ : Addr).add j) = some u := fun j u hj => hsr.cells (g := g) rfl j u hj
      have hone := slL_ones S.sl (fun x hx => by obtain ⟨a, c, e⟩ := own_slice (hMr.smarks S hmem x hx); rw [e]; rfl)
      have hsm := hMr.smarks S hmem
      have HSM := Lib.hid hsm
      have HE := Lib.hid hE
      have HSRC := Lib.hid hsrc
      have HONE := Lib.hid hone
      have HBd := Lib.hid hBd
      have c7 := (rcp7 hBd.blk).1
      have c7' := fun o => Lib.cell?_alloc_some o c7
      have hwr := hBV.size
      clear hsr hSA hE hsrc hone hsm hMr hBd
      go_wp2
      go_region_law (first | (rw [if_pos (by rfl)]; refine wp_append_own _ _ _ 109 rfl wr.heap.size 114 j0 _ 4 56 Tryz.underlying109 hj jz0 jz1 jz2 rfl (by decide) _ 0 [] rfl HE.out ⟨g, 0, none⟩ S.sl.length cp (slL S.sl) rfl (slL_len S.sl) HSRC.out HONE.out (by unfold maxLen; omega) (by omega) (by simp) ?_; intro v6 w6 hn6 hg6 hnil6; rw [Nat.zero_add, List.nil_append] at hn6; obtain ⟨a6, cc6, rfl⟩ := own_slice hn6; have hb6 := hxV.grown hg6 (by simp) (fun q hq => by injection hq with hq; have hq2 : wr.heap.size = q := hq; omega); have HBd6 := Lib.hid (HBd.out.below hb6); have c76 := (rcp7 HBd6.out.blk).1; have c76' := fun o => Lib.cell?_alloc_some o c76; have Hown := Lib.hid (HBd6.out.snaps.alloc (.cells #[.slice a6 S.sl.length cc6] 109)); have Hnew := Lib.hid (pieces_new w6 [.slice a6 S.sl.length cc6] 109); have HN6 := Lib.hid hn6; have hb6s := hb6.size; clear hn6) | (rw [if_pos (by rfl)]; refine wp_append_own _ _ _ 106 rfl w.heap.size 109 i0 (.slice none 0 0) 1 24 Tryz.underlying106 hi iz0 iz1 iz2 rfl (by decide) sv D.length (rowL D) rfl Hown.out _ _ _ [.slice a6 S.sl.length cc6] rfl rfl Hnew.out (by simp [Value.oneCell']) (by unfold maxLen; omega) (by omega) (by simp; omega) ?_; intro v7 w7 hn7 hg7 _; obtain ⟨a7, cc7, rfl⟩ := own_slice hn7; obtain ⟨c77, f77⟩ := rcp7 (HBd6.out.keep6 hg7 (by decide) HBd6.out.blk)))
      all_goals
        have hne6 : Value.slice a6 S.sl.length cc6 ≠ .slice none 0 0 := fun e => by have := (hnil6.1 e).1; injection this with this; cases this
        have hB7 := ((((hBV.trans (hb6.mono hBV.size)).alloc (by omega) (.cells #[.slice a6 S.sl.length cc6] 109)).grown hg7 (by simp; omega) (fun q hq => (Hown.out.lt q hq).1)).setCell (p := ⟨w.heap.size, 7, none⟩) (Nat.le_refl _) (.slice a7 (D.length + 1) cc7))
        have hBd7 : RCp w.heap.size (w7.setCell ⟨w.heap.size, 7, none⟩ (.slice a7 (D.length + 1) cc7)) w.heap.size M.seats.length (subL M.seats) { R0 with sv := .slice a7 (D.length + 1) cc7, seats := D ++ [⟨S.sub, .slice a6 S.sl.length cc6, S.sl⟩] } := HBd6.out.push (z := wr.heap.size) ⟨S.sub, .slice a6 S.sl.length cc6, S.sl⟩ _ _ hwr hg7 hn7 HN6.out (fun S' hS' g hg => own_blk (HBd.out.slots S' hS') hg) (own_some_ne HN6.out hne6) (fun x hx => own_below6 (HSM.out x hx) hb6)
        go_wp2
        go_roundw
        case rel => exact ⟨D.length + 1, _, _, by go_num, by omega, by rw [List.length_append]; rfl, by rw [List.map_append, hDs'.out, List.take_add_one, hS, List.map_append]; rfl, hBd7, hB7⟩
        case measure => simp [intOf]; omega
    · have hkn : D.length = M.seats.length := by omega
      have hDm := hDs'.out
      rw [hkn, List.take_length] at hDm
      have hX : subL M.seats = subL D := by
        have h1 : ∀ l : List SeM, subL l = (l.map (·.st)).map (fun s => Value.bool s.sub) := fun l => by unfold subL; rw [List.map_map]; rfl
        rw [h1, h1, hDm]
      have HX := Lib.hid hX
      have HDM := Lib.hid hDm
      have HKN := Lib.hid hkn
      clear hX hDm hkn
      go_wp2
      go_returns
      refine ⟨_, rfl, _, hBd.rdAt HKN.out HX.out, ?_, hBV, ?_⟩
      · rw [HR0.out]; unfold RM.st; dsimp only; rw [HDM.out]
      · rintro j (h | h | ⟨S, hS, h⟩)
        · omega
        · rw [HR0.out] at h; have := (World.ownsRow.lt HN4.out j h).1; omega
        · exact (World.ownsRow.lt (hBd.slots S hS) j h).1
end Go.Proofs.YtlealeecmmpckaaGreat
