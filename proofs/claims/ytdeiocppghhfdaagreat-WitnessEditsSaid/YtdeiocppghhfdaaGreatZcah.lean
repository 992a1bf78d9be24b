/- Texts, one behind another. -/
import Derived.Test.YtdeiocppghhfdaaGreatZcag
import Derived.OwnWalk
import Derived.Deep.RegionLaw
set_option linter.unusedVariables false
set_option linter.unusedSimpArgs false
set_option maxRecDepth 100000
set_option maxHeartbeats 8000000
namespace Go.Proofs.YtdeiocppghhfdaaGreat
open Go.RowKit Go.Lib Go.Shelf
theorem infoP : (Tryz.prog.info? 94).map (fun i => (i.zero, i.size, i.bytes)) = some (some (.agg #[.int .u8 0, .int .i64 0, .string ⟨#[]⟩]), 3, 32) := by kernel_rfl
theorem pcL_ones (p : PcV) : ∀ u ∈ pcL p, u.oneCell' = true := by
 intro u hu
 unfold pcL at hu
 simp only [List.mem_cons, List.not_mem_nil, or_false] at hu
 rcases hu with rfl | rfl | rfl <;> rfl
theorem pieces_new (W : World) (L : List Value) (T : TypeId) : ∀ (j : Nat) (u : Value), L[j]? = some u → (W.alloc (.cells L.toArray T)).cell? ((⟨W.heap.size, 0, none⟩ : Addr).add j) = some u := by
 intro j u h
 have h2 := heap_alloc_new W (.cells L.toArray T)
 rw [Addr.add_lit, Nat.zero_add]
 have : (W.alloc (.cells L.toArray T)).cell? ⟨W.heap.size, j, none⟩ = (L.toArray)[j]? := by unfold World.cell?; rw [h2]; rfl
 rw [this]; simpa using h
theorem pieces_new1 (W : World) (o : Obj) (L : List Value) (T : TypeId) : ∀ (j : Nat) (u : Value), L[j]? = some u → ((W.alloc o).alloc (.cells L.toArray T)).cell? ((⟨W.heap.size + 1, 0, none⟩ : Addr).add j) = some u := by
 have h := pieces_new (W.alloc o) L T
 rwa [World.size_alloc] at h
def putS (d : List PcV) (p : PcV) : List PcV := if 0 < p.n ∨ p.text.size ≠ 0 then d ++ [p] else d
def DVar (w : World) (B bd : Nat) (d : List PcV) : Prop := ∃ v, w.heap[bd]? = some (.cells #[v] 47 (0, 0)) ∧ w.ownsRow B 94 3 v d.length (pcsL d)
theorem own_ne {w : World} {B s n bd : Nat} {e t : TypeId} {v : Value} {xs : List Value} {cs : Array Value} (h : w.ownsRow B e s v n xs) (hb : w.heap[bd]? = some (.cells cs t (0, 0))) (ht : t ≠ e) : some bd ≠ v.ownBlock := by
 intro he
 rcases h.2 with ⟨rfl, _⟩ | ⟨g, cap, cur, rfl, _, hg, _⟩
 ·simp [Value.ownBlock] at he
 ·simp [Value.ownBlock] at he
  subst he
  rw [hb] at hg
  injection hg with hg; injection hg with _ h2 _
  exact ht h2
theorem own_slice {w : World} {B s n : Nat} {e : TypeId} {v : Value} {xs : List Value} (h : w.ownsRow B e s v n xs) : ∃ ao c, v = .slice ao n c := by
 rcases h.2 with ⟨rfl, rfl⟩ | ⟨g, cap, cur, rfl, _⟩
 ·exact ⟨_, _, rfl⟩
 ·exact ⟨_, _, rfl⟩
theorem box1 {w : World} {b : Nat} {v : Value} {T : TypeId} (h : w.heap[b]? = some (.cells #[v] T (0, 0))) : w.cell? ⟨b, 0, none⟩ = some v ∧ w.frozen? ⟨b, 0, none⟩ = false := by
 constructor <;> simp [World.cell?, World.frozen?, h]
theorem box_set {w : World} {b : Nat} {v u : Value} {T : TypeId} (h : w.heap[b]? = some (.cells #[v] T (0, 0))) : (w.setCell ⟨b, 0, none⟩ u).heap[b]? = some (.cells #[u] T (0, 0)) := by
 simp [World.setCell, Array.getElem?_modify, h]
theorem rv_put {w : World} {B bd s n : Nat} {e T : TypeId} {v v' : Value} {xs : List Value} (hb : w.heap[bd]? = some (.cells #[v] T (0, 0))) (hown : w.ownsRow B e s v' n xs) (hT : T ≠ e) :
  (w.setCell ⟨bd, 0, none⟩ v').heap[bd]? = some (.cells #[v'] T (0, 0)) ∧ (w.setCell ⟨bd, 0, none⟩ v').ownsRow B e s v' n xs :=
 ⟨box_set hb, hown.kept (row := some bd) ⟨rfl, rfl, rfl, by simp [World.setCell], fun k _ hk => Below.heap_setCell _ _ _ _ (fun e => hk (by simp [e]))⟩ (Or.inr (fun e => own_ne hown hb hT e.symm))⟩
theorem own_set {w : World} {B b s n : Nat} {e T : TypeId} {v : Value} {xs : List Value} {cs : Array Value} (h : w.ownsRow B e s v n xs) (hb : w.heap[b]? = some (.cells cs T (0, 0))) (hT : T ≠ e) (u : Value) : (w.setCell ⟨b, 0, none⟩ u).ownsRow B e s v n xs :=
 h.kept (row := some b) ⟨rfl, rfl, rfl, by simp [World.setCell], fun k _ hk => Below.heap_setCell _ _ _ _ (fun e => hk (by simp [e]))⟩ (Or.inr (fun e => own_ne h hb hT e.symm))
theorem pcsL_snoc (d : List PcV) (p : PcV) : pcsL (d ++ [p]) = pcsL d ++ pcL p := by unfold pcsL; simp
theorem put_any (p : PcV) (B bd : Nat) (d : List PcV) (w : World) (hd : DVar w B bd d) (hl : d.length ≤ 100000) (hbB : B ≤ bd) :
  Calls Tryz.prog 276 #[.agg #[.int .u8 p.kind, .int .i64 p.n, .string p.text], .pointer (some ⟨bd, 0, none⟩)] w fun e w' => e = .returned (.tuple #[]) ∧ DVar w' B bd (putS d p) ∧ Below B w w' := by
 obtain ⟨i0, hi, hz0, hz1, hz2⟩ := info_parts infoP
 obtain ⟨v, hv, hown⟩ := hd
 have hlt : bd < w.heap.size := (Array.getElem?_eq_some_iff.1 hv).1
 have hc : w.cell? ⟨bd, 0, none⟩ = some v := by simp [World.cell?, hv]
 have hne : some bd ≠ v.ownBlock := own_ne hown hv (by decide)
 obtain ⟨k, n, t⟩ := p
 by_cases hp : 0 < n ∨ t.size ≠ 0
 ·have hR : putS d ⟨k, n, t⟩ = d ++ [⟨k, n, t⟩] := if_pos hp
  have HR := Lib.hid hR; clear hR
  have hp0 : (decide (0 < n) = true) ∨ (decide (0 < n) = false ∧ t.toList.isEmpty = false) := by
   by_cases h : 0 < n
   ·exact .inl (by simpa using h)
   ·exact .inr ⟨by simpa using h, by rw [te3]; omega⟩
  clear hp
  rcases hp0 with hp0 | ⟨hp0, hp1⟩
  all_goals
   go_enter Tryz.func276, Tryz.ntmps276
   go_wp2_with (at_builtin; refine wpList_append_own _ rfl _ _ 47 rfl B 94 i0 _ 3 32 Tryz.underlying47 hi hz0 hz1 hz2 rfl (by decide) _ _ _ rfl ((hown.alloc _).alloc _) ⟨_, 0, none⟩ 1 1 (pcL ⟨k, n, t⟩) rfl rfl (pieces_new1 _ _ _ _) (pcL_ones _) (by unfold maxLen; omega) (by omega) (by simp; omega) ?_; intro v' w3 hown' hgrow _; obtain ⟨ao, cap', rfl⟩ := own_slice hown'; have hb3 := (hgrow.block bd (by simp; omega) hne).trans ((heap_alloc_old _ _ (by simp; omega)).trans ((heap_alloc_old _ _ hlt).trans hv)); have hc3 := box1 hb3; obtain ⟨hc3, hf3⟩ := hc3; have hb5 := ((((Below.refl B w).alloc (by omega) (.cells #[.int .u8 k, .int .i64 n, .string t] 94)).alloc (by simp; omega) (.cells (pcL ⟨k, n, t⟩).toArray 94)).grown hgrow (by simp; omega) (fun k hk => (hown.lt k hk).1)).setCell (p := ⟨bd, 0, none⟩) hbB (.slice ao (d.length + 1) cap'))
   all_goals go_end0
   all_goals (refine ⟨rfl, ?_, hb5⟩; rw [HR.out]; refine ⟨.slice ao (d.length + 1) cap', ?_⟩; have := rv_put hb3 hown' (by decide); rw [List.length_append, pcsL_snoc]; exact this)
 ·have hR : putS d ⟨k, n, t⟩ = d := if_neg hp
  have hp0 : decide (0 < n) = false := by simp; omega
  have hp1 : t.size = 0 := by omega
  have hp2 : t.toList.isEmpty = true := by rw [te2]; exact hp1
  have HR := Lib.hid hR; clear hR hp
  go_enter Tryz.func276, Tryz.ntmps276
  go_wp2
  go_end0
  rw [HR.out]
  exact ⟨rfl, ⟨v, (heap_alloc_old _ _ hlt).trans hv, hown.alloc _⟩, (Below.refl B w).alloc (by omega) _⟩
def FSt (w : World) (B bt bo bg : Nat) (out : List PcV) (tx : List UInt8) (gone : Int) : Prop :=
 BuF B bt (Lib.byteCells tx) w ∧ DVar w B bo out ∧ w.heap[bg]? = some (.cells #[.int .i64 gone] 3 (0, 0))
theorem BuF.blk {B b : Nat} {bs : List Value} {w : World} (h : BuF B b bs w) : ∃ cs, w.heap[b]? = some (.cells cs 205 (0, 0)) := by
 rcases h with ⟨_, v, h, _⟩ | ⟨_, v, h, _⟩ <;> exact ⟨_, h⟩
theorem kept_box {w w' : World} {b k : Nat} {cs : Array Value} {T : TypeId} {bs : Array Value} (hk : KeptB b w w') (hb : w.heap[b]? = some (.cells bs 205 (0, 0))) (h : w.heap[k]? = some (.cells cs T (0, 0))) (h1 : T ≠ 205) (h2 : T ≠ 5) : w'.heap[k]? = some (.cells cs T (0, 0)) := by
 refine hk k _ h ?_ ?_
 ·intro e
  injection e with e; subst e
  rw [hb] at h; injection h with h; injection h with _ h; exact h1 h.symm
 ·intro c fz e; injection e with _ e; exact h2 e
theorem kept_own {w w' : World} {B b s n : Nat} {e : TypeId} {v : Value} {xs : List Value} {bs : Array Value} (hk : KeptB b w w') (hb : w.heap[b]? = some (.cells bs 205 (0, 0))) (h : w.ownsRow B e s v n xs) (h1 : e ≠ 205) (h2 : e ≠ 5) : w'.ownsRow B e s v n xs := by
 refine ⟨h.1, ?_⟩
 rcases h.2 with hn | ⟨g, cap, cur, rfl, hB, hg, rest⟩
 ·exact .inl hn
 ·exact .inr ⟨g, cap, cur, rfl, hB, kept_box hk hb hg h1 h2, rest⟩
theorem DVar.kept {w w' : World} {B b bo : Nat} {d : List PcV} {bs : Array Value} (h : DVar w B bo d) (hk : KeptB b w w') (hb : w.heap[b]? = some (.cells bs 205 (0, 0))) : DVar w' B bo d := by
 obtain ⟨v, hv, ho⟩ := h
 exact ⟨v, kept_box hk hb hv (by decide) (by decide), kept_own hk hb ho (by decide) (by decide)⟩
theorem BuF.alloc {B b : Nat} {bs : List Value} {w : World} (h : BuF B b bs w) (o : Obj) : BuF B b bs (w.alloc o) := h.elim (fun x => .inl (x.alloc o)) (fun x => .inr (x.alloc o))
def SameBy (w w' : World) : Prop := ∀ (k : Nat) (cs : Array Value) (T : TypeId) (fz : Nat × Nat), w.heap[k]? = some (.cells cs T fz) → T = 205 ∨ T = 5 → w'.heap[k]? = w.heap[k]?
theorem BuF.same {B b : Nat} {bs : List Value} {w w' : World} (h : BuF B b bs w) (hs : SameBy w w') : BuF B b bs w' := by
 have key : ∀ p, Lib.BuilderAtF 205 5 B b p bs w → Lib.BuilderAtF 205 5 B b p bs w' := by
  rintro p ⟨hB, v, hb, ⟨hl, ho⟩, hne⟩
  refine ⟨hB, v, (hs _ _ _ _ hb (.inl rfl)).trans hb, ⟨hl, ?_⟩, hne⟩
  rcases ho with hn | ⟨g, cap, cur, fz, rfl, h1, hg, rest⟩
  ·exact .inl hn
  ·exact .inr ⟨g, cap, cur, fz, rfl, h1, (hs _ _ _ _ hg (.inr rfl)).trans hg, rest⟩
 exact h.elim (fun x => .inl (key _ x)) (fun x => .inr (key _ x))
theorem SameBy.trans {a b c : World} (h : SameBy a b) (k : SameBy b c) : SameBy a c := fun i cs T fz hi ht => by
 have h1 := h i cs T fz hi ht
 exact (k i cs T fz (h1.trans hi) ht).trans h1
theorem SameBy.alloc (w : World) (o : Obj) : SameBy w (w.alloc o) := fun k _ _ _ hk _ => heap_alloc_old _ _ (Array.getElem?_eq_some_iff.1 hk).1
theorem SameBy.grown {w w' : World} {B s n : Nat} {e : TypeId} {v : Value} {xs : List Value} (hg : w.grownBy w' v.ownBlock) (ho : w.ownsRow B e s v n xs) (h1 : e ≠ 205) (h2 : e ≠ 5) : SameBy w w' := fun k cs T fz hk ht => by
 refine hg.block k (Array.getElem?_eq_some_iff.1 hk).1 (fun he => ?_)
 rcases ho.2 with ⟨rfl, _⟩ | ⟨g, cap, cur, rfl, _, hg, _⟩
 ·simp [Value.ownBlock] at he
 ·simp [Value.ownBlock] at he
  subst he
  rw [hk] at hg; injection hg with hg; injection hg with _ h3 _
  rcases ht with h | h
  ·exact h1 (h3.symm.trans h)
  ·exact h2 (h3.symm.trans h)
theorem SameBy.set {w : World} {b : Nat} {cs : Array Value} {T : TypeId} (h : w.heap[b]? = some (.cells cs T (0, 0))) (h1 : T ≠ 205) (h2 : T ≠ 5) (u : Value) : SameBy w (w.setCell ⟨b, 0, none⟩ u) := fun k cs T fz hk ht => by
 refine Below.heap_setCell _ _ _ _ (fun he => ?_)
 subst he
 rw [hk] at h; injection h with h; injection h with _ h3 _
 rcases ht with h | h
 ·exact h1 (h3.symm.trans h)
 ·exact h2 (h3.symm.trans h)
def PKept (bo : Nat) (w w' : World) : Prop := ∀ (k : Nat) (cs : Array Value) (v : Value), w.heap[k]? = some (.cells cs 94 (0, 0)) → w.heap[bo]? = some (.cells #[v] 47 (0, 0)) → some k ≠ v.ownBlock → w'.heap[k]? = w.heap[k]?
theorem set_keep {w : World} {b k : Nat} {cs cs' : Array Value} {T T' : TypeId} (h : w.heap[b]? = some (.cells cs T (0, 0))) (hk : w.heap[k]? = some (.cells cs' T' (0, 0))) (hT : T ≠ T') (u : Value) : (w.setCell ⟨b, 0, none⟩ u).heap[k]? = w.heap[k]? := by
 refine Below.heap_setCell _ _ _ _ (fun he => ?_)
 subst he
 rw [hk] at h; injection h with h; injection h with _ h3 _
 exact hT h3.symm
theorem flushg_any (B bt bo bg : Nat) (out : List PcV) (gone : Int) (w : World) (h : FSt w B bt bo bg out [] gone) (hl : out.length ≤ 100000) (hg : 0 ≤ gone) (h1 : B ≤ bo) (h2 : B ≤ bg) (hB : B ≤ w.heap.size) :
  Calls Tryz.prog 258 #[.pointer (some ⟨bt, 0, none⟩), .pointer (some ⟨bo, 0, none⟩), .pointer (some ⟨bg, 0, none⟩)] w fun e w' => e = .returned (.tuple #[]) ∧ FSt w' B bt bo bg (flushG out gone) [] 0 ∧ Below B w w' ∧ PKept bo w w' := by
 obtain ⟨i0, hi, hz0, hz1, hz2⟩ := info_parts infoP
 obtain ⟨hb, ⟨v, hv, hown⟩, hgb⟩ := h
 obtain ⟨hc, hcf⟩ := box1 hv
 obtain ⟨hcg, hcgf⟩ := box1 hgb
 have hlt := (Array.getElem?_eq_some_iff.1 hv).1
 have hlg := (Array.getElem?_eq_some_iff.1 hgb).1
 have hne : some bo ≠ v.ownBlock := own_ne hown hv (by decide)
 have hne2 : some bg ≠ v.ownBlock := own_ne hown hgb (by decide)
 by_cases hgg : 0 < gone
 ·have hd : decide (0 < gone) = true := by simpa using hgg
  go_enter Tryz.func258, Tryz.ntmps258
  go_wp2_with (first | (go_at_call 259; refine (Tryz.Builder_Len_f B bt _ _ hb).mono ?_; rintro e w' ⟨rfl, rfl⟩) | (at_builtin; refine wpList_append_own _ rfl _ _ 47 rfl B 94 i0 _ 3 32 Tryz.underlying47 hi hz0 hz1 hz2 rfl (by decide) _ _ _ rfl (hown.alloc _) ⟨_, 0, none⟩ 1 1 (pcL ⟨3, gone, ⟨#[]⟩⟩) rfl rfl (pieces_new _ _ _) (pcL_ones _) (by unfold maxLen; omega) (by omega) (by simp; omega) ?_; intro v' w3 hown' hgrow _; obtain ⟨ao, cap', rfl⟩ := own_slice hown'; have hb3 := (hgrow.block bo (by simp; omega) hne).trans ((heap_alloc_old _ _ hlt).trans hv); obtain ⟨hc3, hf3⟩ := box1 hb3; have hg3 := (hgrow.block bg (by simp; omega) hne2).trans ((heap_alloc_old _ _ hlg).trans hgb); have hbg : bg ≠ bo := (fun e => by subst e; rw [hg3] at hb3; injection hb3 with hb3; injection hb3 with _ h _; exact absurd h (by decide)); have hg4 := (Below.heap_setCell w3 ⟨bo, 0, none⟩ (.slice ao (out.length + 1) cap') bg hbg).trans hg3; obtain ⟨hcg4, hfg4⟩ := box1 hg4))
  go_end0
  have hs := ((SameBy.alloc _ _).trans (SameBy.grown hgrow (hown.alloc _) (by decide) (by decide))).trans ((SameBy.set hb3 (by decide) (by decide) (.slice ao (out.length + 1) cap')).trans (SameBy.set hg4 (by decide) (by decide) (.int .i64 0)))
  have hrv := rv_put hb3 hown' (by decide)
  have hB5 := ((((Below.refl B w').alloc (by omega) (.cells (pcL ⟨3, gone, ⟨#[]⟩⟩).toArray 94)).grown hgrow (by simp; omega) (fun k hk => (hown.lt k hk).1)).setCell (p := ⟨bo, 0, none⟩) h1 (.slice ao (out.length + 1) cap')).setCell (p := ⟨bg, 0, none⟩) h2 (.int .i64 0)
  refine ⟨rfl, ⟨hb.same hs, ?_, box_set hg4⟩, hB5, fun k cs v0 hk hv0 hn => ?_⟩
  rotate_left
  ·rw [hv] at hv0; injection hv0 with hv0; injection hv0 with hv0 _ _
   have hv0 : v = v0 := by injection hv0 with h0; injection h0
   subst hv0
   have hkl := (Array.getElem?_eq_some_iff.1 hk).1
   have e1 := (hgrow.block k (by simp; omega) hn).trans (heap_alloc_old _ _ hkl)
   have e2 := (set_keep hb3 (e1.trans hk) (by decide) (.slice ao (out.length + 1) cap')).trans e1
   exact (set_keep hg4 (e2.trans hk) (by decide) (.int .i64 0)).trans e2
  unfold flushG
  rw [if_pos hgg]
  refine ⟨.slice ao (out.length + 1) cap', (Below.heap_setCell _ ⟨bg, 0, none⟩ _ bo (Ne.symm hbg)).trans hrv.1, ?_⟩
  rw [List.length_append, pcsL_snoc]
  exact hrv.2.kept (row := some bg) ⟨rfl, rfl, rfl, by simp [World.setCell], fun k _ hk => Below.heap_setCell _ _ _ _ (fun e => hk (by simp [e]))⟩ (Or.inr (fun e => own_ne hrv.2 hg4 (by decide) e.symm))
 ·have hd : decide (0 < gone) = false := by simpa using hgg
  have hz : gone = 0 := by omega
  subst hz
  go_enter Tryz.func258, Tryz.ntmps258
  go_wp2_with (first | (go_at_call 259; refine (Tryz.Builder_Len_f B bt _ _ hb).mono ?_; rintro e w' ⟨rfl, rfl⟩))
  go_end0
  exact ⟨rfl, ⟨hb, ⟨v, hv, hown⟩, hgb⟩, Below.refl _ _, fun _ _ _ _ _ _ => rfl⟩
theorem KeptB.own {w w' : World} {b : Nat} (_ : KeptB b w w') : True := trivial
theorem flusht_any (B bt bo bg : Nat) (out : List PcV) (tx : List UInt8) (w : World) (h : FSt w B bt bo bg out tx 0) (hx : tx ≠ []) (hl : out.length ≤ 100000) (h1 : B ≤ bo) (h2 : B ≤ bg) (hB : B ≤ w.heap.size) :
  Calls Tryz.prog 258 #[.pointer (some ⟨bt, 0, none⟩), .pointer (some ⟨bo, 0, none⟩), .pointer (some ⟨bg, 0, none⟩)] w fun e w' => e = .returned (.tuple #[]) ∧ FSt w' B bt bo bg (flushT out tx) [] 0 ∧ Below B w w' ∧ PKept bo w w' := by
 obtain ⟨i0, hi, hz0, hz1, hz2⟩ := info_parts infoP
 obtain ⟨hb, ⟨v, hv, hown⟩, hgb⟩ := h
 obtain ⟨hc, hcf⟩ := box1 hv
 obtain ⟨hcg, hcgf⟩ := box1 hgb
 have hlt := (Array.getElem?_eq_some_iff.1 hv).1
 have hlg := (Array.getElem?_eq_some_iff.1 hgb).1
 have hne : some bo ≠ v.ownBlock := own_ne hown hv (by decide)
 have hne2 : some bg ≠ v.ownBlock := own_ne hown hgb (by decide)
 have hlen : decide ((0 : Int) < ((Lib.byteCells tx).length : Int)) = true := by
  rw [Lib.byteCells_length]
  have : tx.length ≠ 0 := fun h => hx (List.eq_nil_of_length_eq_zero h)
  simp; omega
 have hx := Lib.hid hx
 go_enter Tryz.func258, Tryz.ntmps258
 have hlen0 : 0 < (Lib.byteCells tx).length := by simpa using hlen
 go_wp2_with (first | (go_at_call 259; refine (Tryz.Builder_Len_f B bt _ _ hb).mono ?_; rintro e w' ⟨rfl, rfl⟩))
 all_goals try omega
 have hbD : BuF B bt (Lib.byteCells tx) w'.drew := hb
 have hBD : B ≤ w'.drew.heap.size := hB
 have hvD : w'.drew.heap[bo]? = _ := hv
 have hgD : w'.drew.heap[bg]? = _ := hgb
 have hoD : w'.drew.ownsRow _ _ _ _ _ _ := hown
 go_region_law (first | (rw [if_pos (by rfl)]; refine wp_append_own _ _ _ 47 rfl B 94 i0 _ 3 32 Tryz.underlying47 hi hz0 hz1 hz2 rfl (by decide) _ _ _ rfl (hown1.alloc _) ⟨_, 0, none⟩ 1 1 (pcL ⟨2, 0, ⟨tx.toArray⟩⟩) rfl rfl (pieces_new _ _ _) (pcL_ones _) (by unfold maxLen; omega) (by omega) (by have := hB1.size; simp; omega) ?_; intro v' w3 hown' hgrow _; obtain ⟨ao, cap', rfl⟩ := own_slice hown'; have hb3 := (hgrow.block bo (by have := (Array.getElem?_eq_some_iff.1 hv1).1; simp; omega) hne).trans ((heap_alloc_old _ _ (Array.getElem?_eq_some_iff.1 hv1).1).trans hv1); obtain ⟨hc3, hf3⟩ := box1 hb3; have hg3 := (hgrow.block bg (by have := (Array.getElem?_eq_some_iff.1 hg1).1; simp; omega) hne2).trans ((heap_alloc_old _ _ (Array.getElem?_eq_some_iff.1 hg1).1).trans hg1); have hbg : bg ≠ bo := (fun e => by subst e; rw [hg3] at hb3; injection hb3 with hb3; injection hb3 with _ h _; exact absurd h (by decide)); have hg4 := (Below.heap_setCell w3 ⟨bo, 0, none⟩ (.slice ao (out.length + 1) cap') bg hbg).trans hg3; obtain ⟨hcg4, hfg4⟩ := box1 hg4) | (rw [if_pos (by rfl)]; go_simp; go_at_call 174; refine (Tryz.Builder_String_any_k B bt tx _ hbD hBD).mono ?_; rintro e w1 ⟨rfl, hb1, hB1, hk1⟩; obtain ⟨cbs, hbb⟩ := BuF.blk hbD; have hv1 := kept_box hk1 hbb hvD (by decide) (by decide); have hg1 := kept_box hk1 hbb hgD (by decide) (by decide); have hown1 := kept_own hk1 hbb hoD (by decide) (by decide); obtain ⟨hc1, hcf1⟩ := box1 hv1; obtain ⟨hcg1, hcgf1⟩ := box1 hg1; have hlt1 := (Array.getElem?_eq_some_iff.1 hv1).1; have hca := fun o => Lib.cell?_alloc_some o hc1))
 all_goals
  have hs := ((SameBy.alloc w1 _).trans (SameBy.grown hgrow (hown1.alloc _) (by decide) (by decide))).trans (SameBy.set hb3 (by decide) (by decide) (.slice ao (out.length + 1) cap'))
  have hb4 := BuF.same hb1 hs
  obtain ⟨cbs4, hbb4⟩ := BuF.blk hb4
  have hrv := rv_put hb3 hown' (by decide)
  have hB4 := ((((Below.refl B w').drew.trans hB1).alloc (by have := hB1.size; simp at *; omega) (.cells (pcL ⟨2, 0, ⟨tx.toArray⟩⟩).toArray 94)).grown hgrow (by have := hB1.size; simp at *; omega) (fun k hk => (hown1.lt k hk).1)).setCell (p := ⟨bo, 0, none⟩) h1 (.slice ao (out.length + 1) cap')
  have hw4 : (w3.setCell ⟨bo, 0, none⟩ (.slice ao (out.length + 1) cap')).heap.size = w3.heap.size := by simp [World.setCell]
  go_wp2_with (go_at_call 260; refine (breset_k B bt _ _ hb4).mono ?_; rintro e w5 ⟨rfl, hb5, hB5, hk5⟩; have hg5 := kept_box hk5 hbb4 hg4 (by decide) (by decide); obtain ⟨hcg5, hcgf5⟩ := box1 hg5)
  go_end0
  refine ⟨rfl, ⟨hb5, ?_, hg5⟩, hB4.trans hB5, fun k cs v0 hk hv0 hn => ?_⟩
  rotate_left
  ·rw [hv] at hv0; injection hv0 with hv0; injection hv0 with hv0 _ _
   have hv0 : v = v0 := by injection hv0 with h0; injection h0
   subst hv0
   have e0 := kept_box hk1 hbb (show w'.drew.heap[k]? = _ from hk) (by decide) (by decide)
   have hkl := (Array.getElem?_eq_some_iff.1 e0).1
   have e1 := (hgrow.block k (by simp; omega) hn).trans ((heap_alloc_old _ _ hkl).trans e0)
   have e2 := (set_keep hb3 e1 (by decide) (.slice ao (out.length + 1) cap')).trans e1
   exact (kept_box hk5 hbb4 e2 (by decide) (by decide)).trans hk.symm
  unfold flushT
  rw [if_neg hx.out]
  refine DVar.kept ⟨.slice ao (out.length + 1) cap', hrv.1, ?_⟩ hk5 hbb4
  rw [List.length_append, pcsL_snoc]
  exact hrv.2
theorem flush_two (B bt bo bg : Nat) (out : List PcV) (tx : List UInt8) (gone : Int) (w : World) (h : FSt w B bt bo bg out tx gone) (hx : tx = [] ∨ gone = 0) (hg : 0 ≤ gone) (hl : out.length ≤ 100000) (h1 : B ≤ bo) (h2 : B ≤ bg) (hB : B ≤ w.heap.size) :
  Calls Tryz.prog 258 #[.pointer (some ⟨bt, 0, none⟩), .pointer (some ⟨bo, 0, none⟩), .pointer (some ⟨bg, 0, none⟩)] w fun e w' => e = .returned (.tuple #[]) ∧ FSt w' B bt bo bg (flushS out tx gone) [] 0 ∧ Below B w w' ∧ PKept bo w w' := by
 by_cases h0 : tx = []
 ·subst h0
  exact flushg_any B bt bo bg out gone w h hl hg h1 h2 hB
 ·have hz : gone = 0 := hx.resolve_left h0
  subst hz
  exact flusht_any B bt bo bg out tx w h h0 hl h1 h2 hB
end Go.Proofs.YtdeiocppghhfdaaGreat
