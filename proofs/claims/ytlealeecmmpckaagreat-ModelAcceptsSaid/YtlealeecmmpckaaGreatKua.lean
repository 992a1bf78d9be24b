/- The texts Base Opn RunesP RunesA MoB MoC MoD MoE MoF MoG. -/
import Derived.Test.YtlealeecmmpckaaGreatRows
import Derived.Test.YtlealeecmmpckaaGreatChecked
import Derived.Below
import Derived.ChangeSame
import Derived.WalkKit
import Derived.ProofKit
import Derived.OpenShut
import Derived.ShutString
import Derived.SizedLaws
import Derived.Deep.Slices
import Derived.Lib.Strings
import Derived.WalkSpells
import Derived.WalkLawsBesides
import Derived.Lib.Hide
import Derived.Handy
import Derived.Laws.IdiomStrings
import Derived.Lib.IndexBytes
namespace Go.Proofs.YtlealeecmmpckaaGreat
set_option linter.unusedVariables false
set_option linter.unusedSimpArgs false
set_option maxRecDepth 100000
set_option maxHeartbeats 8000000
open Go.RowKit Go.WideShapes Go.ChangeShapes
theorem own : ownKnob Tryz.prog.godebug = none := by kernel_rfl
section
variable {H : Type} {enc : TypeId × Value → H} {P : Program}
theorem post_of_below {f : Func} {s : ChangeSpec} {apart fresh handsOn again : Bool} {W W' : World} {args : Array Value} {v : Value} {ds gs : List (DataW H)} {before pa pv : List MemPlace}
    (hW : DataW.Whole enc P f.params.toList s.vars apart W args.toList ds gs before)
    (hres : ∀ (b : Nat) (sp : Nat → Bool) (hd : Bool), DataW.TrodAll enc P W' b sp hd f.resultTypes.toList (v.resultList f.resultTypes.size) (s.fn H (ds ++ gs)).results [])
    (hargs : ∀ sp : Nat → Bool, (∀ p ∈ before, sp p.block = true) → DataW.TrodAll enc P W' 0 sp true f.params.toList args.toList (s.fn H (ds ++ gs)).args pa)
    (hvars : ∀ sp : Nat → Bool, (∀ p ∈ before, sp p.block = true) → DataW.TrodVars enc P W' sp s.vars (s.fn H (ds ++ gs)).vars pv)
    (hps : before = pa ++ pv) (hb : Below W.heap.size W W')
    (hok : ∀ (j : Nat) (t : TypeId) (r : Value), f.resultTypes[j]? = some t → (v.resultList f.resultTypes.size)[j]? = some r → Value.okWide P W' .any 0 t r) :
    s.post enc P f apart fresh handsOn again W args v W' := by
  have hlt : ∀ p ∈ before, p.block < W.heap.size := fun p hp => hW.lt p hp
  have hold : ∀ p ∈ before, (fun b => decide (b < W.heap.size)) p.block = true := fun p hp => by simpa using hlt p hp
  refine ⟨ds, gs, before, [], pa, pv, hW, hres _ _ _, hargs _ hold, hvars _ hold, World.keptBut_mono (fun p hp => ⟨hp, ?_⟩) (hb.frame (· ∈ before)), fun _ => ?_⟩
  · rw [hps, List.mem_append] at hp
    exact Or.inr hp
  · obtain ⟨_, _, _, _, _, hz, hn⟩ := hW
    refine ⟨hok, _, _, ([] ++ pa) ++ pv, ⟨[] ++ pa, pv, trodAll_append (hargs _ (fun _ _ => rfl)) (hres _ _ _), hvars _ (fun _ _ => rfl), rfl, ?_, ?_⟩, ?_⟩
    · intro b off hp
      have hin : MemPlace.cell b off ∈ before := by rw [hps]; simpa using hp
      rw [hb.frozen (hlt _ hin)]
      exact hz b off hin
    · intro ha
      have := hn ha
      rw [hps] at this
      simpa using this
    · intro p hp _
      rw [hps]
      simpa using hp
end
end Go.Proofs.YtlealeecmmpckaaGreat
namespace Go.Proofs.YtlealeecmmpckaaGreat
set_option linter.unusedVariables false
set_option linter.unusedSimpArgs false
set_option maxRecDepth 100000
set_option maxHeartbeats 8000000
open Go.RowKit Go.WideShapes Go.ChangeShapes Go.Deep
section
variable {H : Type} {enc : TypeId × Value → H} {P : Program} {w : World} {base : Nat} {spare : Nat → Bool} {held : Bool}
theorem field_of {t : TypeId} {fs : Array Field} {fuel : Nat} {cs : List Value} {x : DataW H × List MemPlace} (hs : P.underlying t = some (.struct fs)) (h : DataW.trod enc P w base spare held fuel t cs = some x) (i : Nat) (f : Field) (hf : fs[i]? = some f) :
    ∃ n y, DataW.trod enc P w base spare held n f.type ((cs.drop f.offset).take (P.cellsOf f.type)) = some y := by
  obtain ⟨xs, n, _, _, _, hl, hx⟩ := DataW.trod_struct hs h
  have h1 := hx i f hf
  have hlt := (Array.getElem?_eq_some_iff.1 hf).1
  rw [List.getElem?_eq_getElem (by omega)] at h1
  exact ⟨n, _, h1⟩
theorem cell_of {cs : List Value} {k m : Nat} {v : Value} (h : (cs.drop k).take m = [v]) : cs[k]? = some v := by
  have h1 : ((cs.drop k).take m)[0]? = some v := by rw [h]; rfl
  rw [List.getElem?_take] at h1
  split at h1
  · rwa [List.getElem?_drop, Nat.add_zero] at h1
  · cases h1
theorem int_cell {t : TypeId} {κ : IntKind} {fuel k m : Nat} {cs : List Value} {x : DataW H × List MemPlace} (ht : P.underlying t = some (.int κ)) (h : DataW.trod enc P w base spare held fuel t ((cs.drop k).take m) = some x) : ∃ z, cs[k]? = some (.int κ z) ∧ (Lit.int κ z).wf = true := by
  obtain ⟨z, h1, _, h2⟩ := DataW.trod_int ht h
  exact ⟨z, cell_of h1, h2⟩
theorem str_cell {t : TypeId} {fuel k m : Nat} {cs : List Value} {x : DataW H × List MemPlace} (ht : P.underlying t = some .string) (h : DataW.trod enc P w base spare held fuel t ((cs.drop k).take m) = some x) : ∃ z, cs[k]? = some (.string z) := by
  obtain ⟨z, h1, _, _⟩ := DataW.trod_string ht h
  exact ⟨z, cell_of h1⟩
theorem part_cell {cs : List Value} {o m k : Nat} {v : Value} (h : ((cs.drop o).take m)[k]? = some v) : cs[o + k]? = some v := by
  rw [List.getElem?_take] at h
  split at h
  · rwa [List.getElem?_drop] at h
  · cases h
theorem rows_of {α : Type} (f : α → List Value) (k : Nat) (hk : ∀ x, (f x).length = k) (a : Addr) (Q : α → Prop) : ∀ (n : Nat), (∀ i, i < n → ∃ x, w.cells? base (a.add (i * k)) k = some (f x) ∧ Q x) →
    ∃ xs : List α, xs.length = n ∧ (∀ x ∈ xs, Q x) ∧ ∀ j u, (xs.flatMap f)[j]? = some u → w.cell? (a.add j) = some u
  | 0, _ => ⟨[], rfl, fun _ h => by (cases h), fun j u h => by simp at h⟩
  | n + 1, h => by
    obtain ⟨xs, hl, hQ, hx⟩ := rows_of f k hk a Q n (fun i hi => h i (by omega))
    obtain ⟨x, hc, hq⟩ := h n (by omega)
    obtain ⟨_, hlen, hcell⟩ := World.cells?_some hc
    have hfl : (xs.flatMap f).length = n * k := by
      clear hx h
      rw [← hl]
      clear hl hQ
      induction xs with
      | nil => simp
      | cons y ys ih => rw [List.flatMap_cons, List.length_append, ih, hk, List.length_cons, Nat.succ_mul]; omega
    refine ⟨xs ++ [x], by simp [hl], fun y hy => ?_, fun j u hj => ?_⟩
    · rcases List.mem_append.1 hy with h | h
      · exact hQ y h
      · rw [List.mem_singleton.1 h]; exact hq
    · rw [List.flatMap_append] at hj
      by_cases hlt : j < n * k
      · rw [List.getElem?_append_left (by omega)] at hj
        exact hx j u hj
      · rw [List.getElem?_append_right (by omega), hfl] at hj
        have hj2 : (f x)[j - n * k]? = some u := by simpa using hj
        have hlt2 : j - n * k < k := by
          have := (List.getElem?_eq_some_iff.1 hj2).1
          rwa [hk] at this
        have := hcell (j - n * k) hlt2
        rw [hj2, Deep.add_add, show n * k + (j - n * k) = j from by omega] at this
        exact this
theorem wf64 {z : Int} (h : (Lit.int .i64 z).wf = true) : -9223372036854775808 ≤ z ∧ z ≤ 9223372036854775807 := by
  simp only [Lit.wf, Bool.and_eq_true, decide_eq_true_eq] at h
  exact h
theorem cell_size {w : World} {a : Addr} {v : Value} (h : w.cell? a = some v) : a.block < w.heap.size := by
  rcases Nat.lt_or_ge a.block w.heap.size with h' | h'
  · exact h'
  · simp [World.cell?, Array.getElem?_eq_none h'] at h
theorem wf8 {z : Int} (h : (Lit.int .u8 z).wf = true) : 0 ≤ z ∧ z ≤ 255 := by
  simp only [Lit.wf, Bool.and_eq_true, decide_eq_true_eq] at h
  exact h
theorem wf32 {z : Int} (h : (Lit.int .u32 z).wf = true) : 0 ≤ z ∧ z ≤ 4294967295 := by
  simp only [Lit.wf, Bool.and_eq_true, decide_eq_true_eq] at h
  exact h
end
end Go.Proofs.YtlealeecmmpckaaGreat
namespace Go.Proofs.YtlealeecmmpckaaGreat
set_option linter.unusedVariables false
set_option linter.unusedSimpArgs false
set_option maxRecDepth 100000
set_option maxHeartbeats 8000000
def contB (b : Int) : Bool := decide (128 ≤ b ∧ b ≤ 191)
def annB (b : Int) : Int := if 244 < b then 0 else if 240 ≤ b then 4 else if 224 ≤ b then 3 else if 194 ≤ b then 2 else if b < 128 then 1 else 0
def runeB (r : Int) : Bool := decide (0 ≤ r ∧ r ≤ 1114111 ∧ (r < 55296 ∨ 57343 < r))
def lenB (r : Int) : Int := if runeB r = false then 0 else if r < 128 then 1 else if r < 2048 then 2 else if r < 65536 then 3 else 4
def byt (l : List UInt8) (k : Nat) : Int := ((l.getD k 0).toNat : Int)
def toByte (x : Int) : UInt8 := UInt8.ofNat x.toNat
theorem byt_mk (s : ByteArray) (k : Nat) (h : k < s.size) : ((s[k]).toNat : Int) = byt s.data.toList k := by
  unfold byt
  have : s.data.toList.getD k 0 = s[k] := by
    rw [List.getD_eq_getElem?_getD, List.getElem?_eq_getElem (by simpa using h)]; rfl
  rw [this]
theorem byt_lo (l : List UInt8) (k : Nat) : 0 ≤ byt l k := by unfold byt; omega
theorem byt_hi (l : List UInt8) (k : Nat) : byt l k ≤ 255 := by unfold byt; have := (l.getD k 0).toNat_lt; omega
theorem toByte_byt (l : List UInt8) (k : Nat) (h : k < l.length) : toByte (byt l k) = l[k] := by
  unfold toByte byt
  rw [List.getD_eq_getElem?_getD, List.getElem?_eq_getElem h]
  simp
theorem byt_drop (l : List UInt8) (a k : Nat) : byt (l.drop a) k = byt l (a + k) := by
  unfold byt; simp [List.getD_eq_getElem?_getD]
theorem byt_append_left (l m : List UInt8) (k : Nat) (h : k < l.length) : byt (l ++ m) k = byt l k := by
  unfold byt; simp [List.getD_eq_getElem?_getD, List.getElem?_append_left h]
theorem byt_take (l : List UInt8) (a k : Nat) (h : k < a) : byt (l.take a) k = byt l k := by
  unfold byt; simp [List.getD_eq_getElem?_getD, h]
def bndB (l : List UInt8) (n : Int) : Bool := decide (0 ≤ n) && ((decide (n < l.length) && !contB (byt l n.toNat)) || n == l.length)
theorem bnd_close {l : List UInt8} {n : Int} {x : Bool} (h : x = true ↔ 0 ≤ n ∧ ((n < l.length ∧ contB (byt l n.toNat) = false) ∨ n = l.length)) : x = bndB l n := by
  rw [Bool.eq_iff_iff, h]; unfold bndB; simp
def encL (r : Int) : List UInt8 :=
  if runeB r = false then [] else if r < 128 then [toByte r] else if r < 2048 then [toByte (192 + r / 64), toByte (128 + r % 64)]
  else if r < 65536 then [toByte (224 + r / 4096), toByte (128 + r / 64 % 64), toByte (128 + r % 64)]
  else [toByte (240 + r / 262144), toByte (128 + r / 4096 % 64), toByte (128 + r / 64 % 64), toByte (128 + r % 64)]
def encE (r : Int) : Int := if runeB r = false then 2 else 0
theorem runeB_bd {r : Int} (h : runeB r = true) : 0 ≤ r ∧ r ≤ 1114111 := by unfold runeB at h; simp at h; omega
theorem len_of {r : Int} {n : Int} (h : lenB r = n) : (n = 0 ∧ runeB r = false) ∨ (runeB r = true ∧ 0 ≤ r ∧ ((n = 1 ∧ r < 128) ∨ (n = 2 ∧ 128 ≤ r ∧ r < 2048) ∨ (n = 3 ∧ 2048 ≤ r ∧ r < 65536) ∨ (n = 4 ∧ 65536 ≤ r ∧ r ≤ 1114111))) := by
  unfold lenB at h
  split at h
  · exact .inl ⟨by omega, by assumption⟩
  · have := runeB_bd (r := r) (by simpa using ‹¬ runeB r = false›)
    refine .inr ⟨by simpa using ‹¬ runeB r = false›, by omega, ?_⟩
    repeat' split at h
    all_goals omega
theorem encL_len (r : Int) : ((encL r).length : Int) = lenB r := by
  unfold encL lenB
  repeat' split
  all_goals rfl
def decC (l : List UInt8) (n : Int) : Bool := (decide (n < 2) || contB (byt l 1)) && (decide (n < 3) || contB (byt l 2)) && (decide (n < 4) || contB (byt l 3))
def decR (l : List UInt8) (n : Int) : Int :=
  if n < 2 then byt l 0 else if n < 3 then 64 * (byt l 0 - 192) + (byt l 1 - 128)
  else if n < 4 then 64 * (64 * (byt l 0 - 224) + (byt l 1 - 128)) + (byt l 2 - 128)
  else 64 * (64 * (64 * (byt l 0 - 240) + (byt l 1 - 128)) + (byt l 2 - 128)) + (byt l 3 - 128)
def decL (l : List UInt8) : Int × Int × Int :=
  if l = [] then (0, 0, 3) else if annB (byt l 0) = 0 ∨ (l.length : Int) < annB (byt l 0) then (0, 0, 11)
  else if decC l (annB (byt l 0)) && (lenB (decR l (annB (byt l 0))) == annB (byt l 0)) then (decR l (annB (byt l 0)), annB (byt l 0), 0) else (0, 0, 11)
theorem ann_of {b n : Int} (h : annB b = n) : (n = 0) ∨ (n = 1 ∧ b < 128) ∨ (n = 2 ∧ 194 ≤ b ∧ b ≤ 223) ∨ (n = 3 ∧ 224 ≤ b ∧ b ≤ 239) ∨ (n = 4 ∧ 240 ≤ b ∧ b ≤ 244) := by
  unfold annB at h
  repeat' split at h
  all_goals omega
theorem dec_no {l : List UInt8} (h0 : 0 < l.length) (h : annB (byt l 0) = 0 ∨ (l.length : Int) < annB (byt l 0)) : decL l = (0, 0, 11) := by
  unfold decL
  rw [if_neg (by rintro rfl; simp at h0), if_pos h]
theorem dec_yes {l : List UInt8} {n r : Int} (hn : annB (byt l 0) = n) (h1 : 1 ≤ n) (h : n ≤ l.length) (hr : decR l n = r) (hc : decC l n = true) (hl : lenB r = n) : decL l = (r, n, 0) := by
  unfold decL
  rw [hn, if_neg (by rintro rfl; simp at h; omega), if_neg (by omega), hr, hc, hl]
  simp
theorem dec_cut {l : List UInt8} {n : Int} (hn : annB (byt l 0) = n) (h1 : 1 ≤ n) (h : n ≤ l.length) (hc : decC l n = true → lenB (decR l n) ≠ n) : decL l = (0, 0, 11) := by
  unfold decL
  rw [hn, if_neg (by rintro rfl; simp at h; omega), if_neg (by omega), if_neg]
  simpa using hc
theorem cont_bd {b : Int} (h : contB b = true) : 128 ≤ b ∧ b ≤ 191 := by unfold contB at h; simpa using h
theorem dec_inv (l : List UInt8) : (∃ n r, decL l = (r, n, 0) ∧ 1 ≤ n ∧ n ≤ 4 ∧ n ≤ l.length ∧ annB (byt l 0) = n ∧ decC l n = true ∧ decR l n = r ∧ lenB r = n) ∨ (l = [] ∧ decL l = (0, 0, 3)) ∨ (l ≠ [] ∧ decL l = (0, 0, 11)) := by
  by_cases h0 : l = []
  · exact .inr (.inl ⟨h0, by simp [decL, h0]⟩)
  by_cases h1 : annB (byt l 0) = 0 ∨ (l.length : Int) < annB (byt l 0)
  · exact .inr (.inr ⟨h0, dec_no (List.length_pos_iff.2 h0) h1⟩)
  have ha := ann_of (b := byt l 0) rfl
  by_cases h2 : decC l (annB (byt l 0)) = true ∧ lenB (decR l (annB (byt l 0))) = annB (byt l 0)
  · exact .inl ⟨_, _, dec_yes rfl (by omega) (by omega) rfl h2.1 h2.2, by omega, by omega, by omega, rfl, h2.1, rfl, h2.2⟩
  · exact .inr (.inr ⟨h0, dec_cut rfl (by omega) (by omega) fun hc hl => h2 ⟨hc, hl⟩⟩)
theorem enc_take {l : List UInt8} {n : Int} (h1 : 1 ≤ n) (hn : n ≤ 4) (hlen : n ≤ l.length) (hc : decC l n = true) (hl : lenB (decR l n) = n)
    (hlo : (n = 1 ∧ byt l 0 < 192) ∨ (n = 2 ∧ 192 ≤ byt l 0 ∧ byt l 0 < 224) ∨ (n = 3 ∧ 224 ≤ byt l 0 ∧ byt l 0 < 240) ∨ (n = 4 ∧ 240 ≤ byt l 0)) : encL (decR l n) = l.take n.toNat := by
  have b0 := byt_lo l 0
  have hL := len_of hl
  have tk : ∀ (k : Nat), k ≤ l.length → l.take k = (List.range k).map fun i => toByte (byt l i) := by
    intro k hk
    apply List.ext_getElem
    · simp; omega
    · intro i hi1 hi2
      simp at hi1 hi2
      simp [toByte_byt l i (by omega)]
  rw [tk _ (by omega)]
  unfold decC at hc
  simp only [Bool.and_eq_true, Bool.or_eq_true, decide_eq_true_eq] at hc
  obtain ⟨⟨c1, c2⟩, c3⟩ := hc
  have hr : runeB (decR l n) = true := by
    rcases hL with h | h
    · omega
    · exact h.1
  unfold encL
  rw [if_neg (by simp [hr])]
  rcases hL with h | ⟨_, h0, h⟩
  · omega
  generalize hd : decR l n = r at *
  unfold decR at hd
  rcases hlo with ⟨rfl, h⟩ | ⟨rfl, h⟩ | ⟨rfl, h⟩ | ⟨rfl, h⟩
  · rw [if_pos (by omega)] at hd
    rw [if_pos (by omega), ← hd]
    rfl
  · have c1 := cont_bd (c1.resolve_left (by omega))
    simp only [show ¬ ((2 : Int) < 2) from by omega, if_false, show ((2 : Int) < 3) from by omega, if_true] at hd
    rw [if_neg (by omega), if_pos (by omega), show 192 + r / 64 = byt l 0 from by omega, show 128 + r % 64 = byt l 1 from by omega]
    rfl
  · have c1 := cont_bd (c1.resolve_left (by omega))
    have c2 := cont_bd (c2.resolve_left (by omega))
    simp only [show ¬ ((3 : Int) < 2) from by omega, if_false, show ¬ ((3 : Int) < 3) from by omega, show ((3 : Int) < 4) from by omega, if_true] at hd
    rw [if_neg (by omega), if_neg (by omega), if_pos (by omega), show 224 + r / 4096 = byt l 0 from by omega, show 128 + r / 64 % 64 = byt l 1 from by omega, show 128 + r % 64 = byt l 2 from by omega]
    rfl
  · have c1 := cont_bd (c1.resolve_left (by omega))
    have c2 := cont_bd (c2.resolve_left (by omega))
    have c3 := cont_bd (c3.resolve_left (by omega))
    simp only [show ¬ ((4 : Int) < 2) from by omega, if_false, show ¬ ((4 : Int) < 3) from by omega, show ¬ ((4 : Int) < 4) from by omega] at hd
    rw [if_neg (by omega), if_neg (by omega), if_neg (by omega), show 240 + r / 262144 = byt l 0 from by omega, show 128 + r / 4096 % 64 = byt l 1 from by omega, show 128 + r / 64 % 64 = byt l 2 from by omega, show 128 + r % 64 = byt l 3 from by omega]
    rfl
def refN (b : Int) : Int := if 240 ≤ b then 4 else if 224 ≤ b then 3 else if 192 ≤ b then 2 else 1
theorem refN_of {b n : Int} (h : refN b = n) : (n = 1 ∧ b < 192) ∨ (n = 2 ∧ 192 ≤ b ∧ b < 224) ∨ (n = 3 ∧ 224 ≤ b ∧ b < 240) ∨ (n = 4 ∧ 240 ≤ b) := by
  unfold refN at h
  repeat' split at h
  all_goals omega
theorem ann_refN (b : Int) : annB b = 0 ∨ annB b = refN b := by
  unfold annB refN
  repeat' split
  all_goals omega
theorem ref_cut {l : List UInt8} {n : Int} (h0 : 0 < l.length) (hn : refN (byt l 0) = n) (h : (l.length : Int) < n ∨ decC l n = false) : decL l = (0, 0, 11) := by
  rcases ann_refN (byt l 0) with ha | ha
  · exact dec_no h0 (.inl ha)
  · rw [hn] at ha
    rcases h with h | h
    · exact dec_no h0 (.inr (by omega))
    · have := refN_of hn
      by_cases hl : (l.length : Int) < n
      · exact dec_no h0 (.inr (by omega))
      · exact dec_cut ha (by omega) (by omega) fun hc => by rw [h] at hc; cases hc
theorem ref_end {l : List UInt8} {n : Int} (hn : refN (byt l 0) = n) (hlen : n ≤ l.length) (hc : decC l n = true) : decL l = if encE (decR l n) = 0 ∧ encL (decR l n) = l.take n.toNat then (decR l n, n, 0) else (0, 0, 11) := by
  have hlo := refN_of hn
  have b0 := byt_lo l 0
  have b1 := byt_hi l 0
  by_cases hl : lenB (decR l n) = n
  · have he := enc_take (by omega) (by omega) hlen hc hl hlo
    have hr : runeB (decR l n) = true := by
      rcases len_of hl with h | h
      · omega
      · exact h.1
    rw [if_pos ⟨by simp [encE, hr], he⟩]
    have ha : annB (byt l 0) = n := by
      rcases ann_refN (byt l 0) with ha | ha
      · exfalso
        have hL := len_of hl
        generalize hd : decR l n = r at *
        unfold decR at hd
        unfold decC at hc
        simp only [Bool.and_eq_true, Bool.or_eq_true, decide_eq_true_eq] at hc
        obtain ⟨⟨c1, c2⟩, c3⟩ := hc
        have hA : (byt l 0 < 194 ∧ 128 ≤ byt l 0) ∨ 244 < byt l 0 := by
          unfold annB at ha
          repeat' split at ha
          all_goals omega
        rcases hlo with ⟨rfl, h⟩ | ⟨rfl, h⟩ | ⟨rfl, h⟩ | ⟨rfl, h⟩
        · rw [if_pos (by omega)] at hd; omega
        · have c1 := cont_bd (c1.resolve_left (by omega))
          simp only [show ¬ ((2 : Int) < 2) from by omega, if_false, show ((2 : Int) < 3) from by omega, if_true] at hd
          omega
        · omega
        · have c1 := cont_bd (c1.resolve_left (by omega))
          have c2 := cont_bd (c2.resolve_left (by omega))
          have c3 := cont_bd (c3.resolve_left (by omega))
          simp only [show ¬ ((4 : Int) < 2) from by omega, if_false, show ¬ ((4 : Int) < 3) from by omega, show ¬ ((4 : Int) < 4) from by omega] at hd
          omega
      · omega
    exact dec_yes ha (by omega) hlen rfl hc hl
  · rw [if_neg]
    · rcases ann_refN (byt l 0) with ha | ha
      · exact dec_no (by omega) (.inl ha)
      · exact dec_cut (ha.trans hn) (by omega) hlen fun _ => hl
    · rintro ⟨_, he⟩
      apply hl
      have := encL_len (decR l n)
      rw [he] at this
      simp at this
      omega
def validF : Nat → List UInt8 → Bool
  | _, [] => true
  | 0, _ => false
  | f + 1, l => if (decL l).2.2 = 0 then validF f (l.drop (decL l).2.1.toNat) else false
def validL (l : List UInt8) : Bool := validF l.length l
theorem validF_nil (f : Nat) : validF f [] = true := by cases f <;> rfl
theorem dec_pos {l : List UInt8} (h : (decL l).2.2 = 0) : 1 ≤ (decL l).2.1 ∧ (decL l).2.1 ≤ l.length := by
  rcases dec_inv l with ⟨n, r, he, h1, h2, h3, _⟩ | ⟨_, he⟩ | ⟨_, he⟩
  · rw [he]; exact ⟨h1, h3⟩
  · rw [he] at h; cases h
  · rw [he] at h; cases h
theorem validF_ge : ∀ (f : Nat) (l : List UInt8), l.length ≤ f → validF f l = validF l.length l := by
  intro f
  induction f using Nat.strongRecOn with
  | ind f ih =>
    intro l hl
    cases l with
    | nil => rw [validF_nil, validF_nil]
    | cons a l =>
      cases f with
      | zero => simp at hl
      | succ f =>
        simp only [List.length_cons, validF]
        split
        · next h =>
          have hp := dec_pos h
          have hlen : ((a :: l).drop (decL (a :: l)).2.1.toNat).length ≤ l.length := by rw [List.length_drop]; simp only [List.length_cons] at hp ⊢; omega
          simp only [List.length_cons] at hl
          rw [ih f (by omega) _ (by omega)]
          by_cases hfl : l.length = f
          · rw [hfl, ih f (by omega) _ (by omega)]
          · rw [ih l.length (by omega) _ hlen]
        · rfl
theorem validL_step {l : List UInt8} (h : l ≠ []) : validL l = if (decL l).2.2 = 0 then validL (l.drop (decL l).2.1.toNat) else false := by
  cases l with
  | nil => exact absurd rfl h
  | cons a l =>
    unfold validL
    simp only [List.length_cons, validF]
    split
    · next h =>
      have hp := dec_pos h
      rw [validF_ge l.length _ (by rw [List.length_drop]; simp only [List.length_cons] at hp ⊢; omega)]
    · rfl
end Go.Proofs.YtlealeecmmpckaaGreat
namespace Go.Proofs.YtlealeecmmpckaaGreat
set_option linter.unusedVariables false
set_option linter.unusedSimpArgs false
set_option maxRecDepth 100000
set_option maxHeartbeats 8000000
open Go.RowKit
theorem ret_bool {a b : Bool} (h : a = b) : Ending.returned (.bool a) = .returned (.bool b) := by rw [h]
theorem ret_int {k : IntKind} {a b : Int} (h : a = b) : Ending.returned (.int k a) = .returned (.int k b) := by rw [h]
theorem continues_any (b : Int) (w : World) : Calls Tryz.prog 69 #[.int .u8 b] w fun e w' => e = .returned (.bool (contB b)) ∧ w = w' := by
  go_enter Tryz.func69, Tryz.ntmps69
  go_wp2
  all_goals (go_ret; exact ⟨ret_bool (by simp [contB]; omega), rfl⟩)
theorem refCont_any (b : Int) (w : World) : Calls Tryz.prog 129 #[.int .u8 b] w fun e w' => e = .returned (.bool (contB b)) ∧ w = w' := by
  go_enter Tryz.func129, Tryz.ntmps129
  go_wp2
  all_goals (go_ret; exact ⟨ret_bool (by rw [Bool.eq_iff_iff]; simp [contB]; omega), rfl⟩)
theorem announced_any (b : Int) (w : World) : Calls Tryz.prog 112 #[.int .u8 b] w fun e w' => e = .returned (.int .i64 (annB b)) ∧ w = w' := by
  go_enter Tryz.func112, Tryz.ntmps112
  go_wp2
  all_goals (go_ret; exact ⟨ret_int (by unfold annB; repeat (first | omega | split)), rfl⟩)
theorem length_any (b : Int) (w : World) : Calls Tryz.prog 113 #[.int .i64 b] w fun e w' => e = .returned (.int .i64 (lenB b)) ∧ w = w' := by
  go_enter Tryz.func113, Tryz.ntmps113
  go_wp2
  all_goals (go_ret; exact ⟨ret_int (by unfold lenB runeB; simp only [decide_eq_false_iff_not]; repeat (first | omega | split)), rfl⟩)
theorem refRune_any (b : Int) (w : World) : Calls Tryz.prog 175 #[.int .i64 b] w fun e w' => e = .returned (.bool (runeB b)) ∧ w = w' := by
  go_enter Tryz.func175, Tryz.ntmps175
  go_wp2
  all_goals (go_ret; exact ⟨ret_bool (by unfold runeB; rw [Bool.eq_iff_iff]; simp; omega), rfl⟩)
theorem boundary_any (s : ByteArray) (n : Int) (w : World) : Calls Tryz.prog 37 #[.string s, .int .i64 n] w fun e w' => e = .returned (.bool (bndB s.data.toList n)) ∧ w = w' := by
  have hl : s.data.toList.length = s.size := by simp
  have hb : ∀ h : n.toNat < s.size, ((s[n.toNat]'h).toNat : Int) = byt s.data.toList n.toNat := fun h => byt_mk s _ _
  have HB := Lib.hid hb; clear hb
  have HL := Lib.hid hl; clear hl
  go_enter Tryz.func37, Tryz.ntmps37
  go_wp2_with (go_at_call 69; refine (continues_any _ _).mono ?_; rintro e w' ⟨rfl, rfl⟩)
  all_goals (go_ret; refine ⟨ret_bool (bnd_close ?_), rfl⟩; rw [HL.out]; first | (rw [← HB.out (by omega)]; simp [*]; done) | (simp [*]; done) | (simp [*]; omega))
theorem refBoundary_any (s : ByteArray) (n : Int) (w : World) : Calls Tryz.prog 97 #[.string s, .int .i64 n] w fun e w' => e = .returned (.bool (bndB s.data.toList n)) ∧ w = w' := by
  have hl : s.data.toList.length = s.size := by simp
  have hb : ∀ h : n.toNat < s.size, ((s[n.toNat]'h).toNat : Int) = byt s.data.toList n.toNat := fun h => byt_mk s _ _
  have HB := Lib.hid hb; clear hb
  have HL := Lib.hid hl; clear hl
  go_enter Tryz.func97, Tryz.ntmps97
  go_wp2_with (go_at_call 129; refine (refCont_any _ _).mono ?_; rintro e w' ⟨rfl, rfl⟩)
  all_goals (go_ret; refine ⟨ret_bool (bnd_close ?_), rfl⟩; rw [HL.out]; first | (rw [← HB.out (by omega)]; simp [*]; done) | (simp [*]; done) | (simp [*]; omega))
end Go.Proofs.YtlealeecmmpckaaGreat
namespace Go.Proofs.YtlealeecmmpckaaGreat
set_option linter.unusedVariables false
set_option linter.unusedSimpArgs false
set_option maxRecDepth 100000
set_option maxHeartbeats 8000000
open Go.RowKit
theorem conv_list (W : World) (ns : List Int) (c : Nat) : (convert 98 9 (.slice (some ⟨W.heap.size, 0, none⟩) ns.length c)).run Tryz.prog (W.alloc (.cells (ns.map (Value.int .u8)).toArray 5)) = .ok (.string ⟨(ns.map toByte).toArray⟩) (W.alloc (.cells (ns.map (Value.int .u8)).toArray 5)) := by
  rw [run_convert_bytes_string _ _ _ 5 _ _ _ Tryz.underlying98 Tryz.underlying5 Tryz.underlying9]
  have hl := run_loadCells_list (P := Tryz.prog) (W.alloc (.cells (ns.map (Value.int .u8)).toArray 5)) ⟨W.heap.size, 0, none⟩ (ns.map (Value.int .u8)) (fun j v hj => by
    have e : (⟨W.heap.size, 0, none⟩ : Addr).add j = ⟨W.heap.size, j, none⟩ := by unfold Addr.add; split <;> simp_all
    rw [e, World.cell?_alloc_new]; simpa using hj)
  simp only [List.length_map] at hl
  rw [run_bytesToString _ _ ns.length c _ hl]
  have key : ∀ (ns : List Int) (r : ByteArray), ns.foldl (fun r n => r.push (UInt8.ofNat n.toNat)) r = ⟨r.data ++ (ns.map toByte).toArray⟩ := by
    intro ns
    induction ns with
    | nil => intro r; simp
    | cons n ns ih =>
      intro r
      simp only [List.foldl_cons, ih, List.map_cons]
      simp [ByteArray.push, toByte]
  rw [key]
  show Result.ok (Value.string ⟨#[] ++ _⟩) _ = _
  rw [Array.empty_append]
theorem conv1 (W : World) (a : Int) : (convert 98 9 (.slice (some ⟨W.heap.size, 0, none⟩) 1 1)).run Tryz.prog (W.alloc (.cells #[.int .u8 a] 5)) = .ok (.string ⟨#[toByte a]⟩) (W.alloc (.cells #[.int .u8 a] 5)) := conv_list W [a] 1
theorem conv2 (W : World) (a b : Int) : (convert 98 9 (.slice (some ⟨W.heap.size, 0, none⟩) 2 2)).run Tryz.prog (W.alloc (.cells #[.int .u8 a, .int .u8 b] 5)) = .ok (.string ⟨#[toByte a, toByte b]⟩) (W.alloc (.cells #[.int .u8 a, .int .u8 b] 5)) := conv_list W [a, b] 2
theorem conv3 (W : World) (a b c : Int) : (convert 98 9 (.slice (some ⟨W.heap.size, 0, none⟩) 3 3)).run Tryz.prog (W.alloc (.cells #[.int .u8 a, .int .u8 b, .int .u8 c] 5)) = .ok (.string ⟨#[toByte a, toByte b, toByte c]⟩) (W.alloc (.cells #[.int .u8 a, .int .u8 b, .int .u8 c] 5)) := conv_list W [a, b, c] 3
theorem conv4 (W : World) (a b c d : Int) : (convert 98 9 (.slice (some ⟨W.heap.size, 0, none⟩) 4 4)).run Tryz.prog (W.alloc (.cells #[.int .u8 a, .int .u8 b, .int .u8 c, .int .u8 d] 5)) = .ok (.string ⟨#[toByte a, toByte b, toByte c, toByte d]⟩) (W.alloc (.cells #[.int .u8 a, .int .u8 b, .int .u8 c, .int .u8 d] 5)) := conv_list W [a, b, c, d] 4
theorem bits_and (a b : Nat) (ha : a < 9223372036854775808) (hb : b < 9223372036854775808) : bits .and .i64 (a : Int) (b : Int) = ((a &&& b : Nat) : Int) := by
  have hx : a &&& b < 2 ^ 63 := Nat.and_lt_two_pow _ (by omega)
  show IntKind.i64.wrap ((BitVec.ofInt 64 (a : Int) &&& BitVec.ofInt 64 (b : Int)).toNat : Int) = _
  rw [BitVec.toNat_and, BitVec.ofInt_natCast, BitVec.toNat_ofNat, BitVec.ofInt_natCast, BitVec.toNat_ofNat, Nat.mod_eq_of_lt (by omega), Nat.mod_eq_of_lt (by omega), IntKind.wrap_i64]
  omega
theorem bits_or (a b : Nat) (ha : a < 9223372036854775808) (hb : b < 9223372036854775808) : bits .or .i64 (a : Int) (b : Int) = ((a ||| b : Nat) : Int) := by
  have hx : a ||| b < 2 ^ 63 := Nat.or_lt_two_pow (by omega) (by omega)
  show IntKind.i64.wrap ((BitVec.ofInt 64 (a : Int) ||| BitVec.ofInt 64 (b : Int)).toNat : Int) = _
  rw [BitVec.toNat_or, BitVec.ofInt_natCast, BitVec.toNat_ofNat, BitVec.ofInt_natCast, BitVec.toNat_ofNat, Nat.mod_eq_of_lt (by omega), Nat.mod_eq_of_lt (by omega), IntKind.wrap_i64]
  omega
theorem bits_low (k : Nat) (x : Int) (hk : k ≤ 62) (h0 : 0 ≤ x) (h1 : x < 9223372036854775808) : bits .and .i64 x ((2 ^ k - 1 : Nat) : Int) = x % ((2 ^ k : Nat) : Int) := by
  obtain ⟨n, rfl⟩ := Int.eq_ofNat_of_zero_le h0
  have h2 : 2 ^ k ≤ 2 ^ 62 := Nat.pow_le_pow_right (by omega) hk
  rw [bits_and n _ (by omega) (by omega), Nat.and_two_pow_sub_one_eq_mod]
  simp
theorem bits_join (k a : Nat) (y : Int) (hk : k ≤ 62) (ha : 2 ^ k * a < 9223372036854775808) (h0 : 0 ≤ y) (h1 : y < ((2 ^ k : Nat) : Int)) : bits .or .i64 ((2 ^ k * a : Nat) : Int) y = ((2 ^ k * a : Nat) : Int) + y := by
  obtain ⟨n, rfl⟩ := Int.eq_ofNat_of_zero_le h0
  have h2 : 2 ^ k ≤ 2 ^ 62 := Nat.pow_le_pow_right (by omega) hk
  rw [bits_or _ n ha (by omega), ← Nat.two_pow_add_eq_or_of_lt (by omega)]
  simp
theorem ret_enc {r : Int} {l : List UInt8} {a : Int} (h1 : l = encL r) (h2 : a = encE r) : Ending.returned (.tuple #[.string ⟨l.toArray⟩, .int .i64 a]) = .returned (.tuple #[.string ⟨(encL r).toArray⟩, .int .i64 (encE r)]) := by rw [h1, h2]
theorem below1 (w : World) (o : Obj) : Below w.heap.size w (w.alloc o) := (Below.refl _ _).alloc (Nat.le_refl _) _
theorem refEncode_any (r : Int) (w : World) : Calls Tryz.prog 162 #[.int .i64 r] w fun e w' => e = .returned (.tuple #[.string ⟨(encL r).toArray⟩, .int .i64 (encE r)]) ∧ Below w.heap.size w w' := by
  have k1 := conv1
  have k2 := conv2
  have k3 := conv3
  have k4 := conv4
  by_cases h0 : runeB r = true
  · have hr := runeB_bd h0
    obtain ⟨hr1, hr2⟩ := hr
    go_enter Tryz.func162, Tryz.ntmps162
    go_wp2_with (go_at_call 175; refine (refRune_any _ _).mono ?_; rintro e w' ⟨rfl, rfl⟩)
    all_goals (go_returns; refine ⟨ret_enc ?_ ?_, below1 _ _⟩ <;> simp only [encL, encE, h0])
    all_goals first | rfl | (rw [if_neg (by simp), if_pos (by omega)]) | (rw [if_neg (by simp), if_neg (by omega), if_pos (by omega)]) | (rw [if_neg (by simp), if_neg (by omega), if_neg (by omega), if_pos (by omega)]) | (rw [if_neg (by simp), if_neg (by omega), if_neg (by omega), if_neg (by omega)]) | (rw [if_neg (by simp)])
  · have h0 : runeB r = false := by simpa using h0
    go_enter Tryz.func162, Tryz.ntmps162
    go_wp2_with (go_at_call 175; refine (refRune_any _ _).mono ?_; rintro e w' ⟨rfl, rfl⟩)
    go_returns
    exact ⟨by simp [encL, encE, h0], Below.refl _ _⟩
theorem ret_dec {l : List UInt8} {a b c : Int} (h : decL l = (a, b, c)) : Ending.returned (.tuple #[.int .i64 a, .int .i64 b, .int .i64 c]) = .returned (.tuple #[.int .i64 (decL l).1, .int .i64 (decL l).2.1, .int .i64 (decL l).2.2]) := by rw [h]
theorem or64 (x y : Int) (h0 : 0 ≤ x) (h1 : x < 1048576) (h2 : 0 ≤ y) (h3 : y < 64) : bits .or .i64 (x * 64) y = x * 64 + y := by
  obtain ⟨n, rfl⟩ := Int.eq_ofNat_of_zero_le h0
  have h := bits_join 6 n y (by omega) (by omega) h2 h3
  have e : ((2 ^ 6 * n : Nat) : Int) = (n : Int) * 64 := by omega
  rw [e] at h
  exact h
theorem isEmpty_of_pos {s : ByteArray} (h : 0 < s.size) : s.toList.isEmpty = false := by
  rw [← decide_eq_emptyBytes]
  simp
  rintro rfl
  simp at h
theorem decode_any (s : ByteArray) (w : World) : Calls Tryz.prog 68 #[.string s] w fun e w' => e = .returned (.tuple #[.int .i64 (decL s.data.toList).1, .int .i64 (decL s.data.toList).2.1, .int .i64 (decL s.data.toList).2.2]) ∧ w = w' := by
  by_cases hs0 : s.size = 0
  · have : s = ByteArray.empty := by apply ByteArray.ext; apply Array.toList_inj.1; apply List.eq_nil_of_length_eq_zero; simpa using hs0
    subst this
    clear hs0
    go_enter Tryz.func68, Tryz.ntmps68
    go_wp2
    go_returns
    exact ⟨ret_dec rfl, rfl⟩
  have hs : 0 < s.size := by omega
  clear hs0
  have hne := isEmpty_of_pos hs
  have hb0 := byt_mk s 0 hs
  have l0 := byt_lo s.data.toList 0
  have u0 := byt_hi s.data.toList 0
  have hl : s.data.toList.length = s.size := by simp
  have HL := Lib.hid hl; clear hl
  have hA := ann_of (b := byt s.data.toList 0) rfl
  have e1 : bits .and .i64 (byt s.data.toList 0) 31 = byt s.data.toList 0 % 32 := bits_low 5 _ (by omega) (by omega) (by omega)
  have e2 : bits .and .i64 (byt s.data.toList 0) 15 = byt s.data.toList 0 % 16 := bits_low 4 _ (by omega) (by omega) (by omega)
  have e3 : bits .and .i64 (byt s.data.toList 0) 7 = byt s.data.toList 0 % 8 := bits_low 3 _ (by omega) (by omega) (by omega)
  generalize hn : annB (byt s.data.toList 0) = n at hA
  have Hn := Lib.hid hn; clear hn
  by_cases hlong : (s.size : Int) < n
  · have hn0 : (n == 0) = false := by simp; omega
    have Hl := Lib.hid hlong
    clear hA
    go_enter Tryz.func68, Tryz.ntmps68
    go_wp2_with (first | (go_at_call 112; refine (announced_any _ _).mono ?_; rw [Hn.out]; rintro e w' ⟨rfl, rfl⟩))
    go_returns
    refine ⟨ret_dec (dec_no (by rw [HL.out]; exact hs) ?_), rfl⟩
    rw [Hn.out, HL.out]
    exact .inr Hl.out
  have hfit : n ≤ s.size := by omega
  clear hlong
  rcases hA with h | ⟨h, hb⟩ | ⟨h, hb⟩ | ⟨h, hb⟩ | ⟨h, hb⟩
  · subst h
    go_enter Tryz.func68, Tryz.ntmps68
    go_wp2_with (first | (go_at_call 112; refine (announced_any _ _).mono ?_; rw [Hn.out]; rintro e w' ⟨rfl, rfl⟩))
    go_returns
    refine ⟨ret_dec (dec_no (by rw [HL.out]; exact hs) (.inl Hn.out)), rfl⟩
  · subst h
    have hL : lenB (byt s.data.toList 0) = 1 := by
      unfold lenB runeB
      rw [if_neg (by simp; omega), if_pos hb]
    have HLB := Lib.hid hL; clear hL hfit e1 e2 e3
    have hd : decide ((s.size : Int) < 1) = false := by simp; omega
    go_enter Tryz.func68, Tryz.ntmps68
    go_wp2_with (first | (go_at_call 112; refine (announced_any _ _).mono ?_; rw [Hn.out]; rintro e w' ⟨rfl, rfl⟩))
    refine wp_loop_rounds 1 ?_
    rw [rounds_succ]
    go_wp2_with (go_at_call 113; refine (length_any _ _).mono ?_; rw [HLB.out]; rintro e w' ⟨rfl, rfl⟩)
    go_returns
    exact ⟨ret_dec (dec_yes Hn.out (by omega) (by rw [HL.out]; omega) (by simp [decR]) (by simp [decC]) HLB.out), rfl⟩
  · subst h
    obtain ⟨hlo, hhi⟩ := hb
    have hb1 := byt_mk s 1 (by omega)
    have l1 := byt_lo s.data.toList 1
    have u1 := byt_hi s.data.toList 1
    have f1 := or64 (byt s.data.toList 0 % 32) (byt s.data.toList 1 % 64) (by omega) (by omega) (by omega) (by omega)
    go_enter Tryz.func68, Tryz.ntmps68
    go_wp2_with (first | (go_at_call 112; refine (announced_any _ _).mono ?_; rw [Hn.out]; rintro e w' ⟨rfl, rfl⟩))
    refine wp_loop_rounds 4 ?_
    repeat any_goals (rw [rounds_succ]; go_wp2_with (first | (go_at_call 69; refine (continues_any _ _).mono ?_; rintro e w' ⟨rfl, rfl⟩) | (go_at_call 113; refine (length_any _ _).mono ?_; rintro e w' ⟨rfl, rfl⟩)))
    · go_returns
      refine ⟨ret_dec (dec_cut Hn.out (by omega) (by rw [HL.out]; omega) fun h => ?_), rfl⟩
      exact absurd h (by unfold decC; simp_all)
    · go_returns
      refine ⟨ret_dec (dec_cut Hn.out (by omega) (by rw [HL.out]; omega) fun _ => ?_), rfl⟩
      have c1 := cont_bd (b := byt s.data.toList 1) (by simp_all)
      have ex : byt s.data.toList 0 % 32 * 64 + byt s.data.toList 1 % 64 = decR s.data.toList 2 := by
        unfold decR; simp; omega
      rw [← ex]
      simp_all
    · go_returns
      have c1 := cont_bd (b := byt s.data.toList 1) (by simp_all)
      have ex : byt s.data.toList 0 % 32 * 64 + byt s.data.toList 1 % 64 = decR s.data.toList 2 := by
        unfold decR; simp; omega
      exact ⟨ret_dec (dec_yes Hn.out (by omega) (by rw [HL.out]; omega) ex.symm (by unfold decC; simp_all) (by simp_all)), rfl⟩
  · subst h
    obtain ⟨hlo, hhi⟩ := hb
    have hb1 := byt_mk s 1 (by omega)
    have l1 := byt_lo s.data.toList 1
    have u1 := byt_hi s.data.toList 1
    have hb2 := byt_mk s 2 (by omega)
    have l2 := byt_lo s.data.toList 2
    have u2 := byt_hi s.data.toList 2
    have f1 := or64 (byt s.data.toList 0 % 16) (byt s.data.toList 1 % 64) (by omega) (by omega) (by omega) (by omega)
    have f2 := or64 (byt s.data.toList 0 % 16 * 64 + byt s.data.toList 1 % 64) (byt s.data.toList 2 % 64) (by omega) (by omega) (by omega) (by omega)
    go_enter Tryz.func68, Tryz.ntmps68
    go_wp2_with (first | (go_at_call 112; refine (announced_any _ _).mono ?_; rw [Hn.out]; rintro e w' ⟨rfl, rfl⟩))
    refine wp_loop_rounds 4 ?_
    repeat any_goals (rw [rounds_succ]; go_wp2_with (first | (go_at_call 69; refine (continues_any _ _).mono ?_; rintro e w' ⟨rfl, rfl⟩) | (go_at_call 113; refine (length_any _ _).mono ?_; rintro e w' ⟨rfl, rfl⟩)))
    · go_returns
      refine ⟨ret_dec (dec_cut Hn.out (by omega) (by rw [HL.out]; omega) fun h => ?_), rfl⟩
      exact absurd h (by unfold decC; simp_all)
    · go_returns
      refine ⟨ret_dec (dec_cut Hn.out (by omega) (by rw [HL.out]; omega) fun h => ?_), rfl⟩
      exact absurd h (by unfold decC; simp_all)
    · go_returns
      refine ⟨ret_dec (dec_cut Hn.out (by omega) (by rw [HL.out]; omega) fun _ => ?_), rfl⟩
      have c1 := cont_bd (b := byt s.data.toList 1) (by simp_all)
      have c2 := cont_bd (b := byt s.data.toList 2) (by simp_all)
      have ex : (byt s.data.toList 0 % 16 * 64 + byt s.data.toList 1 % 64) * 64 + byt s.data.toList 2 % 64 = decR s.data.toList 3 := by
        unfold decR; simp; omega
      rw [← ex]
      simp_all
    · go_returns
      have c1 := cont_bd (b := byt s.data.toList 1) (by simp_all)
      have c2 := cont_bd (b := byt s.data.toList 2) (by simp_all)
      have ex : (byt s.data.toList 0 % 16 * 64 + byt s.data.toList 1 % 64) * 64 + byt s.data.toList 2 % 64 = decR s.data.toList 3 := by
        unfold decR; simp; omega
      exact ⟨ret_dec (dec_yes Hn.out (by omega) (by rw [HL.out]; omega) ex.symm (by unfold decC; simp_all) (by simp_all)), rfl⟩
  · subst h
    obtain ⟨hlo, hhi⟩ := hb
    have hb1 := byt_mk s 1 (by omega)
    have l1 := byt_lo s.data.toList 1
    have u1 := byt_hi s.data.toList 1
    have hb2 := byt_mk s 2 (by omega)
    have l2 := byt_lo s.data.toList 2
    have u2 := byt_hi s.data.toList 2
    have hb3 := byt_mk s 3 (by omega)
    have l3 := byt_lo s.data.toList 3
    have u3 := byt_hi s.data.toList 3
    have f1 := or64 (byt s.data.toList 0 % 8) (byt s.data.toList 1 % 64) (by omega) (by omega) (by omega) (by omega)
    have f2 := or64 (byt s.data.toList 0 % 8 * 64 + byt s.data.toList 1 % 64) (byt s.data.toList 2 % 64) (by omega) (by omega) (by omega) (by omega)
    have f3 := or64 ((byt s.data.toList 0 % 8 * 64 + byt s.data.toList 1 % 64) * 64 + byt s.data.toList 2 % 64) (byt s.data.toList 3 % 64) (by omega) (by omega) (by omega) (by omega)
    go_enter Tryz.func68, Tryz.ntmps68
    go_wp2_with (first | (go_at_call 112; refine (announced_any _ _).mono ?_; rw [Hn.out]; rintro e w' ⟨rfl, rfl⟩))
    refine wp_loop_rounds 4 ?_
    repeat any_goals (rw [rounds_succ]; go_wp2_with (first | (go_at_call 69; refine (continues_any _ _).mono ?_; rintro e w' ⟨rfl, rfl⟩) | (go_at_call 113; refine (length_any _ _).mono ?_; rintro e w' ⟨rfl, rfl⟩)))
    · go_returns
      refine ⟨ret_dec (dec_cut Hn.out (by omega) (by rw [HL.out]; omega) fun h => ?_), rfl⟩
      exact absurd h (by unfold decC; simp_all)
    · go_returns
      refine ⟨ret_dec (dec_cut Hn.out (by omega) (by rw [HL.out]; omega) fun h => ?_), rfl⟩
      exact absurd h (by unfold decC; simp_all)
    · go_returns
      refine ⟨ret_dec (dec_cut Hn.out (by omega) (by rw [HL.out]; omega) fun h => ?_), rfl⟩
      exact absurd h (by unfold decC; simp_all)
    · go_returns
      refine ⟨ret_dec (dec_cut Hn.out (by omega) (by rw [HL.out]; omega) fun _ => ?_), rfl⟩
      have c1 := cont_bd (b := byt s.data.toList 1) (by simp_all)
      have c2 := cont_bd (b := byt s.data.toList 2) (by simp_all)
      have c3 := cont_bd (b := byt s.data.toList 3) (by simp_all)
      have ex : ((byt s.data.toList 0 % 8 * 64 + byt s.data.toList 1 % 64) * 64 + byt s.data.toList 2 % 64) * 64 + byt s.data.toList 3 % 64 = decR s.data.toList 4 := by
        unfold decR; simp; omega
      rw [← ex]
      simp_all
    · go_returns
      have c1 := cont_bd (b := byt s.data.toList 1) (by simp_all)
      have c2 := cont_bd (b := byt s.data.toList 2) (by simp_all)
      have c3 := cont_bd (b := byt s.data.toList 3) (by simp_all)
      have ex : ((byt s.data.toList 0 % 8 * 64 + byt s.data.toList 1 % 64) * 64 + byt s.data.toList 2 % 64) * 64 + byt s.data.toList 3 % 64 = decR s.data.toList 4 := by
        unfold decR; simp; omega
      exact ⟨ret_dec (dec_yes Hn.out (by omega) (by rw [HL.out]; omega) ex.symm (by unfold decC; simp_all) (by simp_all)), rfl⟩
end Go.Proofs.YtlealeecmmpckaaGreat
namespace Go.Proofs.YtlealeecmmpckaaGreat
set_option linter.unusedVariables false
set_option linter.unusedSimpArgs false
set_option maxRecDepth 100000
set_option maxHeartbeats 8000000
open Go.RowKit
theorem size_pos_of_ne {s : ByteArray} (h : s.toList.isEmpty = false) : 0 < s.size := by
  rw [← decide_eq_emptyBytes] at h
  simp at h
  rcases Nat.eq_zero_or_pos s.size with h0 | h0
  · exfalso; apply h; apply ByteArray.ext; apply Array.toList_inj.1; apply List.eq_nil_of_length_eq_zero; simpa using h0
  · exact h0
theorem size_zero_of {s : ByteArray} (h : s.toList.isEmpty = true) : s.data.toList = [] := by
  rw [Lib.toList_data] at h; simpa using h
theorem refDecode_any (s : ByteArray) (w : World) : Calls Tryz.prog 127 #[.string s] w fun e w' => e = .returned (.tuple #[.int .i64 (decL s.data.toList).1, .int .i64 (decL s.data.toList).2.1, .int .i64 (decL s.data.toList).2.2]) ∧ Below w.heap.size w w' := by
  by_cases hs0 : s.size = 0
  · have : s = ByteArray.empty := by apply ByteArray.ext; apply Array.toList_inj.1; apply List.eq_nil_of_length_eq_zero; simpa using hs0
    subst this
    clear hs0
    go_enter Tryz.func127, Tryz.ntmps127
    go_wp2
    go_returns
    exact ⟨ret_dec rfl, Below.refl _ _⟩
  have hs : 0 < s.size := by omega
  clear hs0
  have hne := isEmpty_of_pos hs
  have hb0 := byt_mk s 0 hs
  have hb1 := byt_mk s 1
  have hb2 := byt_mk s 2
  have hb3 := byt_mk s 3
  have l0 := byt_lo s.data.toList 0
  have u0 := byt_hi s.data.toList 0
  have l1 := byt_lo s.data.toList 1
  have u1 := byt_hi s.data.toList 1
  have l2 := byt_lo s.data.toList 2
  have u2 := byt_hi s.data.toList 2
  have l3 := byt_lo s.data.toList 3
  have u3 := byt_hi s.data.toList 3
  have hl : s.data.toList.length = s.size := by simp
  have HL := Lib.hid hl; clear hl
  have hA := refN_of (b := byt s.data.toList 0) rfl
  generalize hn : refN (byt s.data.toList 0) = n at hA
  have Hn := Lib.hid hn; clear hn
  rcases hA with ⟨h, hb⟩ | ⟨h, hb, hb'⟩ | ⟨h, hb, hb'⟩ | ⟨h, hb⟩
  · subst h
    go_enter Tryz.func127, Tryz.ntmps127
    go_wp2_with fail
    refine wp_loop_rounds 4 ?_
    repeat any_goals (rw [rounds_succ]; go_wp2_with (first | (go_at_call 129; refine (refCont_any _ _).mono ?_; rintro e w' ⟨rfl, rfl⟩) | (go_at_call 162; refine (refEncode_any _ _).mono ?_; rintro e w' ⟨rfl, hbe⟩)))
    all_goals
      have hc : decC s.data.toList 1 = true := by unfold decC; simp_all
      have he := ref_end Hn.out (by rw [HL.out]; omega) hc
      have hr : decR s.data.toList 1 = byt s.data.toList 0 := by unfold decR; simp; try omega
      rw [hr] at he
    · rw [if_neg (by rintro ⟨_, h2⟩; simp_all [Lib.extract_toList])] at he
      go_returns
      exact ⟨ret_dec he, hbe⟩
    · rw [if_pos ⟨by simp_all, by simp_all [Lib.extract_toList]⟩] at he
      go_returns
      exact ⟨ret_dec he, hbe⟩
    · rw [if_neg (by rintro ⟨h1, _⟩; simp_all)] at he
      go_returns
      exact ⟨ret_dec he, hbe⟩
  · subst h
    rcases Nat.lt_or_ge 1 s.size with g1 | g1
    case inr =>
      have d1 : decide ((s.size : Int) ≤ 1) = true := by simp; omega
      go_enter Tryz.func127, Tryz.ntmps127
      go_wp2_with fail
      refine wp_loop_rounds 4 ?_
      repeat any_goals (rw [rounds_succ]; go_wp2_with (first | (go_at_call 129; refine (refCont_any _ _).mono ?_; rintro e w' ⟨rfl, rfl⟩) | (go_at_call 162; refine (refEncode_any _ _).mono ?_; rintro e w' ⟨rfl, hbe⟩)))
      all_goals first
        | (go_returns; refine ⟨ret_dec (ref_cut (by rw [HL.out]; exact hs) Hn.out (.inl ?_)), Below.refl _ _⟩; rw [HL.out]; omega)
        | (go_returns; refine ⟨ret_dec (ref_cut (by rw [HL.out]; exact hs) Hn.out (.inr ?_)), Below.refl _ _⟩; unfold decC; simp_all; done)
    have d1 : decide ((s.size : Int) ≤ 1) = false := by simp; omega
    go_enter Tryz.func127, Tryz.ntmps127
    go_wp2_with fail
    refine wp_loop_rounds 4 ?_
    repeat any_goals (rw [rounds_succ]; go_wp2_with (first | (go_at_call 129; refine (refCont_any _ _).mono ?_; rintro e w' ⟨rfl, rfl⟩) | (go_at_call 162; refine (refEncode_any _ _).mono ?_; rintro e w' ⟨rfl, hbe⟩)))
    all_goals first
      | (go_returns; refine ⟨ret_dec (ref_cut (by rw [HL.out]; exact hs) Hn.out (.inl ?_)), Below.refl _ _⟩; rw [HL.out]; omega)
      | (go_returns; refine ⟨ret_dec (ref_cut (by rw [HL.out]; exact hs) Hn.out (.inr ?_)), Below.refl _ _⟩; unfold decC; simp_all; done)
      | skip
    all_goals
      have hc : decC s.data.toList 2 = true := by unfold decC; simp_all
      have he := ref_end Hn.out (by rw [HL.out]; omega) hc
      have hr : decR s.data.toList 2 = 64 * (byt s.data.toList 0 - 192) + byt s.data.toList 1 - 128 := by unfold decR; simp; try omega
      rw [hr] at he
    · rw [if_neg (by rintro ⟨_, h2⟩; simp_all [Lib.extract_toList])] at he
      go_returns
      exact ⟨ret_dec he, hbe⟩
    · rw [if_pos ⟨by simp_all, by simp_all [Lib.extract_toList]⟩] at he
      go_returns
      exact ⟨ret_dec he, hbe⟩
    · rw [if_neg (by rintro ⟨h1, _⟩; simp_all)] at he
      go_returns
      exact ⟨ret_dec he, hbe⟩
  · subst h
    rcases Nat.lt_or_ge 1 s.size with g1 | g1
    case inr =>
      have d1 : decide ((s.size : Int) ≤ 1) = true := by simp; omega
      go_enter Tryz.func127, Tryz.ntmps127
      go_wp2_with fail
      refine wp_loop_rounds 4 ?_
      repeat any_goals (rw [rounds_succ]; go_wp2_with (first | (go_at_call 129; refine (refCont_any _ _).mono ?_; rintro e w' ⟨rfl, rfl⟩) | (go_at_call 162; refine (refEncode_any _ _).mono ?_; rintro e w' ⟨rfl, hbe⟩)))
      all_goals first
        | (go_returns; refine ⟨ret_dec (ref_cut (by rw [HL.out]; exact hs) Hn.out (.inl ?_)), Below.refl _ _⟩; rw [HL.out]; omega)
        | (go_returns; refine ⟨ret_dec (ref_cut (by rw [HL.out]; exact hs) Hn.out (.inr ?_)), Below.refl _ _⟩; unfold decC; simp_all; done)
    have d1 : decide ((s.size : Int) ≤ 1) = false := by simp; omega
    rcases Nat.lt_or_ge 2 s.size with g2 | g2
    case inr =>
      have d2 : decide ((s.size : Int) ≤ 2) = true := by simp; omega
      go_enter Tryz.func127, Tryz.ntmps127
      go_wp2_with fail
      refine wp_loop_rounds 4 ?_
      repeat any_goals (rw [rounds_succ]; go_wp2_with (first | (go_at_call 129; refine (refCont_any _ _).mono ?_; rintro e w' ⟨rfl, rfl⟩) | (go_at_call 162; refine (refEncode_any _ _).mono ?_; rintro e w' ⟨rfl, hbe⟩)))
      all_goals first
        | (go_returns; refine ⟨ret_dec (ref_cut (by rw [HL.out]; exact hs) Hn.out (.inl ?_)), Below.refl _ _⟩; rw [HL.out]; omega)
        | (go_returns; refine ⟨ret_dec (ref_cut (by rw [HL.out]; exact hs) Hn.out (.inr ?_)), Below.refl _ _⟩; unfold decC; simp_all; done)
    have d2 : decide ((s.size : Int) ≤ 2) = false := by simp; omega
    go_enter Tryz.func127, Tryz.ntmps127
    go_wp2_with fail
    refine wp_loop_rounds 4 ?_
    repeat any_goals (rw [rounds_succ]; go_wp2_with (first | (go_at_call 129; refine (refCont_any _ _).mono ?_; rintro e w' ⟨rfl, rfl⟩) | (go_at_call 162; refine (refEncode_any _ _).mono ?_; rintro e w' ⟨rfl, hbe⟩)))
    all_goals first
      | (go_returns; refine ⟨ret_dec (ref_cut (by rw [HL.out]; exact hs) Hn.out (.inl ?_)), Below.refl _ _⟩; rw [HL.out]; omega)
      | (go_returns; refine ⟨ret_dec (ref_cut (by rw [HL.out]; exact hs) Hn.out (.inr ?_)), Below.refl _ _⟩; unfold decC; simp_all; done)
      | skip
    all_goals
      have hc : decC s.data.toList 3 = true := by unfold decC; simp_all
      have he := ref_end Hn.out (by rw [HL.out]; omega) hc
      have hr : decR s.data.toList 3 = 64 * (64 * (byt s.data.toList 0 - 224) + byt s.data.toList 1 - 128) + byt s.data.toList 2 - 128 := by unfold decR; simp; try omega
      rw [hr] at he
    · rw [if_neg (by rintro ⟨_, h2⟩; simp_all [Lib.extract_toList])] at he
      go_returns
      exact ⟨ret_dec he, hbe⟩
    · rw [if_pos ⟨by simp_all, by simp_all [Lib.extract_toList]⟩] at he
      go_returns
      exact ⟨ret_dec he, hbe⟩
    · rw [if_neg (by rintro ⟨h1, _⟩; simp_all)] at he
      go_returns
      exact ⟨ret_dec he, hbe⟩
  · subst h
    rcases Nat.lt_or_ge 1 s.size with g1 | g1
    case inr =>
      have d1 : decide ((s.size : Int) ≤ 1) = true := by simp; omega
      go_enter Tryz.func127, Tryz.ntmps127
      go_wp2_with fail
      refine wp_loop_rounds 4 ?_
      repeat any_goals (rw [rounds_succ]; go_wp2_with (first | (go_at_call 129; refine (refCont_any _ _).mono ?_; rintro e w' ⟨rfl, rfl⟩) | (go_at_call 162; refine (refEncode_any _ _).mono ?_; rintro e w' ⟨rfl, hbe⟩)))
      all_goals first
        | (go_returns; refine ⟨ret_dec (ref_cut (by rw [HL.out]; exact hs) Hn.out (.inl ?_)), Below.refl _ _⟩; rw [HL.out]; omega)
        | (go_returns; refine ⟨ret_dec (ref_cut (by rw [HL.out]; exact hs) Hn.out (.inr ?_)), Below.refl _ _⟩; unfold decC; simp_all; done)
    have d1 : decide ((s.size : Int) ≤ 1) = false := by simp; omega
    rcases Nat.lt_or_ge 2 s.size with g2 | g2
    case inr =>
      have d2 : decide ((s.size : Int) ≤ 2) = true := by simp; omega
      go_enter Tryz.func127, Tryz.ntmps127
      go_wp2_with fail
      refine wp_loop_rounds 4 ?_
      repeat any_goals (rw [rounds_succ]; go_wp2_with (first | (go_at_call 129; refine (refCont_any _ _).mono ?_; rintro e w' ⟨rfl, rfl⟩) | (go_at_call 162; refine (refEncode_any _ _).mono ?_; rintro e w' ⟨rfl, hbe⟩)))
      all_goals first
        | (go_returns; refine ⟨ret_dec (ref_cut (by rw [HL.out]; exact hs) Hn.out (.inl ?_)), Below.refl _ _⟩; rw [HL.out]; omega)
        | (go_returns; refine ⟨ret_dec (ref_cut (by rw [HL.out]; exact hs) Hn.out (.inr ?_)), Below.refl _ _⟩; unfold decC; simp_all; done)
    have d2 : decide ((s.size : Int) ≤ 2) = false := by simp; omega
    rcases Nat.lt_or_ge 3 s.size with g3 | g3
    case inr =>
      have d3 : decide ((s.size : Int) ≤ 3) = true := by simp; omega
      go_enter Tryz.func127, Tryz.ntmps127
      go_wp2_with fail
      refine wp_loop_rounds 4 ?_
      repeat any_goals (rw [rounds_succ]; go_wp2_with (first | (go_at_call 129; refine (refCont_any _ _).mono ?_; rintro e w' ⟨rfl, rfl⟩) | (go_at_call 162; refine (refEncode_any _ _).mono ?_; rintro e w' ⟨rfl, hbe⟩)))
      all_goals first
        | (go_returns; refine ⟨ret_dec (ref_cut (by rw [HL.out]; exact hs) Hn.out (.inl ?_)), Below.refl _ _⟩; rw [HL.out]; omega)
        | (go_returns; refine ⟨ret_dec (ref_cut (by rw [HL.out]; exact hs) Hn.out (.inr ?_)), Below.refl _ _⟩; unfold decC; simp_all; done)
    have d3 : decide ((s.size : Int) ≤ 3) = false := by simp; omega
    go_enter Tryz.func127, Tryz.ntmps127
    go_wp2_with fail
    refine wp_loop_rounds 4 ?_
    repeat any_goals (rw [rounds_succ]; go_wp2_with (first | (go_at_call 129; refine (refCont_any _ _).mono ?_; rintro e w' ⟨rfl, rfl⟩) | (go_at_call 162; refine (refEncode_any _ _).mono ?_; rintro e w' ⟨rfl, hbe⟩)))
    all_goals first
      | (go_returns; refine ⟨ret_dec (ref_cut (by rw [HL.out]; exact hs) Hn.out (.inl ?_)), Below.refl _ _⟩; rw [HL.out]; omega)
      | (go_returns; refine ⟨ret_dec (ref_cut (by rw [HL.out]; exact hs) Hn.out (.inr ?_)), Below.refl _ _⟩; unfold decC; simp_all; done)
      | skip
    all_goals
      have hc : decC s.data.toList 4 = true := by unfold decC; simp_all
      have he := ref_end Hn.out (by rw [HL.out]; omega) hc
      have hr : decR s.data.toList 4 = 64 * (64 * (64 * (byt s.data.toList 0 - 240) + byt s.data.toList 1 - 128) + byt s.data.toList 2 - 128) + byt s.data.toList 3 - 128 := by unfold decR; simp; try omega
      rw [hr] at he
    · rw [if_neg (by rintro ⟨_, h2⟩; simp_all [Lib.extract_toList])] at he
      go_returns
      exact ⟨ret_dec he, hbe⟩
    · rw [if_pos ⟨by simp_all, by simp_all [Lib.extract_toList]⟩] at he
      go_returns
      exact ⟨ret_dec he, hbe⟩
    · rw [if_neg (by rintro ⟨h1, _⟩; simp_all)] at he
      go_returns
      exact ⟨ret_dec he, hbe⟩
end Go.Proofs.YtlealeecmmpckaaGreat
namespace Go.Proofs.YtlealeecmmpckaaGreat
set_option linter.unusedVariables false
set_option linter.unusedSimpArgs false
set_option maxRecDepth 100000
set_option maxHeartbeats 8000000
open Go.RowKit
theorem ne_nil_of_pos {s : ByteArray} (h : 0 < s.size) : s.data.toList ≠ [] := by
  intro h2
  have h3 : s.data.toList.length = s.size := by simp
  rw [h2, List.length_nil] at h3
  omega
theorem int_eq {k : IntKind} {a b : Int} (h : a = b) : Value.int k a = .int k b := by rw [h]
theorem valid_any (s : ByteArray) (w : World) : Calls Tryz.prog 35 #[.string s] w fun e w' => e = .returned (.bool (validL s.data.toList)) ∧ w = w' := by
  go_enter Tryz.func35, Tryz.ntmps35
  go_wp2
  go_loop [0, 3, 4, 5] (fun t r n e => ∃ u : ByteArray, t = .string u ∧ validL u.data.toList = validL s.data.toList) (fun t r n e => match t with | .string u => u.size | _ => 0)
  case atStart => exact ⟨s, rfl, rfl⟩
  case round =>
    obtain ⟨u, rfl, hv⟩ := hrel
    have Hv := Lib.hid hv; clear hv
    by_cases hne : u.toList.isEmpty = true
    · have h1 : (!u.toList.isEmpty) = false := by simp [hne]
      go_wp2
      go_ret
      exact ⟨ret_bool (by rw [← Hv.out, size_zero_of hne]; rfl), rfl⟩
    · have hne : u.toList.isEmpty = false := by simpa using hne
      have hpos := size_pos_of_ne hne
      have hstep := validL_step (l := u.data.toList) (ne_nil_of_pos hpos)
      have Hs := Lib.hid hstep; clear hstep
      by_cases hd : (decL u.data.toList).2.2 = 0
      · have hp := dec_pos hd
        have hl : u.data.toList.length = u.size := by simp
        rw [hl] at hp
        obtain ⟨hp1, hp2⟩ := hp
        have hd' : ((decL u.data.toList).2.2 != 0) = false := by simp [hd]
        have Hd := Lib.hid hd; clear hd
        clear hl
        go_wp2_with (go_at_call 68; refine (decode_any _ _).mono ?_; rintro e w' ⟨rfl, rfl⟩)
        go_round
        case rel => exact ⟨_, rfl, by rw [Lib.extract_to_end, ← Hv.out, Hs.out, if_pos Hd.out]⟩
        case measure => simp; omega
      · have hd' : ((decL u.data.toList).2.2 != 0) = true := by simp [hd]
        have Hd := Lib.hid hd; clear hd
        go_wp2_with (go_at_call 68; refine (decode_any _ _).mono ?_; rintro e w' ⟨rfl, rfl⟩)
        go_ret
        exact ⟨ret_bool (by rw [← Hv.out, Hs.out, if_neg Hd.out]), rfl⟩
theorem refValid_any (s : ByteArray) (w : World) (hs : s.size ≤ maxLen) : Calls Tryz.prog 91 #[.string s] w fun e w' => e = .returned (.bool (validL s.data.toList)) ∧ Below w.heap.size w w' := by
  unfold maxLen at hs
  go_enter Tryz.func91, Tryz.ntmps91
  go_wp2
  go_loopw [3, 4, 5, 6] (fun t r n e wr => ∃ k : Nat, t = .int .i64 k ∧ k ≤ s.size ∧ validL (s.data.toList.drop k) = validL s.data.toList ∧ Below w.heap.size w wr) (fun t r n e wr => s.size - (intOf t).toNat)
  case atStart => exact ⟨0, rfl, by omega, rfl, Below.refl _ _⟩
  case round =>
    obtain ⟨k, rfl, hk, hv, hB⟩ := hrel
    have Hv := Lib.hid hv; clear hv
    have hl : s.data.toList.length = s.size := by simp
    have Hl := Lib.hid hl; clear hl
    by_cases hlt : k < s.size
    · have hstep := validL_step (l := s.data.toList.drop k) (by intro h; have h3 := congrArg List.length h; simp at h3; omega)
      have Hs := Lib.hid hstep; clear hstep
      have he : (s.extract k s.size).data.toList = s.data.toList.drop k := Lib.extract_to_end s k
      have He := Lib.hid he; clear he
      by_cases hd : (decL (s.data.toList.drop k)).2.2 = 0
      · have hp := dec_pos hd
        rw [List.length_drop, Hl.out] at hp
        obtain ⟨hp1, hp2⟩ := hp
        have hd' : ((decL (s.data.toList.drop k)).2.2 != 0) = false := by simp [hd]
        have Hd := Lib.hid hd; clear hd
        go_wp2_with (go_at_call 127; refine (refDecode_any _ _).mono ?_; rw [He.out]; rintro e w' ⟨rfl, hb'⟩)
        go_roundw
        case rel => exact ⟨k + (decL (s.data.toList.drop k)).2.1.toNat, int_eq (by omega), by omega, by rw [← List.drop_drop, ← Hv.out, Hs.out, if_pos Hd.out], hB.trans (hb'.mono hB.size)⟩
        case measure => simp [intOf]; omega
      · have hd' : ((decL (s.data.toList.drop k)).2.2 != 0) = true := by simp [hd]
        have Hd := Lib.hid hd; clear hd
        go_wp2_with (go_at_call 127; refine (refDecode_any _ _).mono ?_; rw [He.out]; rintro e w' ⟨rfl, hb'⟩)
        go_ret
        exact ⟨ret_bool (by rw [← Hv.out, Hs.out, if_neg Hd.out]), hB.trans (hb'.mono hB.size)⟩
    · go_wp2
      go_ret
      exact ⟨ret_bool (by rw [← Hv.out, List.drop_of_length_le (by rw [Hl.out]; omega)]; rfl), hB⟩
end Go.Proofs.YtlealeecmmpckaaGreat
namespace Go.Proofs.YtlealeecmmpckaaGreat
set_option linter.unusedVariables false
set_option linter.unusedSimpArgs false
set_option maxRecDepth 100000
set_option maxHeartbeats 8000000
open Go.RowKit
structure CfgV where
  slots : Int
  gens : Int
  clients : Int
  readers : Int
  queue : Int
  batch : Int
  feed : Int
  text : ByteArray
theorem within_any (v lo hi : Int) (w : World) : Calls Tryz.prog 90 #[.int .i64 v, .int .i64 lo, .int .i64 hi] w fun e w' => e = .returned (.bool (decide (lo ≤ v) && decide (v ≤ hi))) ∧ w = w' := by
  go_enter Tryz.func90, Tryz.ntmps90
  go_wp2
  all_goals (go_ret; exact ⟨ret_bool (by simp [*]; try omega), rfl⟩)
def CfgV.v (c : CfgV) : Value := .agg #[.int .i64 c.slots, .int .u64 c.gens, .int .i64 c.clients, .int .i64 c.readers, .int .i64 c.queue, .int .i64 c.batch, .int .i64 c.feed, .string c.text]
def inB (v lo hi : Int) : Bool := decide (lo ≤ v) && decide (v ≤ hi)
def cfgB (c : CfgV) : Bool := inB c.slots 1 16384 && inB c.gens 1 4294967295 && inB c.clients 0 8 && inB c.readers 0 8 && inB c.queue 1 64 && inB c.batch 1 16 && inB c.feed 1 64
def cfgE (c : CfgV) : Int := if cfgB c then (if c.text.size > 65536 then 5 else if validL c.text.data.toList then 0 else 11) else 2
end Go.Proofs.YtlealeecmmpckaaGreat
namespace Go.Proofs.YtlealeecmmpckaaGreat
set_option linter.unusedVariables false
set_option linter.unusedSimpArgs false
set_option maxRecDepth 100000
set_option maxHeartbeats 8000000
open Go.RowKit
theorem within_inB (v lo hi : Int) (w : World) : Calls Tryz.prog 90 #[.int .i64 v, .int .i64 lo, .int .i64 hi] w fun e w' => e = .returned (.bool (inB v lo hi)) ∧ w = w' := within_any v lo hi w
theorem ret_errno {a b : Int} (h : a = b) : Ending.returned (.int .i64 a) = .returned (.int .i64 b) := by rw [h]
theorem inB_gen (b : Int) : inB b 1 4294967295 = (!(decide (b < 1) || decide (4294967295 < b))) := by unfold inB; rw [Bool.eq_iff_iff]; simp
theorem storeCheck_any (c : CfgV) (w : World) : Calls Tryz.prog 48 #[c.v] w fun e w' => e = .returned (.int .i64 (cfgE c)) ∧ Below w.heap.size w w' := by
  obtain ⟨a, b, c', d, e, f, g, s⟩ := c
  unfold CfgV.v
  go_enter Tryz.func48, Tryz.ntmps48
  go_wp2_with (first | (go_at_call 90; refine (within_inB _ _ _ _).mono ?_; rintro e w' ⟨rfl, rfl⟩) | (go_at_call 35; refine (valid_any _ _).mono ?_; rintro e w' ⟨rfl, rfl⟩))
  all_goals (go_ret; refine ⟨ret_errno ?_, below1 _ _⟩)
  all_goals (first | (simp [cfgE, cfgB, *]; done) | (simp only [cfgE, cfgB, inB_gen, *]; simp_all; done) | (simp only [cfgE, cfgB, inB_gen, *]; simp_all; omega) | (rename_i h; rcases h with (h | h) | h <;> first | omega | (simp [cfgE, cfgB, *]; done) | (simp only [cfgE, cfgB, inB_gen, *]; simp_all; done)))
end Go.Proofs.YtlealeecmmpckaaGreat
namespace Go.Proofs.YtlealeecmmpckaaGreat
set_option linter.unusedVariables false
set_option linter.unusedSimpArgs false
set_option maxRecDepth 100000
set_option maxHeartbeats 8000000
open Go.RowKit
theorem refConfig_any (c : CfgV) (w : World) : Calls Tryz.prog 49 #[c.v] w fun e w' => e = .returned (.int .i64 (cfgE c)) ∧ Below w.heap.size w w' := by
  obtain ⟨a, b, c', d, e, f, g, s⟩ := c
  unfold CfgV.v
  go_enter Tryz.func49, Tryz.ntmps49
  go_wp2_with (go_at_call 91; refine (refValid_any _ _ ?hs).mono ?_; (rotate_left; (rintro e w' ⟨rfl, hB⟩)))
  all_goals try (case hs => unfold maxLen; omega)
  all_goals (go_ret; refine ⟨ret_errno ?_, by first | exact below1 _ _ | exact (below1 _ _).trans (hB.mono (by simp))⟩)
  all_goals (unfold cfgE cfgB inB; simp only [Bool.and_eq_true, decide_eq_true_eq]; (repeat' split) <;> first | omega | simp_all)
structure OpV where
  kind : Int
  slot : Int
  at_ : Int
  n : Int
  id : Int
  grav : Int
  text : ByteArray
deriving DecidableEq, Inhabited
def OpV.v (o : OpV) : Value := .agg #[.int .u8 o.kind, .int .i64 o.slot, .int .i64 o.at_, .int .i64 o.n, .int .u32 o.id, .int .u8 o.grav, .string o.text]
end Go.Proofs.YtlealeecmmpckaaGreat
