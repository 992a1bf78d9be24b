/- Texts, one behind another. -/
import Derived.Test.YtdeiocppghhfdaaGreatZbaf
import Derived.Test.YtdeiocppghhfdaaGreatZbaq
import Derived.Test.YtdeiocppghhfdaaGreatZbai
set_option linter.unusedVariables false
set_option linter.unusedSimpArgs false
set_option maxRecDepth 100000
set_option maxHeartbeats 8000000
namespace Go.Proofs.YtdeiocppghhfdaaGreat
theorem ann_cont {b : Int} (h : contB b = true) : annB b = 0 := by have := cont_bd h; unfold annB; repeat (first | omega | split)
theorem dec_back {l : List UInt8} {r n : Int} (h : decL l = (r, n, 0)) : encL r = l.take n.toNat ∧ encE r = 0 ∧ 1 ≤ n ∧ n ≤ l.length ∧ n ≤ 4 ∧ lenB r = n := by
 rcases dec_inv l with ⟨n', r', he, h1, h2, h3, ha, hc, hr, hl⟩ | ⟨_, he⟩ | ⟨_, he⟩
 ·rw [h] at he
  simp only [Prod.mk.injEq] at he
  obtain ⟨rfl, rfl, _⟩ := he
  have hx := ann_of ha
  have hb := byt_lo l 0
  have := enc_take h1 h2 h3 hc (by rw [hr]; exact hl) (by omega)
  rw [hr] at this
  refine ⟨this, ?_, h1, h3, h2, hl⟩
  rcases len_of hl with h0 | ⟨h0, _⟩
  ·omega
  ·simp [encE, h0]
 ·rw [h] at he; simp at he
 ·rw [h] at he; simp at he
theorem dec_local {l m : List UInt8} {r n : Int} (h : decL l = (r, n, 0)) (hm : n ≤ m.length) (hb : ∀ k : Nat, (k : Int) < n → byt m k = byt l k) : decL m = (r, n, 0) := by
 rcases dec_inv l with ⟨n', r', he, h1, h2, h3, ha, hc, hr, hl⟩ | ⟨_, he⟩ | ⟨_, he⟩
 ·rw [h] at he
  simp only [Prod.mk.injEq] at he
  obtain ⟨rfl, rfl, _⟩ := he
  have b0 := hb 0 (by omega)
  have hn : n = 1 ∨ n = 2 ∨ n = 3 ∨ n = 4 := by omega
  refine dec_yes (by rw [b0]; exact ha) h1 hm ?_ ?_ hl
  ·rw [← hr]
   rcases hn with rfl | rfl | rfl | rfl <;> unfold decR <;> simp [b0, hb 1, hb 2, hb 3]
  ·rw [← hc]
   rcases hn with rfl | rfl | rfl | rfl <;> unfold decC <;> simp [hb 1, hb 2, hb 3]
 ·rw [h] at he; simp at he
 ·rw [h] at he; simp at he
theorem dec_append {l : List UInt8} {r n : Int} (h : decL l = (r, n, 0)) (m : List UInt8) : decL (l ++ m) = (r, n, 0) := by
 have hb := dec_back h
 refine dec_local h (by rw [List.length_append]; omega) fun k hk => byt_append_left _ _ _ (by omega)
theorem dec_take {l : List UInt8} {r n : Int} (h : decL l = (r, n, 0)) (k : Nat) (hk : n ≤ k) : decL (l.take k) = (r, n, 0) := by
 have hb := dec_back h
 refine dec_local h (by rw [List.length_take]; omega) fun j hj => byt_take _ _ _ (by omega)
theorem dec_conts {l : List UInt8} {r n : Int} (h : decL l = (r, n, 0)) : contB (byt l 0) = false ∧ ∀ k : Nat, 1 ≤ k → (k : Int) < n → contB (byt l k) = true := by
 rcases dec_inv l with ⟨n', r', he, h1, h2, h3, ha, hc, hr, hl⟩ | ⟨_, he⟩ | ⟨_, he⟩
 ·rw [h] at he
  simp only [Prod.mk.injEq] at he
  obtain ⟨rfl, rfl, _⟩ := he
  constructor
  ·cases hx : contB (byt l 0) with
   | false => rfl
   | true => rw [ann_cont hx] at ha; omega
  ·intro k hk hkn
   unfold decC at hc
   simp only [Bool.and_eq_true, Bool.or_eq_true, decide_eq_true_eq] at hc
   obtain ⟨⟨c1, c2⟩, c3⟩ := hc
   have : k = 1 ∨ k = 2 ∨ k = 3 := by omega
   rcases this with rfl | rfl | rfl
   ·exact c1.resolve_left (by omega)
   ·exact c2.resolve_left (by omega)
   ·exact c3.resolve_left (by omega)
 ·rw [h] at he; simp at he
 ·rw [h] at he; simp at he
theorem valid_dec {l : List UInt8} (h : validL l = true) (hl : l ≠ []) : ∃ r n, decL l = (r, n, 0) ∧ validL (l.drop n.toNat) = true := by
 rw [validL_step hl] at h
 split at h
 ·next h0 =>
  refine ⟨(decL l).1, (decL l).2.1, ?_, h⟩
  rw [← h0]
 ·cases h
theorem valid_of_dec {l : List UInt8} {r n : Int} (h : decL l = (r, n, 0)) : validL l = validL (l.drop n.toNat) := by
 have hb := dec_back h
 rw [validL_step (by rintro rfl; simp at hb; omega), h, if_pos rfl]
theorem valid_append (m : List UInt8) (hm : validL m = true) : ∀ (f : Nat) (l : List UInt8), l.length ≤ f → validL l = true → validL (l ++ m) = true := by
 intro f
 induction f with
 | zero =>
  intro l hl _
  have : l = [] := List.eq_nil_of_length_eq_zero (by omega)
  subst this
  exact hm
 | succ f ih =>
  intro l hl hv
  by_cases he : l = []
  ·subst he; exact hm
  obtain ⟨r, n, hd, hr⟩ := valid_dec hv he
  have hb := dec_back hd
  rw [valid_of_dec (dec_append hd m), List.drop_append_of_le_length (by omega)]
  exact ih _ (by rw [List.length_drop]; omega) hr
theorem bnd_drop (l : List UInt8) (a : Nat) (n : Int) (h : 0 ≤ n) (ha : a ≤ l.length) : bndB (l.drop a) n = bndB l (a + n) := by
 unfold bndB
 rw [byt_drop, List.length_drop]
 have e1 : ((l.length - a : Nat) : Int) = l.length - a := by omega
 rw [e1, show a + n.toNat = ((a : Int) + n).toNat from by omega]
 congr 1
 ·simp; omega
 ·congr 1
  ·congr 1; simp; omega
  ·rw [Bool.eq_iff_iff]; simp; omega
theorem valid_cut : ∀ (f : Nat) (l : List UInt8), l.length ≤ f → validL l = true → ∀ k : Nat, k ≤ l.length → validL (l.take k) = bndB l k ∧ validL (l.drop k) = bndB l k := by
 intro f
 induction f with
 | zero =>
  intro l hl _ k hk
  have : l = [] := List.eq_nil_of_length_eq_zero (by omega)
  subst this
  simp at hk
  subst hk
  exact ⟨rfl, rfl⟩
 | succ f ih =>
  intro l hl hv k hk
  by_cases he : l = []
  ·subst he
   simp at hk
   subst hk
   exact ⟨rfl, rfl⟩
  obtain ⟨r, n, hd, hr⟩ := valid_dec hv he
  have hb := dec_back hd
  have hc := dec_conts hd
  by_cases hkn : (k : Int) < n
  ·by_cases hk0 : k = 0
   ·subst hk0
    have : bndB l ((0 : Nat) : Int) = true := by
     unfold bndB
     simp [hc.1]
     omega
    rw [this]
    exact ⟨rfl, hv⟩
   ·have hcon := hc.2 k (by omega) hkn
    have : bndB l (k : Int) = false := by
     unfold bndB
     simp [hcon]
     omega
    rw [this]
    have ha : annB (byt l 0) = n := by
     rcases dec_inv l with ⟨n', r', he', h1, h2, h3, ha, _⟩ | ⟨_, he'⟩ | ⟨_, he'⟩
     ·rw [hd] at he'
      simp only [Prod.mk.injEq] at he'
      rw [ha, he'.2.1]
     ·rw [hd] at he'; simp at he'
     ·rw [hd] at he'; simp at he'
    constructor
    ·have hne : l.take k ≠ [] := by
      intro e
      have := congrArg List.length e
      rw [List.length_take, List.length_nil] at this
      omega
     rw [validL_step hne, dec_no (List.length_pos_iff.2 hne) (.inr ?_)]
     ·rfl
     ·rw [byt_take _ _ _ (by omega), ha, List.length_take]
      omega
    ·have hne : l.drop k ≠ [] := by
      intro e
      have := congrArg List.length e
      rw [List.length_drop, List.length_nil] at this
      omega
     rw [validL_step hne, dec_no (List.length_pos_iff.2 hne) (.inl ?_)]
     ·rfl
     ·rw [byt_drop]
      exact ann_cont hcon
  ·have hr' := ih (l.drop n.toNat) (by rw [List.length_drop]; omega) hr (k - n.toNat) (by rw [List.length_drop]; omega)
   rw [bnd_drop _ _ _ (by omega) (by omega), show ((n.toNat : Nat) : Int) + ((k - n.toNat : Nat) : Int) = k from by omega] at hr'
   constructor
   ·rw [valid_of_dec (dec_take hd k (by omega)), ← hr'.1, List.drop_take]
   ·rw [← hr'.2, List.drop_drop, show n.toNat + (k - n.toNat) = k from by omega]
end Go.Proofs.YtdeiocppghhfdaaGreat
namespace Go.Proofs.YtdeiocppghhfdaaGreat
structure OpIn (o : OpV) : Prop where
 k0 : 0 ≤ o.kind
 k1 : o.kind ≤ 255
 id0 : 0 ≤ o.id
 id1 : o.id ≤ 4294967295
 g0 : 0 ≤ o.grav
 slot : -9223372036854775808 ≤ o.slot ∧ o.slot ≤ 9223372036854775807
 at_ : -9223372036854775808 ≤ o.at_ ∧ o.at_ ≤ 9223372036854775807
 n : -9223372036854775808 ≤ o.n ∧ o.n ≤ 9223372036854775807
theorem opE_ok {o : OpV} (h : opE o = 0) : opP o ∧ o.text.size ≤ 256 ∧ validL o.text.data.toList = true := by
 unfold opE at h
 split at h
 ·rename_i hp
  split at h
  ·simp at h
  ·split at h
   ·rename_i h2 h3; exact ⟨hp, by omega, h3⟩
   ·simp at h
 ·simp at h
theorem statE_ok {st : MS} {c : Int} {o : OpV} (h : statE st c o = 0) : 0 ≤ c ∧ c < st.seats.length ∧ opE o = 0 := by
 unfold statE at h
 split at h
 ·simp at h
 ·exact ⟨by omega, by omega, h⟩
theorem bsz (t : ByteArray) : t.data.toList.length = t.size := Array.length_toList
theorem repT_size (t : ByteArray) (a n : Int) (x : ByteArray) (ha : 0 ≤ a) (hn : 0 ≤ n) (hl : a + n ≤ t.size) : ((repT t a n x).size : Int) = t.size - n + x.size := by
 have e1 := bsz t
 have e2 := bsz x
 rw [← bsz]
 unfold repT
 simp only [List.length_append, List.length_take, List.length_drop, e1, e2]
 omega
theorem repT_nat (t x : ByteArray) (a n : Nat) : repT t a n x = ⟨(t.data.toList.take a ++ x.data.toList ++ t.data.toList.drop (a + n)).toArray⟩ := by
 unfold repT; rw [← Int.natCast_add, Int.toNat_natCast, Int.toNat_natCast]
theorem bndB_valid {l : List UInt8} (h : validL l = true) (k : Nat) (hk : k ≤ l.length) : validL (l.take k) = bndB l k ∧ validL (l.drop k) = bndB l k := valid_cut l.length l (Nat.le_refl _) h k hk
theorem rep_valid {l x : List UInt8} (a n : Nat) (hv : validL l = true) (hx : validL x = true) (h1 : bndB l a = true) (h2 : bndB l (a + n : Nat) = true) (hl : a + n ≤ l.length) : validL (l.take a ++ x ++ l.drop (a + n)) = true := by
 have e1 := (bndB_valid hv a (by omega)).1
 have e2 := (bndB_valid hv (a + n) (by omega)).2
 exact valid_append _ (by rw [e2]; exact h2) _ _ (Nat.le_refl _) (valid_append _ hx _ _ (Nat.le_refl _) (by rw [e1]; exact h1))
theorem leftF_0 (p a t r : Int) : leftF p [] a t r = r := rfl
theorem leftF_1 (p n a t r : Int) (x : ByteArray) (d : List PcV) : leftF p (⟨1, n, x⟩ :: d) a t r = if p ≤ a then r else leftF p d (a + n) (t + n) (t + min n (p - a)) := by simp [leftF]
theorem leftF_2 (p n a t r : Int) (x : ByteArray) (d : List PcV) : leftF p (⟨2, n, x⟩ :: d) a t r = leftF p d a (t + x.size) r := by simp [leftF]
theorem leftF_3 (p n a t r : Int) (x : ByteArray) (d : List PcV) : leftF p (⟨3, n, x⟩ :: d) a t r = leftF p d (a + n) t r := by simp [leftF]
theorem rightF_0 (p a t e : Int) : rightF p [] a t e = e := rfl
theorem rightF_1 (p n a t e : Int) (x : ByteArray) (d : List PcV) : rightF p (⟨1, n, x⟩ :: d) a t e = if p < a + n then t + max 0 (p - a) else rightF p d (a + n) (t + n) e := by simp [rightF]
theorem rightF_2 (p n a t e : Int) (x : ByteArray) (d : List PcV) : rightF p (⟨2, n, x⟩ :: d) a t e = rightF p d a (t + x.size) e := by simp [rightF]
theorem rightF_3 (p n a t e : Int) (x : ByteArray) (d : List PcV) : rightF p (⟨3, n, x⟩ :: d) a t e = rightF p d (a + n) t e := by simp [rightF]
theorem pos_left (N a k : Int) (x : ByteArray) (p : Int) (ha : 0 ≤ a) (hk : 0 ≤ k) (hl : a + k ≤ N) (hp : 0 ≤ p) (hp2 : p ≤ N) : leftF p (repD N a k x) 0 0 0 = if p ≤ a + k then min a p else p - k + x.size := by
 unfold repD
 by_cases h1 : 0 < a <;> by_cases h2 : x.size = 0 <;> by_cases h3 : 0 < k <;> by_cases h4 : 0 < N - a - k <;> simp only [h1, h2, h3, h4, ne_eq, not_true_eq_false, not_false_eq_true, if_true, if_false, List.nil_append, List.cons_append, List.append_nil] <;> (repeat' (first | rw [leftF_0] | rw [leftF_1] | rw [leftF_2] | rw [leftF_3] | split)) <;> omega
theorem pos_right (N a k : Int) (x : ByteArray) (p e : Int) (ha : 0 ≤ a) (hk : 0 ≤ k) (hl : a + k ≤ N) (hp : 0 ≤ p) (hp2 : p ≤ N) (he : e = N - k + x.size) : rightF p (repD N a k x) 0 0 e = if p < a then p else a + x.size + max 0 (p - a - k) := by
 unfold repD
 by_cases h1 : 0 < a <;> by_cases h2 : x.size = 0 <;> by_cases h3 : 0 < k <;> by_cases h4 : 0 < N - a - k <;> simp only [h1, h2, h3, h4, ne_eq, not_true_eq_false, not_false_eq_true, if_true, if_false, List.nil_append, List.cons_append, List.append_nil] <;> (repeat' (first | rw [rightF_0] | rw [rightF_1] | rw [rightF_2] | rw [rightF_3] | split)) <;> omega
theorem pos_rep {N a k : Int} {x : ByteArray} (h : RepOK N a k x) (p g : Int) (hp : 0 ≤ p) (hp2 : p ≤ N) : posS (repD N a k x) p g = if g = 0 then (if p ≤ a + k then min a p else p - k + x.size) else (if p < a then p else a + x.size + max 0 (p - a - k)) := by
 have hlen := (rep_ok h).2.2.2
 obtain ⟨ha, hk, hl, _⟩ := h
 unfold posS
 rw [pos_left N a k x p ha hk hl hp hp2, pos_right N a k x p _ ha hk hl hp hp2 (by rw [hlen])]
theorem pos_bnd {l x : List UInt8} (a k : Nat) (hv : validL l = true) (hx : validL x = true) (h1 : bndB l a = true) (h2 : bndB l (a + k : Nat) = true) (hl : a + k ≤ l.length) (p q : Nat) (hp : bndB l p = true) (hpl : p ≤ l.length)
  (hq : (q = p ∧ p ≤ a) ∨ q = a ∨ q = a + x.length ∨ (q + k = p + x.length ∧ a + k ≤ p)) : bndB (l.take a ++ x ++ l.drop (a + k)) q = true := by
 have hV := rep_valid a k hv hx h1 h2 hl
 have et : (l.take a).length = a := by rw [List.length_take]; omega
 have hlen : (l.take a ++ x ++ l.drop (a + k)).length = a + x.length + (l.length - (a + k)) := by simp only [List.length_append, et, List.length_drop]
 have hql : q ≤ (l.take a ++ x ++ l.drop (a + k)).length := by rw [hlen]; omega
 rw [← (bndB_valid hV q hql).1]
 rcases hq with ⟨rfl, hq⟩ | rfl | rfl | ⟨hq, hq2⟩
 ·rw [List.append_assoc, List.take_append_of_le_length (by rw [et]; exact hq), List.take_take, Nat.min_eq_left hq, (bndB_valid hv q hpl).1]; exact hp
 ·rw [List.append_assoc, List.take_append_of_le_length (by rw [et]; exact Nat.le_refl _), List.take_take, Nat.min_self, (bndB_valid hv q (by omega)).1]; exact h1
 ·have e : (l.take a ++ x).length = a + x.length := by rw [List.length_append, et]
  rw [List.take_append_of_le_length (by rw [e]; exact Nat.le_refl _), ← e, List.take_length]
  exact valid_append _ hx _ _ (Nat.le_refl _) (by rw [(bndB_valid hv a (by omega)).1]; exact h1)
 ·have e : (l.take a ++ x).length = a + x.length := by rw [List.length_append, et]
  rw [List.take_append, List.take_of_length_le (by rw [e]; omega), e]
  have hd : validL (l.drop (a + k)) = true := by rw [(bndB_valid hv (a + k) hl).2]; exact h2
  have he : q - (a + x.length) = p - (a + k) := by omega
  rw [he]
  refine valid_append _ ?_ _ _ (Nat.le_refl _) (valid_append _ hx _ _ (Nat.le_refl _) (by rw [(bndB_valid hv a (by omega)).1]; exact h1))
  rw [(bndB_valid hd (p - (a + k)) (by rw [List.length_drop]; omega)).1, bnd_drop l (a + k) _ (by omega) hl]
  have : ((a + k : Nat) : Int) + ((p - (a + k) : Nat) : Int) = (p : Int) := by omega
  rw [this]; exact hp
theorem repS_ok {st : MS} {K : Int} (h : MSok st K) {a n : Int} {x : ByteArray} (hr : RepOK st.text.size a n x) (hx : validL x.data.toList = true) (hs : (st.text.size : Int) - n + x.size ≤ 65536) (h1 : bndB st.text.data.toList a = true) (h2 : bndB st.text.data.toList (a + n) = true) : MSok (repS st a n x).2 (K + 1) := by
 have hr' := hr
 obtain ⟨ha, hn, han, _⟩ := hr
 have hsz := repT_size st.text a n x ha hn han
 obtain ⟨a', rfl⟩ := Int.eq_ofNat_of_zero_le ha
 obtain ⟨n', rfl⟩ := Int.eq_ofNat_of_zero_le hn
 have hl : a' + n' ≤ st.text.data.toList.length := by rw [bsz]; omega
 have h2' : bndB st.text.data.toList (a' + n' : Nat) = true := by rw [Int.natCast_add]; exact h2
 have hpos : ∀ m ∈ st.marks, 0 ≤ posS (repD st.text.size a' n' x) m.at_ m.grav ∧ posS (repD st.text.size a' n' x) m.at_ m.grav ≤ (repT st.text a' n' x).size ∧ bndB (repT st.text a' n' x).data.toList (posS (repD st.text.size a' n' x) m.at_ m.grav) = true := by
  intro m hm
  obtain ⟨_, _, _, g1, g2⟩ := h.marks.2.2 m hm
  have hb := h.bound m hm
  rw [pos_rep hr' m.at_ m.grav g1 g2]
  generalize hq : (if m.grav = 0 then (if m.at_ ≤ (a' : Int) + n' then min (a' : Int) m.at_ else m.at_ - n' + x.size) else (if m.at_ < (a' : Int) then m.at_ else (a' : Int) + x.size + max 0 (m.at_ - a' - n'))) = q
  have hq0 : 0 ≤ q ∧ q ≤ (st.text.size : Int) - n' + x.size := by subst hq; (repeat' split) <;> omega
  refine ⟨hq0.1, by rw [hsz]; exact hq0.2, ?_⟩
  obtain ⟨p, hp⟩ := Int.eq_ofNat_of_zero_le g1
  obtain ⟨q', rfl⟩ := Int.eq_ofNat_of_zero_le hq0.1
  have := pos_bnd a' n' h.valid hx h1 h2' hl p q' (by rw [← hp]; exact hb) (by rw [bsz]; omega) (by
   rw [bsz]
   rw [hp] at hq
   split at hq
   ·split at hq
    ·rw [Int.min_def] at hq; split at hq <;> omega
    ·omega
   ·split at hq
    ·omega
    ·rw [Int.max_def] at hq; split at hq <;> omega)
  rw [repT_nat]
  exact this
 refine ⟨?_, ?_, ?_, ?_, ?_, ?_, h.readers, h.clients, h.slots⟩
 ·have : ((repT st.text a' n' x).size : Int) ≤ 65536 := by rw [hsz]; exact hs
  exact Int.ofNat_le.1 this
 ·have := rep_valid a' n' h.valid hx h1 h2' hl
  show validL (repT st.text a' n' x).data.toList = true
  rw [repT_nat]
  exact this
 ·refine ⟨by show (shiftM _ _).length ≤ 64; unfold shiftM; rw [List.length_map]; exact h.marks.1, ?_, ?_⟩
  ·show (shiftM _ _).Pairwise _
   unfold shiftM
   rw [List.pairwise_map]
   exact h.marks.2.1
  ·intro m hm
   obtain ⟨m0, hm0, rfl⟩ := List.mem_map.1 hm
   obtain ⟨g1, g2, g3, _, _⟩ := h.marks.2.2 m0 hm0
   exact ⟨g1, g2, g3, (hpos m0 hm0).1, (hpos m0 hm0).2.1⟩
 ·intro m hm
  obtain ⟨m0, hm0, rfl⟩ := List.mem_map.1 hm
  exact (hpos m0 hm0).2.2
 ·have := h.num0; show 0 ≤ st.number + 1; omega
 ·have := h.num1; show st.number + 1 ≤ K + 1; omega
theorem MSok.mono {st : MS} {K K' : Int} (h : MSok st K) (hk : K ≤ K') : MSok st K' := ⟨h.size, h.valid, h.marks, h.bound, h.num0, Int.le_trans h.num1 hk, h.readers, h.clients, h.slots⟩
theorem bndE_ok {t : ByteArray} {n : Int} (h : bndE t n = 0) : bndB t.data.toList n = true ∧ n ≤ t.size := by
 unfold bndE at h
 split at h
 ·simp at h
 ·split at h
  ·rename_i h1 h2; exact ⟨h2, by omega⟩
  ·simp at h
theorem insE_ok {st : MS} {o : OpV} (h : insE st o = 0) : st.closed = false ∧ bndE st.text o.at_ = 0 ∧ (st.text.size : Int) + o.text.size ≤ 65536 := by
 unfold insE at h
 split at h
 ·simp at h
 ·rename_i h1
  split at h
  ·rename_i h2; exact absurd h h2
  ·rename_i h2
   split at h
   ·simp at h
   ·exact ⟨by simpa using h1, by omega, by omega⟩
theorem insS_ok {st : MS} {K : Int} {o : OpV} (h : MSok st K) (ho : opE o = 0) (hk : o.kind = 1) : MSok (insS st o).2 (K + 1) := by
 obtain ⟨⟨_, _, g1, g2, g3, g4, g5, g6, g7, g8, g9, g10, g11⟩, gs, gv⟩ := opE_ok ho
 unfold insS
 split
 ·exact h.mono (by omega)
 ·rename_i he
  obtain ⟨e1, e2, e3⟩ := insE_ok (Decidable.not_not.1 he)
  obtain ⟨e4, e5⟩ := bndE_ok e2
  have hsz := h.size
  exact repS_ok h ⟨g1, by omega, by omega, by omega, by omega, .inl ⟨rfl, by omega⟩⟩ gv (by omega) e4 (by simpa using e4)
theorem delE_ok {st : MS} {o : OpV} (h : delE st o = 0) : st.closed = false ∧ o.at_ ≤ st.text.size ∧ o.n ≤ (st.text.size : Int) - o.at_ ∧ bndE st.text o.at_ = 0 ∧ bndE st.text (o.at_ + o.n) = 0 := by
 unfold delE at h
 split at h
 ·simp at h
 ·rename_i h1
  split at h
  ·simp at h
  ·rename_i h2
   split at h
   ·rename_i h3; exact absurd h h3
   ·rename_i h3; exact ⟨by simpa using h1, by omega, by omega, by omega, h⟩
theorem delS_ok {st : MS} {K : Int} {o : OpV} (h : MSok st K) (ho : opE o = 0) (hk : o.kind = 2) : MSok (delS st o).2 (K + 1) := by
 obtain ⟨⟨_, _, g1, g2, g3, g4, g5, g6, g7, g8, g9, g10, g11⟩, gs, gv⟩ := opE_ok ho
 unfold delS
 split
 ·exact h.mono (by omega)
 ·rename_i he
  obtain ⟨e1, e2, e3, e4, e5⟩ := delE_ok (Decidable.not_not.1 he)
  have hsz := h.size
  have hn := g11 hk
  have e0 : (⟨#[]⟩ : ByteArray).size = 0 := rfl
  exact repS_ok h ⟨g1, by omega, by omega, by omega, by rw [e0]; omega, .inr ⟨by omega, rfl⟩⟩ rfl (by rw [e0]; omega) (bndE_ok e4).1 (bndE_ok e5).1
theorem setS_ok {st : MS} {K : Int} {o : OpV} (h : MSok st K) (ho : opE o = 0) (hi : OpIn o) (hk : o.kind = 3) : MSok (setS st o).2 (K + 1) := by
 obtain ⟨⟨_, _, g1, g2, g3, g4, g5, g6, g7, g8, g9, g10, g11⟩, gs, gv⟩ := opE_ok ho
 unfold setS
 split
 ·exact h.mono (by omega)
 ·rename_i he
  have he := Decidable.not_not.1 he
  unfold setE at he
  split at he
  ·simp at he
  ·obtain ⟨e4, e5⟩ := bndE_ok he
   split
   ·rename_i hl
    have := hi.id0; have := hi.id1; have := hi.g0
    have hm : MkIn st.text.size ⟨o.id, o.at_, o.grav⟩ := ⟨by show 1 ≤ o.id; omega, by show o.id ≤ 4294967295; omega, by show o.grav = 0 ∨ o.grav = 1; omega, g1, e5⟩
    have n0 := h.num0
    have n1 := h.num1
    refine ⟨h.size, h.valid, setM_ok h.marks hm hl, ?_, by show 0 ≤ st.number + 1; omega, by show st.number + 1 ≤ K + 1; omega, h.readers, h.clients, h.slots⟩
    intro m hm'
    rcases List.mem_append.1 hm' with hx | hx
    ·exact h.bound m (List.mem_filter.1 hx).1
    ·rcases List.mem_cons.1 hx with rfl | hx
     ·exact e4
     ·exact h.bound m (List.mem_filter.1 hx).1
   ·exact h.mono (by omega)
theorem drpS_ok {st : MS} {K : Int} {o : OpV} (h : MSok st K) : MSok (drpS st o).2 (K + 1) := by
 have n0 := h.num0
 have n1 := h.num1
 unfold drpS
 split
 ·exact h.mono (by omega)
 ·split
  ·exact ⟨h.size, h.valid, dropM_ok h.marks, fun m hm => h.bound m (List.mem_filter.1 hm).1, by show 0 ≤ st.number + 1; omega, by show st.number + 1 ≤ K + 1; omega, h.readers, h.clients, h.slots⟩
  ·exact h.mono (by omega)
theorem MS.put_ok {st : MS} {K : Int} (h : MSok st K) {c : Nat} {s : SeV} (hs : s.slots.length = st.readers ∧ ∀ x ∈ s.slots, SnOK x) : MSok (st.put c s) K :=
 ⟨h.size, h.valid, h.marks, h.bound, h.num0, h.num1, h.readers, by show (st.seats.set c s).length ≤ 8; rw [List.length_set]; exact h.clients, fun x hx => by rcases List.mem_or_eq_of_mem_set hx with hx | rfl; exact h.slots x hx; exact hs⟩
theorem MS.seat_mem {st : MS} {c : Nat} (h : c < st.seats.length) : st.seat c ∈ st.seats := by
 unfold MS.seat; rw [List.getD_eq_getElem?_getD, List.getElem?_eq_getElem h]; exact List.getElem_mem h
theorem MS.putSlot_ok {st : MS} {K : Int} (h : MSok st K) {c k : Nat} (hc : c < st.seats.length) {x : SnV} (hx : SnOK x) : MSok (st.putSlot c k x) K := by
 have hs := h.slots _ (MS.seat_mem hc)
 refine MS.put_ok h ⟨by show ((st.seat c).slots.set k x).length = _; rw [List.length_set]; exact hs.1, fun y hy => ?_⟩
 rcases List.mem_or_eq_of_mem_set hy with hy | rfl
 ·exact hs.2 y hy
 ·exact hx
theorem acqS_ok {st : MS} {K : Int} {c : Nat} (h : MSok st K) (hc : c < st.seats.length) : MSok (acqS st c).2 K := by
 unfold acqS
 split
 ·exact h
 ·split
  ·exact h
  ·exact MS.putSlot_ok h hc ⟨h.size, h.marks, Int.le_refl _, Int.natCast_nonneg _⟩
theorem subS_ok {st : MS} {K : Int} {c : Nat} (h : MSok st K) (hc : c < st.seats.length) : MSok (subS st c).2 K := by
 unfold subS
 split
 ·exact h
 ·split
  ·exact h
  ·exact MS.put_ok h (s := { st.seat c with sub := true }) (h.slots (st.seat c) (MS.seat_mem hc))
theorem recS_ok {st : MS} {K : Int} {c : Nat} (h : MSok st K) : MSok (recS st c).2 K := by
 unfold recS
 (repeat' split) <;> exact h
theorem cloS_ok {st : MS} {K : Int} (h : MSok st K) : MSok (cloS st).2 K := by
 unfold cloS
 split
 ·exact h
 ·exact ⟨h.size, h.valid, h.marks, h.bound, h.num0, h.num1, h.readers, h.clients, h.slots⟩
theorem zeroSn_ok : SnOK zeroSn := ⟨by show 0 ≤ 65536; omega, ⟨by simp [zeroSn], List.Pairwise.nil, fun m hm => by simp [zeroSn] at hm⟩, Int.le_refl _, Int.natCast_nonneg _⟩
theorem snpS_ok {s : SnV} {o : OpV} (h : SnOK s) (ho : opE o = 0) : SnOK (snpS s o).2 := by
 obtain ⟨⟨_, _, g1, g2, _⟩, _⟩ := opE_ok ho
 obtain ⟨h1, h2, h3, h4⟩ := h
 unfold snpS
 repeat' split
 all_goals first | exact ⟨h1, h2, h3, h4⟩ | exact zeroSn_ok | skip
 ·exact ⟨h1, h2, g1, by show o.at_ ≤ (s.text.size : Int); omega⟩
 ·exact ⟨h1, h2, by show 0 ≤ s.cursor + min o.n ((s.text.size : Int) - s.cursor); omega, by show s.cursor + min o.n ((s.text.size : Int) - s.cursor) ≤ (s.text.size : Int); omega⟩
theorem slotE_ok {se : SeV} {o : OpV} (h : slotE se o = 0) : 0 ≤ o.slot ∧ o.slot < se.slots.length ∧ (se.slots.getD o.slot.toNat default).held = true := by
 unfold slotE at h
 split at h
 ·simp at h
 ·split at h
  ·rename_i h1 h2; exact ⟨by omega, by omega, h2⟩
  ·simp at h
theorem reaS_ok {st : MS} {K : Int} {c : Nat} {o : OpV} (h : MSok st K) (hc : c < st.seats.length) (ho : opE o = 0) : MSok (reaS st c o).2 K := by
 unfold reaS
 split
 ·exact h
 ·rename_i he
  obtain ⟨e1, e2, e3⟩ := slotE_ok (Decidable.not_not.1 he)
  refine MS.putSlot_ok h hc (snpS_ok ((h.slots _ (MS.seat_mem hc)).2 _ ?_) ho)
  rw [List.getD_eq_getElem?_getD, List.getElem?_eq_getElem (by omega)]; exact List.getElem_mem _
theorem opS_ok {st : MS} {K : Int} {c : Nat} {o : OpV} (h : MSok st K) (hc : c < st.seats.length) (ho : opE o = 0) (hi : OpIn o) : MSok (opS st c o).2 (K + 1) := by
 unfold opS
 have hm : ∀ {s : MS}, MSok s K → MSok s (K + 1) := fun h => h.mono (by omega)
 split
 ·exact insS_ok h ho (by assumption)
 split
 ·exact delS_ok h ho (by assumption)
 split
 ·exact setS_ok h ho hi (by assumption)
 split
 ·exact drpS_ok h
 split
 ·exact hm (acqS_ok h hc)
 split
 ·exact hm (subS_ok h hc)
 split
 ·exact hm (recS_ok (c := c) h)
 split
 ·exact hm (cloS_ok h)
 ·exact hm (reaS_ok h hc ho)
theorem doS_ok {st : MS} {K : Int} {c : Int} {o : OpV} (h : MSok st K) (hi : OpIn o) : MSok (doS st c o).2 (K + 1) := by
 unfold doS
 split
 ·exact h.mono (by omega)
 ·rename_i he
  obtain ⟨e1, e2, e3⟩ := statE_ok (Decidable.not_not.1 he)
  exact opS_ok h (by omega) e3 hi
end Go.Proofs.YtdeiocppghhfdaaGreat
