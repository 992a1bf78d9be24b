/- The texts MdPd RkP. -/
import Derived.Test.YtdeiocppghhfdaaGreatPul
import Derived.Test.YtdeiocppghhfdaaGreatPva
namespace Go.Proofs.YtdeiocppghhfdaaGreat
set_option linter.unusedVariables false
set_option linter.unusedSimpArgs false
set_option maxRecDepth 100000
set_option maxHeartbeats 8000000
open Go.Lib
theorem rea_fail {st : MS} {c : Nat} {q : OpV} (h : (reaS st c q).1.err ≠ 0) : (reaS st c q).2 = st := by
  unfold reaS at *
  split
  · rfl
  · rename_i he
    rw [if_neg he] at h
    have hs : (snpS ((st.seat c).slots.getD q.slot.toNat default) q).2 = (st.seat c).slots.getD q.slot.toNat default := by
      revert h
      generalize (st.seat c).slots.getD q.slot.toNat default = s
      intro h
      have h : (snpS s q).1.err ≠ 0 := h
      unfold snpS at *
      repeat' split
      all_goals first | rfl | (exfalso; simp_all)
    show st.putSlot c q.slot.toNat (snpS ((st.seat c).slots.getD q.slot.toNat default) q).2 = st
    rw [hs]
    exact putSlot_self st c _
theorem op_fail {st : MS} {c : Nat} {q : OpV} (h : (opS st c q).1.err ≠ 0) : (opS st c q).2 = st := by
  unfold opS at *
  split
  · rename_i k; rw [if_pos k] at h
    unfold insS at *; split
    · rfl
    · rename_i e; rw [if_neg e] at h; exact absurd rfl h
  rename_i k1; rw [if_neg k1] at h
  split
  · rename_i k; rw [if_pos k] at h
    unfold delS at *; split
    · rfl
    · rename_i e; rw [if_neg e] at h; exact absurd rfl h
  rename_i k2; rw [if_neg k2] at h
  split
  · rename_i k; rw [if_pos k] at h
    unfold setS at *; split
    · rfl
    · rename_i e; rw [if_neg e] at h; split
      · rename_i e2; rw [if_pos e2] at h; exact absurd rfl h
      · rfl
  rename_i k3; rw [if_neg k3] at h
  split
  · rename_i k; rw [if_pos k] at h
    unfold drpS at *; split
    · rfl
    · rename_i e; rw [if_neg e] at h; split
      · rename_i e2; rw [if_pos e2] at h; exact absurd rfl h
      · rfl
  rename_i k4; rw [if_neg k4] at h
  split
  · rename_i k; rw [if_pos k] at h
    unfold acqS at *; split
    · rfl
    · rename_i e; rw [if_neg e] at h; split
      · rfl
      · rename_i e2; rw [e2] at h; exact absurd rfl h
  rename_i k5; rw [if_neg k5] at h
  split
  · rename_i k; rw [if_pos k] at h
    unfold subS at *; split
    · rfl
    · rename_i e; rw [if_neg e] at h; split
      · rfl
      · rename_i e2; rw [if_neg e2] at h; exact absurd rfl h
  rename_i k6; rw [if_neg k6] at h
  split
  · unfold recS; split
    · rfl
    · split <;> rfl
  rename_i k7; rw [if_neg k7] at h
  split
  · rename_i k; rw [if_pos k] at h
    unfold cloS at *; split
    · rfl
    · rename_i e; rw [if_neg e] at h; exact absurd rfl h
  rename_i k8; rw [if_neg k8] at h
  exact rea_fail h
theorem do_fail {st : MS} {c : Int} {q : OpV} (h : (doS st c q).1.err ≠ 0) : (doS st c q).2 = st := by
  unfold doS at *
  split
  · rfl
  · rename_i e; rw [if_neg e] at h; exact op_fail h
theorem sameB_refl (r : ResV) : sameB r {} r = true := by simp [sameB]
theorem sameB_eq {r s : ResV} {i : ItV} (h : sameB r i s = true) : r = s ∧ i.dn = 0 ∧ i.k = 0 ∧ i.f = 0 ∧ i.t = 0 := by
  unfold sameB at h
  simp only [Bool.and_eq_true, decide_eq_true_eq, beq_iff_eq] at h
  obtain ⟨⟨⟨⟨⟨⟨⟨⟨⟨⟨h0, h1⟩, h2⟩, h3⟩, h4⟩, h5⟩, h6⟩, ⟨h7, h8⟩, h9⟩, h10⟩, h11⟩, h12⟩ := h
  refine ⟨?_, h0, h10, h11, h12⟩
  have ht : r.text = s.text := by
    rw [toList_data, toList_data] at h6
    exact ByteArray.ext (Array.toList_inj.1 h6)
  cases r; cases s
  simp_all
theorem acc_self (st : MS) (c : Int) (q : OpV) : accS st c q (doS st c q).1 {} = (true, (doS st c q).2) := by unfold accS; rw [if_pos (sameB_refl _)]
theorem acc_keep {st : MS} {c : Int} {q : OpV} {r : ResV} {i : ItV} (h : (accS st c q r i).1 = false ∨ r.err ≠ 0) : (accS st c q r i).2 = st := by
  unfold accS at *
  split
  · rename_i hs
    rw [if_pos hs] at h
    rcases h with h | h
    · cases h
    · exact do_fail (by rw [← (sameB_eq hs).1]; exact h)
  · rfl
theorem acc_is {st : MS} {c : Int} {q : OpV} {r : ResV} {i : ItV} (h : (accS st c q r i).1 = true) (he : r.err = 0) (hk : q.kind ≠ 15) : sameB r i (doS st c q).1 = true := by
  unfold accS at h
  split at h
  · rename_i hs; exact hs
  · exfalso
    have h : accB st c q r i = true := h
    have h6 : sameB r i (failR 6) = false := by
      cases hx : sameB r i (failR 6) with
      | false => rfl
      | true => have := (sameB_eq hx).1; rw [this] at he; simp [failR] at he
    have h14 : sameB r i (failR 14) = false := by
      cases hx : sameB r i (failR 14) with
      | false => rfl
      | true => have := (sameB_eq hx).1; rw [this] at he; simp [failR] at he
    unfold accB at h
    rw [h6, h14, if_neg hk] at h
    revert h
    repeat' split
    all_goals simp
end Go.Proofs.YtdeiocppghhfdaaGreat
namespace Go.Proofs.YtdeiocppghhfdaaGreat
set_option linter.unusedVariables false
set_option linter.unusedSimpArgs false
set_option maxRecDepth 100000
set_option maxHeartbeats 8000000
def InN (a : Int) : Prop := 0 ≤ a ∧ a < 9223372036854775808
theorem numL_inj {a b : Int} (ha : InN a) (hb : InN b) (h : numL a = numL b) : a = b := by
  have hw : ∀ x, InN x → IntKind.u64.wrap x = x := fun x hx => by
    obtain ⟨h1, h2⟩ := hx
    show x % 18446744073709551616 = x
    omega
  have e : ∀ i, i < 8 → a / 2 ^ (8 * i) % 256 = b / 2 ^ (8 * i) % 256 := fun i hi => by
    have h0 : ((numL a)[i]?) = ((numL b)[i]?) := by rw [h]
    unfold numL at h0
    rw [List.getElem?_map, List.getElem?_map, List.getElem?_range hi] at h0
    have h1 : nbB a i = nbB b i := by simpa using h0
    unfold nbB at h1
    rw [hw a ha, hw b hb] at h1
    exact h1
  obtain ⟨a1, a2⟩ := ha
  obtain ⟨b1, b2⟩ := hb
  have e0 := e 0 (by omega)
  have e1 := e 1 (by omega)
  have e2 := e 2 (by omega)
  have e3 := e 3 (by omega)
  have e4 := e 4 (by omega)
  have e5 := e 5 (by omega)
  have e6 := e 6 (by omega)
  have e7 := e 7 (by omega)
  clear e hw h
  simp only [Nat.mul_zero, Nat.mul_one, Nat.reduceMul, Int.reducePow, Int.pow_zero, Int.ediv_one] at e0 e1 e2 e3 e4 e5 e6 e7
  omega
theorem numL_cut {a b : Int} {X Y : List Int} (ha : InN a) (hb : InN b) (h : numL a ++ X = numL b ++ Y) : a = b ∧ X = Y := by
  obtain ⟨h1, h2⟩ := List.append_inj h (by rw [numL_len, numL_len])
  exact ⟨numL_inj ha hb h1, h2⟩
theorem b2_cut {a b : Bool} {X Y : List Int} (h : b2 a ++ X = b2 b ++ Y) : a = b ∧ X = Y := by
  cases a <;> cases b <;> simp [b2] at h ⊢ <;> exact h
theorem bL_inj {s t : ByteArray} (h : bL s = bL t) : s = t := by
  have h1 : s.data.toList = t.data.toList := by
    unfold bL at h
    refine List.map_inj_right (f := fun b : UInt8 => (b.toNat : Int)) (fun a b hab => ?_) |>.1 h
    exact UInt8.toNat_inj.1 (by have h3 : (a.toNat : Int) = (b.toNat : Int) := hab; omega)
  have h2 : s.data = t.data := Array.toList_inj.1 h1
  cases s; cases t; exact congrArg ByteArray.mk h2
theorem flat_cut {α : Type} (f : α → List Int) (P : α → Prop) (hf : ∀ a b X Y, P a → P b → f a ++ X = f b ++ Y → a = b ∧ X = Y) : ∀ (l k : List α) (X Y : List Int), l.length = k.length → (∀ x ∈ l, P x) → (∀ x ∈ k, P x) → l.flatMap f ++ X = k.flatMap f ++ Y → l = k ∧ X = Y
  | [], [], X, Y, _, _, _, h => ⟨rfl, by simpa using h⟩
  | [], _ :: _, _, _, h, _, _, _ => by simp at h
  | _ :: _, [], _, _, h, _, _, _ => by simp at h
  | a :: l, b :: k, X, Y, hl, ha, hb, h => by
    rw [List.flatMap_cons, List.flatMap_cons, List.append_assoc, List.append_assoc] at h
    obtain ⟨e1, e2⟩ := hf a b _ _ (ha a (by simp)) (hb b (by simp)) h
    obtain ⟨e3, e4⟩ := flat_cut f P hf l k X Y (by simpa using hl) (fun x hx => ha x (by simp [hx])) (fun x hx => hb x (by simp [hx])) e2
    exact ⟨by rw [e1, e3], e4⟩
def MkN (m : MkV) : Prop := InN m.id ∧ InN m.at_ ∧ InN m.grav
theorem mkK_cut (a b : MkV) (X Y : List Int) (ha : MkN a) (hb : MkN b) (h : mkKL a ++ X = mkKL b ++ Y) : a = b ∧ X = Y := by
  unfold mkKL at h
  simp only [List.append_assoc] at h
  obtain ⟨e1, h⟩ := numL_cut ha.1 hb.1 h
  obtain ⟨e2, h⟩ := numL_cut ha.2.1 hb.2.1 h
  obtain ⟨e3, hx⟩ := numL_cut ha.2.2 hb.2.2 h
  refine ⟨?_, hx⟩
  cases a; cases b; simp_all
theorem txtL_cut {s t : ByteArray} {l k : List MkV} {X Y : List Int} (hs : s.size ≤ 65536) (ht : t.size ≤ 65536) (hl : l.length ≤ 64) (hk : k.length ≤ 64) (hlm : ∀ m ∈ l, MkN m) (hkm : ∀ m ∈ k, MkN m) (h : txtL s l ++ X = txtL t k ++ Y) : s = t ∧ l = k ∧ X = Y := by
  unfold txtL at h
  simp only [List.append_assoc] at h
  obtain ⟨e1, h⟩ := numL_cut ⟨by omega, by omega⟩ ⟨by omega, by omega⟩ h
  obtain ⟨e2, h⟩ := List.append_inj h (by rw [bL_len, bL_len]; omega)
  obtain ⟨e3, h⟩ := numL_cut ⟨by omega, by omega⟩ ⟨by omega, by omega⟩ h
  obtain ⟨e4, h⟩ := flat_cut mkKL MkN mkK_cut l k X Y (by omega) hlm hkm h
  exact ⟨bL_inj e2, e4, h⟩
theorem mk_N {n : Int} (hn : n ≤ 65536) {l : List MkV} (h : MkOK n l) : ∀ m ∈ l, MkN m := fun m hm => by
  obtain ⟨h1, h2, h3, h4, h5⟩ := h.2.2 m hm
  refine ⟨⟨?_, ?_⟩, ⟨?_, ?_⟩, ⟨?_, ?_⟩⟩ <;> omega
theorem snK_cut (a b : SnV) (X Y : List Int) (ha : SnOK a) (hb : SnOK b) (h : snK a ++ X = snK b ++ Y) : a = b ∧ X = Y := by
  obtain ⟨a1, a2, a3, a4⟩ := ha
  obtain ⟨b1, b2, b3, b4⟩ := hb
  unfold snK at h
  simp only [List.append_assoc] at h
  obtain ⟨e1, h⟩ := b2_cut h
  obtain ⟨e2, e3, h⟩ := txtL_cut a1 b1 a2.1 b2.1 (mk_N (by omega) a2) (mk_N (by omega) b2) h
  obtain ⟨e4, hx⟩ := numL_cut ⟨by omega, by omega⟩ ⟨by omega, by omega⟩ h
  refine ⟨?_, hx⟩
  cases a; cases b; simp_all
def SeOK (r : Nat) (s : SeV) : Prop := s.slots.length = r ∧ r ≤ 8 ∧ ∀ x ∈ s.slots, SnOK x
theorem seK_cut (r : Nat) (a b : SeV) (X Y : List Int) (ha : SeOK r a) (hb : SeOK r b) (h : seK a ++ X = seK b ++ Y) : a = b ∧ X = Y := by
  obtain ⟨a1, a2, a3⟩ := ha
  obtain ⟨b1, b2, b3⟩ := hb
  unfold seK at h
  simp only [List.append_assoc] at h
  obtain ⟨e1, h⟩ := b2_cut h
  obtain ⟨e2, h⟩ := numL_cut ⟨by omega, by omega⟩ ⟨by omega, by omega⟩ h
  obtain ⟨e3, hx⟩ := flat_cut snK SnOK snK_cut _ _ _ _ (by omega) a3 b3 h
  refine ⟨?_, hx⟩
  cases a; cases b; simp_all
theorem keyL_inj {s t : MS} {K J : Int} (hs : MSok s K) (ht : MSok t J) (hK : K ≤ 1000000) (hJ : J ≤ 1000000) (h : keyL s = keyL t) : s = t := by
  have h0 : keyL s ++ [] = keyL t ++ [] := by rw [h]
  unfold keyL hdK at h0
  simp only [List.append_assoc] at h0
  have s1 := hs.num0
  have s2 := hs.num1
  have s3 := hs.readers
  have s4 := hs.clients
  have s5 := hs.size
  have t1 := ht.num0
  have t2 := ht.num1
  have t3 := ht.readers
  have t4 := ht.clients
  have t5 := ht.size
  obtain ⟨e1, e2, h0⟩ := txtL_cut s5 t5 hs.marks.1 ht.marks.1 (mk_N (by omega) hs.marks) (mk_N (by omega) ht.marks) h0
  obtain ⟨e3, h0⟩ := numL_cut ⟨s1, by omega⟩ ⟨t1, by omega⟩ h0
  obtain ⟨e4, h0⟩ := b2_cut h0
  obtain ⟨e5, h0⟩ := numL_cut ⟨by omega, by omega⟩ ⟨by omega, by omega⟩ h0
  obtain ⟨e6, h0⟩ := numL_cut ⟨by omega, by omega⟩ ⟨by omega, by omega⟩ h0
  have e5' : s.readers = t.readers := by omega
  obtain ⟨e7, _⟩ := flat_cut seK (SeOK t.readers) (seK_cut t.readers) s.seats t.seats [] [] (by omega) (fun x hx => ⟨(hs.slots x hx).1.trans e5', t3, (hs.slots x hx).2⟩) (fun x hx => ⟨(ht.slots x hx).1, t3, (ht.slots x hx).2⟩) h0
  cases s; cases t; simp_all
def Byt (L : List Int) : Prop := ∀ x ∈ L, 0 ≤ x ∧ x < 256
theorem Byt.app {A B : List Int} (h : Byt A) (k : Byt B) : Byt (A ++ B) := fun x hx => (List.mem_append.1 hx).elim (h x) (k x)
theorem Byt.flat {α : Type} {f : α → List Int} (h : ∀ a, Byt (f a)) (l : List α) : Byt (l.flatMap f) := fun x hx => by
  obtain ⟨a, _, hx⟩ := List.mem_flatMap.1 hx
  exact h a x hx
theorem byt_num (a : Int) : Byt (numL a) := fun x hx => by
  obtain ⟨i, _, rfl⟩ := List.mem_map.1 hx
  unfold nbB; omega
theorem byt_b2 (a : Bool) : Byt (b2 a) := fun x hx => by
  cases a <;> simp [b2] at hx <;> omega
theorem byt_bL (s : ByteArray) : Byt (bL s) := fun x hx => by
  obtain ⟨i, _, rfl⟩ := List.mem_map.1 hx
  have := i.toNat_lt
  omega
theorem bytk_mk (m : MkV) : Byt (mkKL m) := ((byt_num _).app (byt_num _)).app (byt_num _)
theorem byt_txt (s : ByteArray) (l : List MkV) : Byt (txtL s l) := (((byt_num _).app (byt_bL _)).app (byt_num _)).app (Byt.flat bytk_mk l)
theorem byt_sn (s : SnV) : Byt (snK s) := ((byt_b2 _).app (byt_txt _ _)).app (byt_num _)
theorem byt_se (s : SeV) : Byt (seK s) := ((byt_b2 _).app (byt_num _)).app (Byt.flat byt_sn _)
theorem byt_key (s : MS) : Byt (keyL s) := (((((byt_txt _ _).app (byt_num _)).app (byt_b2 _)).app (byt_num _)).app (byt_num _)).app (Byt.flat byt_se _)
theorem str_of (L : List Int) : (strOf L).data.toList = L.map (fun n => UInt8.ofNat n.toNat) := by
  have h : ∀ (L : List Int) (r : ByteArray), (L.foldl (fun r n => r.push (UInt8.ofNat n.toNat)) r).data.toList = r.data.toList ++ L.map (fun n => UInt8.ofNat n.toNat) := by
    intro L
    induction L with
    | nil => intro r; simp
    | cons x L ih => intro r; rw [List.foldl_cons, ih]; simp [ByteArray.push]
  unfold strOf; rw [h]; rfl
theorem strOf_inj {A B : List Int} (ha : Byt A) (hb : Byt B) (h : strOf A = strOf B) : A = B := by
  have h1 : A.map (fun n => UInt8.ofNat n.toNat) = B.map (fun n => UInt8.ofNat n.toNat) := by rw [← str_of, ← str_of, h]
  clear h
  induction A generalizing B with
  | nil => cases B with | nil => rfl | cons y B => simp at h1
  | cons x A ih =>
    cases B with
    | nil => simp at h1
    | cons y B =>
      rw [List.map_cons, List.map_cons] at h1
      injection h1 with h2 h3
      have e2 := congrArg UInt8.toNat h2
      have hx := ha x (by simp)
      have hy := hb y (by simp)
      simp only [UInt8.toNat_ofNat'] at e2
      have e3 : x = y := by
        rw [Nat.mod_eq_of_lt (by omega), Nat.mod_eq_of_lt (by omega)] at e2; omega
      rw [e3, ih (fun z hz => ha z (by simp [hz])) (fun z hz => hb z (by simp [hz])) h3]
theorem key_iff {s t : MS} {K J : Int} (hs : MSok s K) (ht : MSok t J) (hK : K ≤ 1000000) (hJ : J ≤ 1000000) : strOf (keyL s) = strOf (keyL t) ↔ s = t :=
  ⟨fun h => keyL_inj hs ht hK hJ (strOf_inj (byt_key s) (byt_key t) h), fun h => by rw [h]⟩
end Go.Proofs.YtdeiocppghhfdaaGreat
