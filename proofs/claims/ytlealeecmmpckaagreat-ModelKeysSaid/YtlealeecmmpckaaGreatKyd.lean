/- The texts RkP RcE. -/
import Derived.Test.YtlealeecmmpckaaGreatKva
import Derived.Test.YtlealeecmmpckaaGreatKxm
import Derived.Test.YtlealeecmmpckaaGreatKya
namespace Go.Proofs.YtlealeecmmpckaaGreat
set_option linter.unusedVariables false
set_option linter.unusedSimpArgs false
set_option maxRecDepth 100000
set_option maxHeartbeats 8000000
def InN (a : Int) : Prop := 0 ≤ a ∧ a < 9223372036854775808
theorem numL_inj {a b : Int} (ha : InN a) (hb : InN b) (h : numL a = numL b) : a = b := by
  have hw : ∀ x, InN x → IntKind.u64.wrap x = x := fun x hx => by
    obtain ⟨h1, h2⟩ := hx
    show x % 18446744073709551616 = x
    omega
  have e : ∀ i, i < 8 → a / 2 ^ (8 * i) % 256 = b / 2 ^ (8 * i) % 256 := fun i hi => by
    have h0 : ((numL a)[i]?) = ((numL b)[i]?) := by rw [h]
    unfold numL at h0
    rw [List.getElem?_map, List.getElem?_map, List.getElem?_range hi] at h0
    have h1 : nbB a i = nbB b i := by simpa using h0
    unfold nbB at h1
    rw [hw a ha, hw b hb] at h1
    exact h1
  obtain ⟨a1, a2⟩ := ha
  obtain ⟨b1, b2⟩ := hb
  have e0 := e 0 (by omega)
  have e1 := e 1 (by omega)
  have e2 := e 2 (by omega)
  have e3 := e 3 (by omega)
  have e4 := e 4 (by omega)
  have e5 := e 5 (by omega)
  have e6 := e 6 (by omega)
  have e7 := e 7 (by omega)
  clear e hw h
  simp only [Nat.mul_zero, Nat.mul_one, Nat.reduceMul, Int.reducePow, Int.pow_zero, Int.ediv_one] at e0 e1 e2 e3 e4 e5 e6 e7
  omega
theorem numL_cut {a b : Int} {X Y : List Int} (ha : InN a) (hb : InN b) (h : numL a ++ X = numL b ++ Y) : a = b ∧ X = Y := by
  obtain ⟨h1, h2⟩ := List.append_inj h (by rw [numL_len, numL_len])
  exact ⟨numL_inj ha hb h1, h2⟩
theorem b2_cut {a b : Bool} {X Y : List Int} (h : b2 a ++ X = b2 b ++ Y) : a = b ∧ X = Y := by
  cases a <;> cases b <;> simp [b2] at h ⊢ <;> exact h
theorem bL_inj {s t : ByteArray} (h : bL s = bL t) : s = t := by
  have h1 : s.data.toList = t.data.toList := by
    unfold bL at h
    refine List.map_inj_right (f := fun b : UInt8 => (b.toNat : Int)) (fun a b hab => ?_) |>.1 h
    exact UInt8.toNat_inj.1 (by have h3 : (a.toNat : Int) = (b.toNat : Int) := hab; omega)
  have h2 : s.data = t.data := Array.toList_inj.1 h1
  cases s; cases t; exact congrArg ByteArray.mk h2
theorem flat_cut {α : Type} (f : α → List Int) (P : α → Prop) (hf : ∀ a b X Y, P a → P b → f a ++ X = f b ++ Y → a = b ∧ X = Y) : ∀ (l k : List α) (X Y : List Int), l.length = k.length → (∀ x ∈ l, P x) → (∀ x ∈ k, P x) → l.flatMap f ++ X = k.flatMap f ++ Y → l = k ∧ X = Y
  | [], [], X, Y, _, _, _, h => ⟨rfl, by simpa using h⟩
  | [], _ :: _, _, _, h, _, _, _ => by simp at h
  | _ :: _, [], _, _, h, _, _, _ => by simp at h
  | a :: l, b :: k, X, Y, hl, ha, hb, h => by
    rw [List.flatMap_cons, List.flatMap_cons, List.append_assoc, List.append_assoc] at h
    obtain ⟨e1, e2⟩ := hf a b _ _ (ha a (by simp)) (hb b (by simp)) h
    obtain ⟨e3, e4⟩ := flat_cut f P hf l k X Y (by simpa using hl) (fun x hx => ha x (by simp [hx])) (fun x hx => hb x (by simp [hx])) e2
    exact ⟨by rw [e1, e3], e4⟩
def MkN (m : MkV) : Prop := InN m.id ∧ InN m.at_ ∧ InN m.grav
theorem mkK_cut (a b : MkV) (X Y : List Int) (ha : MkN a) (hb : MkN b) (h : mkKL a ++ X = mkKL b ++ Y) : a = b ∧ X = Y := by
  unfold mkKL at h
  simp only [List.append_assoc] at h
  obtain ⟨e1, h⟩ := numL_cut ha.1 hb.1 h
  obtain ⟨e2, h⟩ := numL_cut ha.2.1 hb.2.1 h
  obtain ⟨e3, hx⟩ := numL_cut ha.2.2 hb.2.2 h
  refine ⟨?_, hx⟩
  cases a; cases b; simp_all
theorem txtL_cut {s t : ByteArray} {l k : List MkV} {X Y : List Int} (hs : s.size ≤ 65536) (ht : t.size ≤ 65536) (hl : l.length ≤ 64) (hk : k.length ≤ 64) (hlm : ∀ m ∈ l, MkN m) (hkm : ∀ m ∈ k, MkN m) (h : txtL s l ++ X = txtL t k ++ Y) : s = t ∧ l = k ∧ X = Y := by
  unfold txtL at h
  simp only [List.append_assoc] at h
  obtain ⟨e1, h⟩ := numL_cut ⟨by omega, by omega⟩ ⟨by omega, by omega⟩ h
  obtain ⟨e2, h⟩ := List.append_inj h (by rw [bL_len, bL_len]; omega)
  obtain ⟨e3, h⟩ := numL_cut ⟨by omega, by omega⟩ ⟨by omega, by omega⟩ h
  obtain ⟨e4, h⟩ := flat_cut mkKL MkN mkK_cut l k X Y (by omega) hlm hkm h
  exact ⟨bL_inj e2, e4, h⟩
theorem mk_N {n : Int} (hn : n ≤ 65536) {l : List MkV} (h : MkOK n l) : ∀ m ∈ l, MkN m := fun m hm => by
  obtain ⟨h1, h2, h3, h4, h5⟩ := h.2.2 m hm
  refine ⟨⟨?_, ?_⟩, ⟨?_, ?_⟩, ⟨?_, ?_⟩⟩ <;> omega
theorem snK_cut (a b : SnV) (X Y : List Int) (ha : SnOK a) (hb : SnOK b) (h : snK a ++ X = snK b ++ Y) : a = b ∧ X = Y := by
  obtain ⟨a1, a2, a3, a4⟩ := ha
  obtain ⟨b1, b2, b3, b4⟩ := hb
  unfold snK at h
  simp only [List.append_assoc] at h
  obtain ⟨e1, h⟩ := b2_cut h
  obtain ⟨e2, e3, h⟩ := txtL_cut a1 b1 a2.1 b2.1 (mk_N (by omega) a2) (mk_N (by omega) b2) h
  obtain ⟨e4, hx⟩ := numL_cut ⟨by omega, by omega⟩ ⟨by omega, by omega⟩ h
  refine ⟨?_, hx⟩
  cases a; cases b; simp_all
def SeOK (r : Nat) (s : SeV) : Prop := s.slots.length = r ∧ r ≤ 8 ∧ ∀ x ∈ s.slots, SnOK x
theorem seK_cut (r : Nat) (a b : SeV) (X Y : List Int) (ha : SeOK r a) (hb : SeOK r b) (h : seK a ++ X = seK b ++ Y) : a = b ∧ X = Y := by
  obtain ⟨a1, a2, a3⟩ := ha
  obtain ⟨b1, b2, b3⟩ := hb
  unfold seK at h
  simp only [List.append_assoc] at h
  obtain ⟨e1, h⟩ := b2_cut h
  obtain ⟨e2, h⟩ := numL_cut ⟨by omega, by omega⟩ ⟨by omega, by omega⟩ h
  obtain ⟨e3, hx⟩ := flat_cut snK SnOK snK_cut _ _ _ _ (by omega) a3 b3 h
  refine ⟨?_, hx⟩
  cases a; cases b; simp_all
theorem keyL_inj {s t : MS} {K J : Int} (hs : MSok s K) (ht : MSok t J) (hK : K ≤ 1000000) (hJ : J ≤ 1000000) (h : keyL s = keyL t) : s = t := by
  have h0 : keyL s ++ [] = keyL t ++ [] := by rw [h]
  unfold keyL hdK at h0
  simp only [List.append_assoc] at h0
  have s1 := hs.num0
  have s2 := hs.num1
  have s3 := hs.readers
  have s4 := hs.clients
  have s5 := hs.size
  have t1 := ht.num0
  have t2 := ht.num1
  have t3 := ht.readers
  have t4 := ht.clients
  have t5 := ht.size
  obtain ⟨e1, e2, h0⟩ := txtL_cut s5 t5 hs.marks.1 ht.marks.1 (mk_N (by omega) hs.marks) (mk_N (by omega) ht.marks) h0
  obtain ⟨e3, h0⟩ := numL_cut ⟨s1, by omega⟩ ⟨t1, by omega⟩ h0
  obtain ⟨e4, h0⟩ := b2_cut h0
  obtain ⟨e5, h0⟩ := numL_cut ⟨by omega, by omega⟩ ⟨by omega, by omega⟩ h0
  obtain ⟨e6, h0⟩ := numL_cut ⟨by omega, by omega⟩ ⟨by omega, by omega⟩ h0
  have e5' : s.readers = t.readers := by omega
  obtain ⟨e7, _⟩ := flat_cut seK (SeOK t.readers) (seK_cut t.readers) s.seats t.seats [] [] (by omega) (fun x hx => ⟨(hs.slots x hx).1.trans e5', t3, (hs.slots x hx).2⟩) (fun x hx => ⟨(ht.slots x hx).1, t3, (ht.slots x hx).2⟩) h0
  cases s; cases t; simp_all
def Byt (L : List Int) : Prop := ∀ x ∈ L, 0 ≤ x ∧ x < 256
theorem Byt.app {A B : List Int} (h : Byt A) (k : Byt B) : Byt (A ++ B) := fun x hx => (List.mem_append.1 hx).elim (h x) (k x)
theorem Byt.flat {α : Type} {f : α → List Int} (h : ∀ a, Byt (f a)) (l : List α) : Byt (l.flatMap f) := fun x hx => by
  obtain ⟨a, _, hx⟩ := List.mem_flatMap.1 hx
  exact h a x hx
theorem byt_num (a : Int) : Byt (numL a) := fun x hx => by
  obtain ⟨i, _, rfl⟩ := List.mem_map.1 hx
  unfold nbB; omega
theorem byt_b2 (a : Bool) : Byt (b2 a) := fun x hx => by
  cases a <;> simp [b2] at hx <;> omega
theorem byt_bL (s : ByteArray) : Byt (bL s) := fun x hx => by
  obtain ⟨i, _, rfl⟩ := List.mem_map.1 hx
  have := i.toNat_lt
  omega
theorem bytk_mk (m : MkV) : Byt (mkKL m) := ((byt_num _).app (byt_num _)).app (byt_num _)
theorem byt_txt (s : ByteArray) (l : List MkV) : Byt (txtL s l) := (((byt_num _).app (byt_bL _)).app (byt_num _)).app (Byt.flat bytk_mk l)
theorem byt_sn (s : SnV) : Byt (snK s) := ((byt_b2 _).app (byt_txt _ _)).app (byt_num _)
theorem byt_se (s : SeV) : Byt (seK s) := ((byt_b2 _).app (byt_num _)).app (Byt.flat byt_sn _)
theorem byt_key (s : MS) : Byt (keyL s) := (((((byt_txt _ _).app (byt_num _)).app (byt_b2 _)).app (byt_num _)).app (byt_num _)).app (Byt.flat byt_se _)
theorem str_of (L : List Int) : (strOf L).data.toList = L.map (fun n => UInt8.ofNat n.toNat) := by
  have h : ∀ (L : List Int) (r : ByteArray), (L.foldl (fun r n => r.push (UInt8.ofNat n.toNat)) r).data.toList = r.data.toList ++ L.map (fun n => UInt8.ofNat n.toNat) := by
    intro L
    induction L with
    | nil => intro r; simp
    | cons x L ih => intro r; rw [List.foldl_cons, ih]; simp [ByteArray.push]
  unfold strOf; rw [h]; rfl
theorem strOf_inj {A B : List Int} (ha : Byt A) (hb : Byt B) (h : strOf A = strOf B) : A = B := by
  have h1 : A.map (fun n => UInt8.ofNat n.toNat) = B.map (fun n => UInt8.ofNat n.toNat) := by rw [← str_of, ← str_of, h]
  clear h
  induction A generalizing B with
  | nil => cases B with | nil => rfl | cons y B => simp at h1
  | cons x A ih =>
    cases B with
    | nil => simp at h1
    | cons y B =>
      rw [List.map_cons, List.map_cons] at h1
      injection h1 with h2 h3
      have e2 := congrArg UInt8.toNat h2
      have hx := ha x (by simp)
      have hy := hb y (by simp)
      simp only [UInt8.toNat_ofNat'] at e2
      have e3 : x = y := by
        rw [Nat.mod_eq_of_lt (by omega), Nat.mod_eq_of_lt (by omega)] at e2; omega
      rw [e3, ih (fun z hz => ha z (by simp [hz])) (fun z hz => hb z (by simp [hz])) h3]
theorem key_iff {s t : MS} {K J : Int} (hs : MSok s K) (ht : MSok t J) (hK : K ≤ 1000000) (hJ : J ≤ 1000000) : strOf (keyL s) = strOf (keyL t) ↔ s = t :=
  ⟨fun h => keyL_inj hs ht hK hJ (strOf_inj (byt_key s) (byt_key t) h), fun h => by rw [h]⟩
theorem key_ne (s : MS) : strOf (keyL s) ≠ ⟨#[]⟩ := fun h => by
  have h1 := str_of (keyL s)
  rw [h] at h1
  have h2 := congrArg List.length h1
  rw [List.length_map] at h2
  unfold keyL hdK at h2
  simp only [List.length_append, txtL_len, numL_len] at h2
  simp at h2
  omega
end Go.Proofs.YtlealeecmmpckaaGreat
namespace Go.Proofs.YtlealeecmmpckaaGreat
set_option linter.unusedVariables false
set_option linter.unusedSimpArgs false
set_option maxRecDepth 100000
set_option maxHeartbeats 8000000
open Go.RowKit Go.Lib Go.Shelf
theorem RdAt.beside {W W' : World} {b b2 : Nat} {M N : RM} (h : RdAt W b M) (h2 : RdAt W b2 N) (hk : KeepF (M.fp b) W W') (hd : ∀ k, N.fp b2 k → ¬ M.fp b k) : RdAt W' b2 N := by
  have own : ∀ {B s n : Nat} {e : TypeId} {v : Value} {xs : List Value}, W.ownsRow B e s v n xs → (∀ k, v.ownBlock = some k → ¬ M.fp b k) → W'.ownsRow B e s v n xs := fun {B s n e v xs} ho hv => by
    refine ⟨ho.1, ?_⟩
    rcases ho.2 with hn | ⟨g, cap, cur, rfl, hB, hg, rest⟩
    · exact .inl hn
    · exact .inr ⟨g, cap, cur, rfl, hB, (hk.block g (Array.getElem?_eq_some_iff.1 hg).1 (hv g rfl)).trans hg, rest⟩
  refine ⟨(hk.block b2 (Array.getElem?_eq_some_iff.1 h2.blk).1 (hd _ (.inl rfl))).trans h2.blk, h.keepOwn hk h2.marks (by decide) (by decide) (by decide), own h2.subs (fun k hk => hd k (.inr (.inl hk))), h.keepOwn hk h2.snaps (by decide) (by decide) (by decide), fun S hS => own (h2.slots S hS) (fun k hk => hd k (.inr (.inr ⟨S, hS, hk⟩))), fun S hS x hx => h.keepOwn hk (h2.smarks S hS x hx) (by decide) (by decide) (by decide), h2.some_, h2.nodup⟩
abbrev DisM (p q : Nat × MM) : Prop := ∀ k, p.2.fp p.1 k → ¬ q.2.fp q.1 k
abbrev DisR (p q : Nat × RM) : Prop := ∀ k, p.2.fp p.1 k → ¬ q.2.fp q.1 k
structure Grp (w0 W : World) (Ms : List (Nat × MM)) (Rs : List (Nat × RM)) : Prop where
  m : ∀ p ∈ Ms, Run w0 W p.1 p.2
  r : ∀ p ∈ Rs, RRun w0 W p.1 p.2
  dm : Ms.Pairwise DisM
  dr : Rs.Pairwise DisR
  bl : Below w0.heap.size w0 W
theorem Grp.on {w0 W W' : World} {Ms : List (Nat × MM)} {Rs : List (Nat × RM)} (h : Grp w0 W Ms Rs) (hb : Below W.heap.size W W') : Grp w0 W' Ms Rs := ⟨fun p hp => (h.m p hp).on hb, fun p hp => (h.r p hp).on hb, h.dm, h.dr, h.bl.trans (hb.mono h.bl.size)⟩
theorem disM_symm {p q : Nat × MM} (h : DisM p q) : DisM q p := fun k hk hn => h k hn hk
theorem disR_symm {p q : Nat × RM} (h : DisR p q) : DisR q p := fun k hk hn => h k hn hk
theorem Grp.perm {w0 W : World} {Ms Ms' : List (Nat × MM)} {Rs Rs' : List (Nat × RM)} (h : Grp w0 W Ms Rs) (hm : Ms.Perm Ms') (hr : Rs.Perm Rs') : Grp w0 W Ms' Rs' :=
  ⟨fun p hp => h.m p (hm.mem_iff.2 hp), fun p hp => h.r p (hr.mem_iff.2 hp), h.dm.perm hm (fun h => disM_symm h), h.dr.perm hr (fun h => disR_symm h), h.bl⟩
theorem Grp.addM {w0 W W' : World} {Ms : List (Nat × MM)} {Rs : List (Nat × RM)} {b : Nat} {M : MM} (h : Grp w0 W Ms Rs) (hb : Below W.heap.size W W') (hM : MdAt W' b M) (hf : ∀ k, M.fp b k → W.heap.size ≤ k) : Grp w0 W' ((b, M) :: Ms) Rs := by
  have h' := h.on hb
  refine ⟨fun p hp => ?_, h'.r, List.Pairwise.cons (fun q hq k hk hn => ?_) h.dm, h.dr, h'.bl⟩
  · rcases List.mem_cons.1 hp with rfl | hp
    · exact ⟨hM, fun k hk => Nat.le_trans h.bl.size (hf k hk), h'.bl⟩
    · exact h'.m p hp
  · have h1 := hf k hk
    have h2 := (h.m q hq).at_.fp_lt hn
    omega
theorem Grp.addR {w0 W W' : World} {Ms : List (Nat × MM)} {Rs : List (Nat × RM)} {b : Nat} {M : RM} (h : Grp w0 W Ms Rs) (hb : Below W.heap.size W W') (hM : RdAt W' b M) (hf : ∀ k, M.fp b k → W.heap.size ≤ k) : Grp w0 W' Ms ((b, M) :: Rs) := by
  have h' := h.on hb
  refine ⟨h'.m, fun p hp => ?_, h.dm, List.Pairwise.cons (fun q hq k hk hn => ?_) h.dr, h'.bl⟩
  · rcases List.mem_cons.1 hp with rfl | hp
    · exact ⟨hM, fun k hk => Nat.le_trans h.bl.size (hf k hk), h'.bl⟩
    · exact h'.r p hp
  · have h1 := hf k hk
    have h2 := (h.r q hq).at_.fp_lt hn
    omega
theorem Grp.doM {w0 W : World} {b : Nat} {M : MM} {Ms : List (Nat × MM)} {Rs : List (Nat × RM)} {c : Int} {q : OpV} {K : Int} (h : Grp w0 W ((b, M) :: Ms) Rs) (hok : MSok M.st K) (hK : K ≤ 100000) (hi : OpIn q) :
    Calls Tryz.prog 16 #[.pointer (some ⟨b, 0, none⟩), .int .i64 c, .agg #[.int .u8 q.kind, .int .i64 q.slot, .int .i64 q.at_, .int .i64 q.n, .int .u32 q.id, .int .u8 q.grav, .string q.text]] W fun e W' => ∃ M', e = .returned (.agg (resL (doS M.st c q).1).toArray) ∧ Grp w0 W' ((b, M') :: Ms) Rs ∧ M'.st = (doS M.st c q).2 := by
  have hM := h.m (b, M) (by simp)
  have hp := List.pairwise_cons.1 h.dm
  refine (do_any b c M q W hM.at_ (hok.mono hK) hi).mono ?_
  rintro e W' ⟨rfl, M', hM', hs, hk, hf⟩
  have hbl := hM.keep hk
  refine ⟨M', rfl, ⟨fun p hp' => ?_, fun p hp' => ⟨hM.at_.keepRd hk (h.r p hp').at_, (h.r p hp').own, hbl⟩, List.Pairwise.cons (fun q' hq k hk' hn => ?_) hp.2, h.dr, hbl⟩, hs⟩
  · rcases List.mem_cons.1 hp' with rfl | hp'
    · exact ⟨hM', fun k hk => (hf k hk).elim (hM.own k) (fun h' => Nat.le_trans h.bl.size h'), hbl⟩
    · exact ⟨hM.at_.beside (h.m p (by simp [hp'])).at_ hk (fun k hk hn => hp.1 p hp' k hn hk), (h.m p (by simp [hp'])).own, hbl⟩
  · rcases hf k hk' with h1 | h1
    · exact hp.1 q' hq k h1 hn
    · have := (h.m q' (by simp [hq])).at_.fp_lt hn; omega
theorem Grp.doR {w0 W : World} {b : Nat} {M : RM} {Ms : List (Nat × MM)} {Rs : List (Nat × RM)} {c : Int} {q : OpV} {K : Int} (h : Grp w0 W Ms ((b, M) :: Rs)) (hok : MSok M.st K) (hK : K ≤ 100000) (hi : OpIn q) :
    Calls Tryz.prog 23 #[.pointer (some ⟨b, 0, none⟩), .int .i64 c, .agg #[.int .u8 q.kind, .int .i64 q.slot, .int .i64 q.at_, .int .i64 q.n, .int .u32 q.id, .int .u8 q.grav, .string q.text]] W fun e W' => ∃ M', e = .returned (.agg (resL (doS M.st c q).1).toArray) ∧ Grp w0 W' Ms ((b, M') :: Rs) ∧ M'.st = (doS M.st c q).2 := by
  have hM := h.r (b, M) (by simp)
  have hp := List.pairwise_cons.1 h.dr
  refine (rdo_any b c M q W hM.at_ (hok.mono hK) hi).mono ?_
  rintro e W' ⟨rfl, M', hM', hs, hk, hf⟩
  have hbl := hM.keep hk
  refine ⟨M', rfl, ⟨fun p hp' => ⟨hM.at_.keepMd hk (h.m p hp').at_, (h.m p hp').own, hbl⟩, fun p hp' => ?_, h.dm, List.Pairwise.cons (fun q' hq k hk' hn => ?_) hp.2, hbl⟩, hs⟩
  · rcases List.mem_cons.1 hp' with rfl | hp'
    · exact ⟨hM', fun k hk => (hf k hk).elim (hM.own k) (fun h' => Nat.le_trans h.bl.size h'), hbl⟩
    · exact ⟨hM.at_.beside (h.r p (by simp [hp'])).at_ hk (fun k hk hn => hp.1 p hp' k hn hk), (h.r p (by simp [hp'])).own, hbl⟩
  · rcases hf k hk' with h1 | h1
    · exact hp.1 q' hq k h1 hn
    · have := (h.r q' (by simp [hq])).at_.fp_lt hn; omega
theorem Grp.copyM {w0 W : World} {b : Nat} {M : MM} {Ms : List (Nat × MM)} {Rs : List (Nat × RM)} {K : Int} (h : Grp w0 W Ms Rs) (hm : (b, M) ∈ Ms) (hok : MSok M.st K) : Calls Tryz.prog 15 #[.pointer (some ⟨b, 0, none⟩)] W fun e W' => ∃ b2 N, e = .returned (.pointer (some ⟨b2, 0, none⟩)) ∧ Grp w0 W' ((b2, N) :: Ms) Rs ∧ N.st = M.st := by
  refine (copy_any b M W K (h.m _ hm).at_ hok).mono ?_
  rintro e W' ⟨b2, N, rfl, hN, hst, hb, hf⟩
  exact ⟨b2, N, rfl, h.addM hb hN hf, hst⟩
theorem Grp.copyR {w0 W : World} {b : Nat} {M : RM} {Ms : List (Nat × MM)} {Rs : List (Nat × RM)} {K : Int} (h : Grp w0 W Ms Rs) (hm : (b, M) ∈ Rs) (hok : MSok M.st K) : Calls Tryz.prog 25 #[.pointer (some ⟨b, 0, none⟩)] W fun e W' => ∃ b2 N, e = .returned (.pointer (some ⟨b2, 0, none⟩)) ∧ Grp w0 W' Ms ((b2, N) :: Rs) ∧ N.st = M.st := by
  refine (rcopy_any b M W (h.r _ hm).at_ hok).mono ?_
  rintro e W' ⟨b2, N, rfl, hN, hst, hb, hf⟩
  exact ⟨b2, N, rfl, h.addR hb hN hf, hst⟩
end Go.Proofs.YtlealeecmmpckaaGreat
