/- Encode and Decode of runes and of its reference: what each call returns. -/
import Derived.Test.YtmachjjnhphhbaaRunesA
namespace Go.Proofs.Ytmachjjnhphhbaa
open Go.RowKit

theorem conv_list (W : World) (ns : List Int) (c : Nat) : (convert 43 9 (.slice (some ⟨W.heap.size, 0, none⟩) ns.length c)).run Try.prog (W.alloc (.cells (ns.map (Value.int .u8)).toArray 5)) = .ok (.string ⟨(ns.map toByte).toArray⟩) (W.alloc (.cells (ns.map (Value.int .u8)).toArray 5)) := by
  rw [run_convert_bytes_string _ _ _ 5 _ _ _ Try.underlying43 Try.underlying5 Try.underlying9]
  have hl := run_loadCells_list (P := Try.prog) (W.alloc (.cells (ns.map (Value.int .u8)).toArray 5)) ⟨W.heap.size, 0, none⟩ (ns.map (Value.int .u8)) (fun j v hj => by
    have e : (⟨W.heap.size, 0, none⟩ : Addr).add j = ⟨W.heap.size, j, none⟩ := by unfold Addr.add; split <;> simp_all
    rw [e, World.cell?_alloc_new]; simpa using hj)
  simp only [List.length_map] at hl
  rw [run_bytesToString _ _ ns.length c _ hl]
  have key : ∀ (ns : List Int) (r : ByteArray), ns.foldl (fun r n => r.push (UInt8.ofNat n.toNat)) r = ⟨r.data ++ (ns.map toByte).toArray⟩ := by
    intro ns
    induction ns with
    | nil => intro r; simp
    | cons n ns ih =>
      intro r
      simp only [List.foldl_cons, ih, List.map_cons]
      simp [ByteArray.push, toByte]
  rw [key]
  show Result.ok (Value.string ⟨#[] ++ _⟩) _ = _
  rw [Array.empty_append]

theorem conv1 (W : World) (a : Int) : (convert 43 9 (.slice (some ⟨W.heap.size, 0, none⟩) 1 1)).run Try.prog (W.alloc (.cells #[.int .u8 a] 5)) = .ok (.string ⟨#[toByte a]⟩) (W.alloc (.cells #[.int .u8 a] 5)) := conv_list W [a] 1
theorem conv2 (W : World) (a b : Int) : (convert 43 9 (.slice (some ⟨W.heap.size, 0, none⟩) 2 2)).run Try.prog (W.alloc (.cells #[.int .u8 a, .int .u8 b] 5)) = .ok (.string ⟨#[toByte a, toByte b]⟩) (W.alloc (.cells #[.int .u8 a, .int .u8 b] 5)) := conv_list W [a, b] 2
theorem conv3 (W : World) (a b c : Int) : (convert 43 9 (.slice (some ⟨W.heap.size, 0, none⟩) 3 3)).run Try.prog (W.alloc (.cells #[.int .u8 a, .int .u8 b, .int .u8 c] 5)) = .ok (.string ⟨#[toByte a, toByte b, toByte c]⟩) (W.alloc (.cells #[.int .u8 a, .int .u8 b, .int .u8 c] 5)) := conv_list W [a, b, c] 3
theorem conv4 (W : World) (a b c d : Int) : (convert 43 9 (.slice (some ⟨W.heap.size, 0, none⟩) 4 4)).run Try.prog (W.alloc (.cells #[.int .u8 a, .int .u8 b, .int .u8 c, .int .u8 d] 5)) = .ok (.string ⟨#[toByte a, toByte b, toByte c, toByte d]⟩) (W.alloc (.cells #[.int .u8 a, .int .u8 b, .int .u8 c, .int .u8 d] 5)) := conv_list W [a, b, c, d] 4

theorem bits_and (a b : Nat) (ha : a < 9223372036854775808) (hb : b < 9223372036854775808) : bits .and .i64 (a : Int) (b : Int) = ((a &&& b : Nat) : Int) := by
  have hx : a &&& b < 2 ^ 63 := Nat.and_lt_two_pow _ (by omega)
  show IntKind.i64.wrap ((BitVec.ofInt 64 (a : Int) &&& BitVec.ofInt 64 (b : Int)).toNat : Int) = _
  rw [BitVec.toNat_and, BitVec.ofInt_natCast, BitVec.toNat_ofNat, BitVec.ofInt_natCast, BitVec.toNat_ofNat, Nat.mod_eq_of_lt (by omega), Nat.mod_eq_of_lt (by omega), IntKind.wrap_i64]
  omega
theorem bits_or (a b : Nat) (ha : a < 9223372036854775808) (hb : b < 9223372036854775808) : bits .or .i64 (a : Int) (b : Int) = ((a ||| b : Nat) : Int) := by
  have hx : a ||| b < 2 ^ 63 := Nat.or_lt_two_pow (by omega) (by omega)
  show IntKind.i64.wrap ((BitVec.ofInt 64 (a : Int) ||| BitVec.ofInt 64 (b : Int)).toNat : Int) = _
  rw [BitVec.toNat_or, BitVec.ofInt_natCast, BitVec.toNat_ofNat, BitVec.ofInt_natCast, BitVec.toNat_ofNat, Nat.mod_eq_of_lt (by omega), Nat.mod_eq_of_lt (by omega), IntKind.wrap_i64]
  omega
/-- The low bits. -/
theorem bits_low (k : Nat) (x : Int) (hk : k ≤ 62) (h0 : 0 ≤ x) (h1 : x < 9223372036854775808) : bits .and .i64 x ((2 ^ k - 1 : Nat) : Int) = x % ((2 ^ k : Nat) : Int) := by
  obtain ⟨n, rfl⟩ := Int.eq_ofNat_of_zero_le h0
  have h2 : 2 ^ k ≤ 2 ^ 62 := Nat.pow_le_pow_right (by omega) hk
  rw [bits_and n _ (by omega) (by omega), Nat.and_two_pow_sub_one_eq_mod]
  simp
theorem bits_low6 (x : Int) (h0 : 0 ≤ x) (h1 : x < 9223372036854775808) : bits .and .i64 x 63 = x % 64 := bits_low 6 x (by omega) h0 h1
/-- High bits and low bits. -/
theorem bits_join (k a : Nat) (y : Int) (hk : k ≤ 62) (ha : 2 ^ k * a < 9223372036854775808) (h0 : 0 ≤ y) (h1 : y < ((2 ^ k : Nat) : Int)) : bits .or .i64 ((2 ^ k * a : Nat) : Int) y = ((2 ^ k * a : Nat) : Int) + y := by
  obtain ⟨n, rfl⟩ := Int.eq_ofNat_of_zero_le h0
  have h2 : 2 ^ k ≤ 2 ^ 62 := Nat.pow_le_pow_right (by omega) hk
  rw [bits_or _ n ha (by omega), ← Nat.two_pow_add_eq_or_of_lt (by omega)]
  simp
theorem join2 (y : Int) (h0 : 0 ≤ y) (h1 : y < 64) : bits .or .i64 128 y = 128 + y := bits_join 6 2 y (by omega) (by omega) h0 h1
theorem join3 (y : Int) (h0 : 0 ≤ y) (h1 : y < 64) : bits .or .i64 192 y = 192 + y := bits_join 6 3 y (by omega) (by omega) h0 h1
theorem join7 (y : Int) (h0 : 0 ≤ y) (h1 : y < 32) : bits .or .i64 224 y = 224 + y := bits_join 5 7 y (by omega) (by omega) h0 h1
theorem join15 (y : Int) (h0 : 0 ≤ y) (h1 : y < 16) : bits .or .i64 240 y = 240 + y := bits_join 4 15 y (by omega) (by omega) h0 h1
theorem and960 : bits .and .i64 960 255 = 192 := by decide
theorem and480 : bits .and .i64 480 255 = 224 := by decide
theorem and240 : bits .and .i64 240 255 = 240 := by decide

theorem ret_enc {r : Int} {l : List UInt8} {a : Int} (h1 : l = encL r) (h2 : a = encE r) : Ending.returned (.tuple #[.string ⟨l.toArray⟩, .int .i64 a]) = .returned (.tuple #[.string ⟨(encL r).toArray⟩, .int .i64 (encE r)]) := by rw [h1, h2]
theorem below1 (w : World) (o : Obj) : Below w.heap.size w (w.alloc o) := (Below.refl _ _).alloc (Nat.le_refl _) _

set_option maxHeartbeats 400000 in
theorem refEncode_any (r : Int) (w : World) : Calls Try.prog 22 #[.int .i64 r] w fun e w' => e = .returned (.tuple #[.string ⟨(encL r).toArray⟩, .int .i64 (encE r)]) ∧ Below w.heap.size w w' := by
  have k1 := conv1
  have k2 := conv2
  have k3 := conv3
  have k4 := conv4
  by_cases h0 : runeB r = true
  · have hr := runeB_bd h0
    obtain ⟨hr1, hr2⟩ := hr
    go_enter Try.func22, Try.ntmps22
    go_wp2_with (go_at_call 33; refine (refRune_any _ _).mono ?_; rintro e w' ⟨rfl, rfl⟩)
    all_goals (go_returns; refine ⟨ret_enc ?_ ?_, below1 _ _⟩ <;> simp only [encL, encE, h0])
    all_goals first | rfl | (rw [if_neg (by simp), if_pos (by omega)]) | (rw [if_neg (by simp), if_neg (by omega), if_pos (by omega)]) | (rw [if_neg (by simp), if_neg (by omega), if_neg (by omega), if_pos (by omega)]) | (rw [if_neg (by simp), if_neg (by omega), if_neg (by omega), if_neg (by omega)]) | (rw [if_neg (by simp)])
  · have h0 : runeB r = false := by simpa using h0
    go_enter Try.func22, Try.ntmps22
    go_wp2_with (go_at_call 33; refine (refRune_any _ _).mono ?_; rintro e w' ⟨rfl, rfl⟩)
    go_returns
    exact ⟨by simp [encL, encE, h0], Below.refl _ _⟩

set_option maxHeartbeats 1000000 in
theorem encode_any (r : Int) (w : World) : Calls Try.prog 21 #[.int .i64 r] w fun e w' => e = .returned (.tuple #[.string ⟨(encL r).toArray⟩, .int .i64 (encE r)]) ∧ Below w.heap.size w w' := by
  have k1 := conv1
  have k2 := conv2
  have k3 := conv3
  have k4 := conv4
  have hmk2 : ∀ w, (Instr.makeSlice 43 (.int .i64 2) (.int .i64 2)).run Try.prog w = .ok (.slice (some ⟨w.heap.size, 0, none⟩) 2 2) (w.alloc (.cells #[.int .u8 0, .int .u8 0] 5)) := fun _ => by kernel_rfl
  have hmk3 : ∀ w, (Instr.makeSlice 43 (.int .i64 3) (.int .i64 3)).run Try.prog w = .ok (.slice (some ⟨w.heap.size, 0, none⟩) 3 3) (w.alloc (.cells #[.int .u8 0, .int .u8 0, .int .u8 0] 5)) := fun _ => by kernel_rfl
  have hmk4 : ∀ w, (Instr.makeSlice 43 (.int .i64 4) (.int .i64 4)).run Try.prog w = .ok (.slice (some ⟨w.heap.size, 0, none⟩) 4 4) (w.alloc (.cells #[.int .u8 0, .int .u8 0, .int .u8 0, .int .u8 0] 5)) := fun _ => by kernel_rfl
  have hL := len_of (r := r) rfl
  rcases hL with ⟨h0, hr⟩ | ⟨hr, hr0, ⟨h0, hr1⟩ | ⟨h0, hr1, hr2⟩ | ⟨h0, hr1, hr2⟩ | ⟨h0, hr1, hr2⟩⟩
  all_goals
    have H0 := Lib.hid h0; clear h0
    go_enter Try.func21, Try.ntmps21
    go_wp2_with (go_at_call 32; refine (length_any _ _).mono ?_; rw [H0.out]; rintro e w' ⟨rfl, rfl⟩)
  · go_returns
    exact ⟨by simp [encL, encE, hr], Below.refl _ _⟩
  · go_returns
    exact ⟨by simp [encL, encE, hr, hr1], below1 _ _⟩
  · go_rounds 4
    go_returns
    refine ⟨ret_enc ?_ (by simp [encE, hr]), below1 _ _⟩
    rw [bits_low6 _ (by omega) (by omega), join2 _ (by omega) (by omega), and960, join3 _ (by omega) (by omega)]
    rw [Int.emod_eq_of_lt (b := 256) (by omega) (by omega), Int.emod_eq_of_lt (b := 256) (by omega) (by omega)]
    unfold encL
    rw [if_neg (by simp [hr]), if_neg (by omega), if_pos (by omega)]
  · go_rounds 4
    go_returns
    refine ⟨ret_enc ?_ (by simp [encE, hr]), below1 _ _⟩
    rw [bits_low6 r (by omega) (by omega), bits_low6 (r / 64) (by omega) (by omega), join2 (r % 64) (by omega) (by omega), join2 (r / 64 % 64) (by omega) (by omega), and480, join7 _ (by omega) (by omega)]
    rw [Int.emod_eq_of_lt (b := 256) (by omega) (by omega), Int.emod_eq_of_lt (b := 256) (by omega) (by omega), Int.emod_eq_of_lt (b := 256) (by omega) (by omega)]
    unfold encL
    rw [if_neg (by simp [hr]), if_neg (by omega), if_neg (by omega), if_pos (by omega), show r / 64 / 64 = r / 4096 from by omega]
  · go_rounds 4
    go_returns
    refine ⟨ret_enc ?_ (by simp [encE, hr]), below1 _ _⟩
    rw [bits_low6 r (by omega) (by omega), bits_low6 (r / 64) (by omega) (by omega), bits_low6 (r / 64 / 64) (by omega) (by omega), join2 (r % 64) (by omega) (by omega), join2 (r / 64 % 64) (by omega) (by omega), join2 (r / 64 / 64 % 64) (by omega) (by omega), and240, join15 _ (by omega) (by omega)]
    rw [Int.emod_eq_of_lt (b := 256) (by omega) (by omega), Int.emod_eq_of_lt (b := 256) (by omega) (by omega), Int.emod_eq_of_lt (b := 256) (by omega) (by omega), Int.emod_eq_of_lt (b := 256) (by omega) (by omega)]
    unfold encL
    rw [if_neg (by simp [hr]), if_neg (by omega), if_neg (by omega), if_neg (by omega), show r / 64 / 64 / 64 = r / 262144 from by omega, show r / 64 / 64 = r / 4096 from by omega]

theorem ret_dec {l : List UInt8} {a b c : Int} (h : decL l = (a, b, c)) : Ending.returned (.tuple #[.int .i64 a, .int .i64 b, .int .i64 c]) = .returned (.tuple #[.int .i64 (decL l).1, .int .i64 (decL l).2.1, .int .i64 (decL l).2.2]) := by rw [h]

theorem or64 (x y : Int) (h0 : 0 ≤ x) (h1 : x < 1048576) (h2 : 0 ≤ y) (h3 : y < 64) : bits .or .i64 (x * 64) y = x * 64 + y := by
  obtain ⟨n, rfl⟩ := Int.eq_ofNat_of_zero_le h0
  have h := bits_join 6 n y (by omega) (by omega) h2 h3
  have e : ((2 ^ 6 * n : Nat) : Int) = (n : Int) * 64 := by omega
  rw [e] at h
  exact h

theorem isEmpty_of_pos {s : ByteArray} (h : 0 < s.size) : s.toList.isEmpty = false := by
  rw [← decide_eq_emptyBytes]
  simp
  rintro rfl
  simp at h

set_option maxHeartbeats 1000000 in
theorem decode_any (s : ByteArray) (w : World) : Calls Try.prog 19 #[.string s] w fun e w' => e = .returned (.tuple #[.int .i64 (decL s.data.toList).1, .int .i64 (decL s.data.toList).2.1, .int .i64 (decL s.data.toList).2.2]) ∧ w = w' := by
  by_cases hs0 : s.size = 0
  · have : s = ByteArray.empty := by apply ByteArray.ext; apply Array.toList_inj.1; apply List.eq_nil_of_length_eq_zero; simpa using hs0
    subst this
    clear hs0
    go_enter Try.func19, Try.ntmps19
    go_wp2
    go_returns
    exact ⟨ret_dec rfl, rfl⟩
  have hs : 0 < s.size := by omega
  clear hs0
  have hne := isEmpty_of_pos hs
  have hb0 := byt_mk s 0 hs
  have l0 := byt_lo s.data.toList 0
  have u0 := byt_hi s.data.toList 0
  have hl : s.data.toList.length = s.size := by simp
  have HL := Lib.hid hl; clear hl
  have hA := ann_of (b := byt s.data.toList 0) rfl
  have e1 : bits .and .i64 (byt s.data.toList 0) 31 = byt s.data.toList 0 % 32 := bits_low 5 _ (by omega) (by omega) (by omega)
  have e2 : bits .and .i64 (byt s.data.toList 0) 15 = byt s.data.toList 0 % 16 := bits_low 4 _ (by omega) (by omega) (by omega)
  have e3 : bits .and .i64 (byt s.data.toList 0) 7 = byt s.data.toList 0 % 8 := bits_low 3 _ (by omega) (by omega) (by omega)
  generalize hn : annB (byt s.data.toList 0) = n at hA
  have Hn := Lib.hid hn; clear hn
  by_cases hlong : (s.size : Int) < n
  · have hn0 : (n == 0) = false := by simp; omega
    have Hl := Lib.hid hlong
    clear hA
    go_enter Try.func19, Try.ntmps19
    go_wp2_with (first | (go_at_call 31; refine (announced_any _ _).mono ?_; rw [Hn.out]; rintro e w' ⟨rfl, rfl⟩))
    go_returns
    refine ⟨ret_dec (dec_no (by rw [HL.out]; exact hs) ?_), rfl⟩
    rw [Hn.out, HL.out]
    exact .inr Hl.out
  have hfit : n ≤ s.size := by omega
  clear hlong
  rcases hA with h | ⟨h, hb⟩ | ⟨h, hb⟩ | ⟨h, hb⟩ | ⟨h, hb⟩
  · subst h
    go_enter Try.func19, Try.ntmps19
    go_wp2_with (first | (go_at_call 31; refine (announced_any _ _).mono ?_; rw [Hn.out]; rintro e w' ⟨rfl, rfl⟩))
    go_returns
    refine ⟨ret_dec (dec_no (by rw [HL.out]; exact hs) (.inl Hn.out)), rfl⟩
  · subst h
    have hL : lenB (byt s.data.toList 0) = 1 := by
      unfold lenB runeB
      rw [if_neg (by simp; omega), if_pos hb]
    have HLB := Lib.hid hL; clear hL hfit e1 e2 e3
    have hd : decide ((s.size : Int) < 1) = false := by simp; omega
    go_enter Try.func19, Try.ntmps19
    go_wp2_with (first | (go_at_call 31; refine (announced_any _ _).mono ?_; rw [Hn.out]; rintro e w' ⟨rfl, rfl⟩))
    refine wp_loop_rounds 1 ?_
    rw [rounds_succ]
    go_wp2_with (go_at_call 32; refine (length_any _ _).mono ?_; rw [HLB.out]; rintro e w' ⟨rfl, rfl⟩)
    go_returns
    exact ⟨ret_dec (dec_yes Hn.out (by omega) (by rw [HL.out]; omega) (by simp [decR]) (by simp [decC]) HLB.out), rfl⟩
  · subst h
    obtain ⟨hlo, hhi⟩ := hb
    have hb1 := byt_mk s 1 (by omega)
    have l1 := byt_lo s.data.toList 1
    have u1 := byt_hi s.data.toList 1
    have f1 := or64 (byt s.data.toList 0 % 32) (byt s.data.toList 1 % 64) (by omega) (by omega) (by omega) (by omega)
    go_enter Try.func19, Try.ntmps19
    go_wp2_with (first | (go_at_call 31; refine (announced_any _ _).mono ?_; rw [Hn.out]; rintro e w' ⟨rfl, rfl⟩))
    refine wp_loop_rounds 4 ?_
    repeat any_goals (rw [rounds_succ]; go_wp2_with (first | (go_at_call 29; refine (continues_any _ _).mono ?_; rintro e w' ⟨rfl, rfl⟩) | (go_at_call 32; refine (length_any _ _).mono ?_; rintro e w' ⟨rfl, rfl⟩)))
    · go_returns
      refine ⟨ret_dec (dec_cut Hn.out (by omega) (by rw [HL.out]; omega) fun h => ?_), rfl⟩
      exact absurd h (by unfold decC; simp_all)
    · go_returns
      refine ⟨ret_dec (dec_cut Hn.out (by omega) (by rw [HL.out]; omega) fun _ => ?_), rfl⟩
      have c1 := cont_bd (b := byt s.data.toList 1) (by simp_all)
      have ex : byt s.data.toList 0 % 32 * 64 + byt s.data.toList 1 % 64 = decR s.data.toList 2 := by
        unfold decR; simp; omega
      rw [← ex]
      simp_all
    · go_returns
      have c1 := cont_bd (b := byt s.data.toList 1) (by simp_all)
      have ex : byt s.data.toList 0 % 32 * 64 + byt s.data.toList 1 % 64 = decR s.data.toList 2 := by
        unfold decR; simp; omega
      exact ⟨ret_dec (dec_yes Hn.out (by omega) (by rw [HL.out]; omega) ex.symm (by unfold decC; simp_all) (by simp_all)), rfl⟩
  · subst h
    obtain ⟨hlo, hhi⟩ := hb
    have hb1 := byt_mk s 1 (by omega)
    have l1 := byt_lo s.data.toList 1
    have u1 := byt_hi s.data.toList 1
    have hb2 := byt_mk s 2 (by omega)
    have l2 := byt_lo s.data.toList 2
    have u2 := byt_hi s.data.toList 2
    have f1 := or64 (byt s.data.toList 0 % 16) (byt s.data.toList 1 % 64) (by omega) (by omega) (by omega) (by omega)
    have f2 := or64 (byt s.data.toList 0 % 16 * 64 + byt s.data.toList 1 % 64) (byt s.data.toList 2 % 64) (by omega) (by omega) (by omega) (by omega)
    go_enter Try.func19, Try.ntmps19
    go_wp2_with (first | (go_at_call 31; refine (announced_any _ _).mono ?_; rw [Hn.out]; rintro e w' ⟨rfl, rfl⟩))
    refine wp_loop_rounds 4 ?_
    repeat any_goals (rw [rounds_succ]; go_wp2_with (first | (go_at_call 29; refine (continues_any _ _).mono ?_; rintro e w' ⟨rfl, rfl⟩) | (go_at_call 32; refine (length_any _ _).mono ?_; rintro e w' ⟨rfl, rfl⟩)))
    · go_returns
      refine ⟨ret_dec (dec_cut Hn.out (by omega) (by rw [HL.out]; omega) fun h => ?_), rfl⟩
      exact absurd h (by unfold decC; simp_all)
    · go_returns
      refine ⟨ret_dec (dec_cut Hn.out (by omega) (by rw [HL.out]; omega) fun h => ?_), rfl⟩
      exact absurd h (by unfold decC; simp_all)
    · go_returns
      refine ⟨ret_dec (dec_cut Hn.out (by omega) (by rw [HL.out]; omega) fun _ => ?_), rfl⟩
      have c1 := cont_bd (b := byt s.data.toList 1) (by simp_all)
      have c2 := cont_bd (b := byt s.data.toList 2) (by simp_all)
      have ex : (byt s.data.toList 0 % 16 * 64 + byt s.data.toList 1 % 64) * 64 + byt s.data.toList 2 % 64 = decR s.data.toList 3 := by
        unfold decR; simp; omega
      rw [← ex]
      simp_all
    · go_returns
      have c1 := cont_bd (b := byt s.data.toList 1) (by simp_all)
      have c2 := cont_bd (b := byt s.data.toList 2) (by simp_all)
      have ex : (byt s.data.toList 0 % 16 * 64 + byt s.data.toList 1 % 64) * 64 + byt s.data.toList 2 % 64 = decR s.data.toList 3 := by
        unfold decR; simp; omega
      exact ⟨ret_dec (dec_yes Hn.out (by omega) (by rw [HL.out]; omega) ex.symm (by unfold decC; simp_all) (by simp_all)), rfl⟩
  · subst h
    obtain ⟨hlo, hhi⟩ := hb
    have hb1 := byt_mk s 1 (by omega)
    have l1 := byt_lo s.data.toList 1
    have u1 := byt_hi s.data.toList 1
    have hb2 := byt_mk s 2 (by omega)
    have l2 := byt_lo s.data.toList 2
    have u2 := byt_hi s.data.toList 2
    have hb3 := byt_mk s 3 (by omega)
    have l3 := byt_lo s.data.toList 3
    have u3 := byt_hi s.data.toList 3
    have f1 := or64 (byt s.data.toList 0 % 8) (byt s.data.toList 1 % 64) (by omega) (by omega) (by omega) (by omega)
    have f2 := or64 (byt s.data.toList 0 % 8 * 64 + byt s.data.toList 1 % 64) (byt s.data.toList 2 % 64) (by omega) (by omega) (by omega) (by omega)
    have f3 := or64 ((byt s.data.toList 0 % 8 * 64 + byt s.data.toList 1 % 64) * 64 + byt s.data.toList 2 % 64) (byt s.data.toList 3 % 64) (by omega) (by omega) (by omega) (by omega)
    go_enter Try.func19, Try.ntmps19
    go_wp2_with (first | (go_at_call 31; refine (announced_any _ _).mono ?_; rw [Hn.out]; rintro e w' ⟨rfl, rfl⟩))
    refine wp_loop_rounds 4 ?_
    repeat any_goals (rw [rounds_succ]; go_wp2_with (first | (go_at_call 29; refine (continues_any _ _).mono ?_; rintro e w' ⟨rfl, rfl⟩) | (go_at_call 32; refine (length_any _ _).mono ?_; rintro e w' ⟨rfl, rfl⟩)))
    · go_returns
      refine ⟨ret_dec (dec_cut Hn.out (by omega) (by rw [HL.out]; omega) fun h => ?_), rfl⟩
      exact absurd h (by unfold decC; simp_all)
    · go_returns
      refine ⟨ret_dec (dec_cut Hn.out (by omega) (by rw [HL.out]; omega) fun h => ?_), rfl⟩
      exact absurd h (by unfold decC; simp_all)
    · go_returns
      refine ⟨ret_dec (dec_cut Hn.out (by omega) (by rw [HL.out]; omega) fun h => ?_), rfl⟩
      exact absurd h (by unfold decC; simp_all)
    · go_returns
      refine ⟨ret_dec (dec_cut Hn.out (by omega) (by rw [HL.out]; omega) fun _ => ?_), rfl⟩
      have c1 := cont_bd (b := byt s.data.toList 1) (by simp_all)
      have c2 := cont_bd (b := byt s.data.toList 2) (by simp_all)
      have c3 := cont_bd (b := byt s.data.toList 3) (by simp_all)
      have ex : ((byt s.data.toList 0 % 8 * 64 + byt s.data.toList 1 % 64) * 64 + byt s.data.toList 2 % 64) * 64 + byt s.data.toList 3 % 64 = decR s.data.toList 4 := by
        unfold decR; simp; omega
      rw [← ex]
      simp_all
    · go_returns
      have c1 := cont_bd (b := byt s.data.toList 1) (by simp_all)
      have c2 := cont_bd (b := byt s.data.toList 2) (by simp_all)
      have c3 := cont_bd (b := byt s.data.toList 3) (by simp_all)
      have ex : ((byt s.data.toList 0 % 8 * 64 + byt s.data.toList 1 % 64) * 64 + byt s.data.toList 2 % 64) * 64 + byt s.data.toList 3 % 64 = decR s.data.toList 4 := by
        unfold decR; simp; omega
      exact ⟨ret_dec (dec_yes Hn.out (by omega) (by rw [HL.out]; omega) ex.symm (by unfold decC; simp_all) (by simp_all)), rfl⟩
end Go.Proofs.Ytmachjjnhphhbaa
