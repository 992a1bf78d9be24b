/- known: the examples of the chapter. -/
import Derived.Test.YtmachjjnhphhbaaRunesF
namespace Go.Proofs.Ytmachjjnhphhbaa
open Go.RowKit

theorem dec_k (s : ByteArray) (w : World) {a b c : Int} (h : decL s.data.toList = (a, b, c)) : Calls Try.prog 19 #[.string s] w fun e w' => e = .returned (.tuple #[.int .i64 a, .int .i64 b, .int .i64 c]) ∧ w = w' :=
  (decode_any s w).mono fun e w' ⟨he, hw⟩ => ⟨by rw [he, h], hw⟩
theorem enc_k (r : Int) (w : World) {l : List UInt8} {c : Int} (h : encL r = l) (h2 : encE r = c) : Calls Try.prog 21 #[.int .i64 r] w fun e w' => e = .returned (.tuple #[.string ⟨l.toArray⟩, .int .i64 c]) ∧ Below w.heap.size w w' :=
  (encode_any r w).mono fun e w' ⟨he, hw⟩ => ⟨by rw [he, h, h2], hw⟩
theorem next_k (s : ByteArray) (n : Int) (w : World) {a : Int} {b : Bool} (hs : s.size ≤ 140737488355328) (h : nextL s.data.toList n = (a, b)) : Calls Try.prog 23 #[.string s, .int .i64 n] w fun e w' => e = .returned (.tuple #[.int .i64 a, .bool b]) ∧ Below w.heap.size w w' :=
  (next_any s n w hs).mono fun e w' ⟨he, hw⟩ => ⟨by rw [he, h], hw⟩
theorem prev_k (s : ByteArray) (n : Int) (w : World) {a : Int} {b : Bool} (hs : s.size ≤ 140737488355328) (hn : n ≤ 9223372036854775807) (h : prevL s.data.toList n = (a, b)) : Calls Try.prog 25 #[.string s, .int .i64 n] w fun e w' => e = .returned (.tuple #[.int .i64 a, .bool b]) ∧ Below w.heap.size w w' :=
  (prev_any s n w hs hn).mono fun e w' ⟨he, hw⟩ => ⟨by rw [he, h], hw⟩
theorem clip_k (s : ByteArray) (n : Int) (w : World) {l : List UInt8} (hs : s.size ≤ 140737488355328) (h : clipL s.data.toList n = l) : Calls Try.prog 27 #[.string s, .int .i64 n] w fun e w' => e = .returned (.string ⟨l.toArray⟩) ∧ Below w.heap.size w w' :=
  (clip_any s n w hs).mono fun e w' ⟨he, hw⟩ => ⟨by rw [he, h], hw⟩
theorem count_k (s : ByteArray) (w : World) {n : Nat} (hs : s.size ≤ maxLen) (h : cntL s.data.toList = n) : Calls Try.prog 15 #[.string s] w fun e w' => e = .returned (.int .i64 n) ∧ w = w' :=
  (count_any s w hs).mono fun e w' ⟨he, hw⟩ => ⟨by rw [he, h], hw⟩
theorem valid_k (s : ByteArray) (w : World) {b : Bool} (h : validL s.data.toList = b) : Calls Try.prog 13 #[.string s] w fun e w' => e = .returned (.bool b) ∧ w = w' :=
  (valid_any s w).mono fun e w' ⟨he, hw⟩ => ⟨by rw [he, h], hw⟩
theorem boundary_k (s : ByteArray) (n : Int) (w : World) {b : Bool} (h : bndB s.data.toList n = b) : Calls Try.prog 17 #[.string s, .int .i64 n] w fun e w' => e = .returned (.bool b) ∧ w = w' :=
  (boundary_any s n w).mono fun e w' ⟨he, hw⟩ => ⟨by rw [he, h], hw⟩

set_option maxRecDepth 100000 in
set_option maxHeartbeats 1000000 in
theorem known_any (w : World) : Calls Try.prog 12 #[] w fun e w' => e = .returned (.bool true) ∧ Below w.heap.size w w' := by
  go_enter Try.func12, Try.ntmps12
  go_wp2_with fail
  refine (dec_k ⟨#[226, 130, 172, 97]⟩ _ (a := 8364) (b := 3) (c := 0) (by decide)).mono ?_
  rintro e w1 ⟨rfl, rfl⟩
  go_wp2_with fail
  refine (dec_k ⟨#[237, 160, 128]⟩ _ (a := 0) (b := 0) (c := 11) (by decide)).mono ?_
  rintro e w1 ⟨rfl, rfl⟩
  go_wp2_with fail
  refine (enc_k 8364 _ (l := [226, 130, 172]) (c := 0) (by decide) (by decide)).mono ?_
  rintro e w1 ⟨rfl, hb1⟩
  go_wp2_with fail
  refine (enc_k 55296 _ (l := []) (c := 2) (by decide) (by decide)).mono ?_
  rintro e w2 ⟨rfl, hb2⟩
  go_wp2_with fail
  refine (next_k ⟨#[97, 226, 130, 172]⟩ 1 _ (a := 4) (b := true) (by decide) (by decide)).mono ?_
  rintro e w3 ⟨rfl, hb3⟩
  go_wp2_with fail
  refine (prev_k ⟨#[130, 97]⟩ 9 _ (a := 2) (b := true) (by decide) (by decide) (by decide)).mono ?_
  rintro e w4 ⟨rfl, hb4⟩
  go_wp2_with fail
  refine (clip_k ⟨#[97, 226, 130, 172]⟩ 3 _ (l := [97]) (by decide) (by decide)).mono ?_
  rintro e w5 ⟨rfl, hb5⟩
  go_wp2_with fail
  refine (count_k ⟨#[130, 97, 226, 130]⟩ _ (n := 2) (by decide) (by decide)).mono ?_
  rintro e w6 ⟨rfl, rfl⟩
  go_wp2_with fail
  refine (valid_k ⟨#[226, 130, 172]⟩ _ (b := true) (by decide)).mono ?_
  rintro e w6 ⟨rfl, rfl⟩
  go_wp2_with fail
  refine (boundary_k ⟨#[97, 226, 130, 172]⟩ 2 _ (b := false) (by decide)).mono ?_
  rintro e w6 ⟨rfl, rfl⟩
  go_wp2_with fail
  go_ret
  exact ⟨rfl, (((hb1.trans (hb2.mono hb1.size)).trans (hb3.mono (Nat.le_trans hb1.size hb2.size))).trans (hb4.mono (Nat.le_trans (Nat.le_trans hb1.size hb2.size) hb3.size))).trans (hb5.mono (Nat.le_trans (Nat.le_trans (Nat.le_trans hb1.size hb2.size) hb3.size) hb4.size))⟩
end Go.Proofs.Ytmachjjnhphhbaa
