/- Parse of handle and of its reference: the walks. -/
import Derived.Test.YtipljlejhdggnaaDoorHanF
import Derived.Handy
namespace Go.Proofs.YtipljlejhdggnaaDoor
open Go.RowKit

theorem ret_pair {a b : Int} {p : Int × Int} (h : p = (a, b)) : Ending.returned (.tuple #[.int .u64 a, .int .i64 b]) = .returned (.tuple #[.int .u64 p.1, .int .i64 p.2]) := by rw [h]

set_option maxHeartbeats 1000000 in
theorem parse_walk (s L R : ByteArray) (f : Bool) (hL : L.size ≤ maxLen) (hR : R.size ≤ maxLen) (w : World)
    (hc : Calls Tryd.prog 26 #[.string s, .string dots] w fun e w' => e = .returned (.tuple #[.string L, .string R, .bool f]) ∧ Below w.heap.size w w') :
    Calls Tryd.prog 9 #[.string s] w fun e w' => e = .returned (.tuple #[.int .u64 (pg f (numOk L.data.toList) (numOk R.data.toList) (numG L.data.toList) (numG R.data.toList) (numV L.data.toList) (numV R.data.toList)).1, .int .i64 (pg f (numOk L.data.toList) (numOk R.data.toList) (numG L.data.toList) (numG R.data.toList) (numV L.data.toList) (numV R.data.toList)).2]) ∧ Below w.heap.size w w' := by
  have c1 := fun W => number_any L hL W
  have c2 := fun W => number_any R hR W
  have hb : ∀ l : List UInt8, 0 ≤ numV l ∧ numV l ≤ 42949672959 := fun l => by
    cases h : numOk l with
    | false => rw [← numV_no h]; omega
    | true => obtain ⟨_, h1, h2, _⟩ := num_ways h; exact ⟨h1, h2⟩
  obtain ⟨b0, b1⟩ := hb L.data.toList
  have bR := (hb R.data.toList).1
  clear hb hL hR
  generalize numV L.data.toList = v1 at *
  generalize numG L.data.toList = g1 at *
  generalize numOk L.data.toList = o1 at *
  generalize numV R.data.toList = v2 at *
  generalize numG R.data.toList = g2 at *
  generalize numOk R.data.toList = o2 at *
  have cm := fun W => make_any v1 v2 bR W
  have bRR := Lib.hid bR
  clear bR
  go_enter Tryd.func9, Tryd.ntmps9
  go_wp2_with fail
  refine hc.mono ?_
  rintro e w1 ⟨rfl, hB⟩
  go_wp2_with fail
  refine (c1 _).mono ?_
  rintro e w' ⟨rfl, rfl⟩
  go_wp2_with fail
  refine (c2 _).mono ?_
  rintro e w' ⟨rfl, rfl⟩
  go_wp2_with (go_at_call 12; refine (cm _).mono ?_; rintro e w' ⟨rfl, rfl⟩)
  all_goals go_returns
  all_goals refine ⟨ret_pair ?_, hB⟩
  all_goals (clear hc c1 c2 cm hB; unfold pg; simp_all <;> omega)

theorem size_take (s : ByteArray) (i : Nat) : (s.extract 0 i).data.toList = s.data.toList.take i := by simp
theorem size_drop (s : ByteArray) (i : Nat) : (s.extract i s.size).data.toList = s.data.toList.drop i := by
  simp
  exact List.take_of_length_le (by simp)
theorem ext_le (s : ByteArray) (i j : Nat) (h : s.size ≤ maxLen) : (s.extract i j).size ≤ maxLen := by simp; omega
theorem pg_nodot (l : List UInt8) (h : Lib.indexByte l 46 = -1) (o1 o2 g1 g2 : Bool) (v1 v2 : Int) : pg false o1 o2 g1 g2 v1 v2 = parseP l := by
  rw [parse_miss h, pg_bad _ _ _ _ _ _ _ rfl]

theorem parse_any (s : ByteArray) (hs : s.size ≤ maxLen) (w : World) : Calls Tryd.prog 9 #[.string s] w fun e w' => e = .returned (.tuple #[.int .u64 (parseP s.data.toList).1, .int .i64 (parseP s.data.toList).2]) ∧ Below w.heap.size w w' := by
  have hge := Lib.indexByte_ge s.data.toList 46
  by_cases e : Lib.indexByte s.data.toList 46 = -1
  · have h := parse_walk s s ⟨#[]⟩ false hs (by decide) w (cut_miss s e w)
    rw [pg_nodot s.data.toList e] at h
    exact h
  · obtain ⟨i, hi⟩ : ∃ i : Nat, Lib.indexByte s.data.toList 46 = i := ⟨(Lib.indexByte s.data.toList 46).toNat, by omega⟩
    have hlt : i < s.size := by have := index_lt hi; simpa using this
    have h := parse_walk s (s.extract 0 i) (s.extract (i + 1) s.size) true (ext_le _ _ _ hs) (ext_le _ _ _ hs) w (cut_hit s i hi hlt hs w)
    rw [size_take s i, size_drop, pg_parse hi] at h
    exact h

def NoDot (s : ByteArray) (i : Value) : Prop := ∃ k : Nat, i = .int .i64 k ∧ k ≤ s.size ∧ ∀ j, j < k → byt s.data.toList j ≠ 46

set_option maxHeartbeats 1000000 in
theorem refParse_any (s : ByteArray) (hs : s.size ≤ maxLen) (w : World) : Calls Tryd.prog 10 #[.string s] w fun e w' => e = .returned (.tuple #[.int .u64 (parseP s.data.toList).1, .int .i64 (parseP s.data.toList).2]) ∧ w = w' := by
  have hsz := hs
  have Hs := Lib.hid hs
  clear hs
  unfold maxLen at hsz
  have hl : s.data.toList.length = s.size := by simp
  have Hl := Lib.hid hl; clear hl
  go_enter Tryd.func10, Tryd.ntmps10
  go_wp2
  go_loop [4] (fun i => NoDot s i) (fun i => s.size - (intOf i).toNat)
  case atStart => exact ⟨0, rfl, by omega, fun j hj => by omega⟩
  case round =>
    obtain ⟨k, rfl, hk, hd⟩ := hrel
    have Hd := Lib.hid hd; clear hd
    by_cases hlt : k < s.size
    · have hbk := byt_mk s k hlt
      by_cases h46 : byt s.data.toList k = 46
      · have d46 : (byt s.data.toList k == 46) = true := by simp [h46]
        have hix : Lib.indexByte s.data.toList 46 = k := index_of (by rw [Hl.out]; exact hlt) h46 Hd.out
        have hpr := rg_parse hix
        have c1 := fun W => refNumber_any (s.extract 0 k) (ext_le _ _ _ Hs.out) W
        have c2 := fun W => refNumber_any (s.extract (k + 1) s.size) (ext_le _ _ _ Hs.out) W
        rw [size_take s k] at c1
        rw [size_drop s (k + 1)] at c2
        have hb : ∀ l : List UInt8, 0 ≤ numR l ∧ numR l ≤ big := fun l => by
          cases h : numOk l with
          | false => rw [← numR_no h]; unfold big; omega
          | true => obtain ⟨_, _, _, h1, h2, _⟩ := num_ways h; exact ⟨h1, h2⟩
        obtain ⟨b0, b1⟩ := hb (s.data.toList.take k)
        have bR := (hb (s.data.toList.drop (k + 1))).1
        unfold big at b1
        clear hb hix h46
        generalize numR (s.data.toList.take k) = v1 at *
        generalize numOk (s.data.toList.take k) = o1 at *
        generalize numR (s.data.toList.drop (k + 1)) = v2 at *
        generalize numOk (s.data.toList.drop (k + 1)) = o2 at *
        have cm := fun W => refMake_any v1 v2 bR W
        have bRR := Lib.hid bR
        have Hp := Lib.hid hpr
        clear bR hpr
        go_wp2_with fail
        refine (c1 _).mono ?_
        rintro e w' ⟨rfl, rfl⟩
        go_wp2_with fail
        refine (c2 _).mono ?_
        rintro e w' ⟨rfl, rfl⟩
        go_wp2_with (go_at_call 13; refine (cm _).mono ?_; rintro e w' ⟨rfl, rfl⟩)
        all_goals go_returns
        all_goals refine ⟨ret_pair (Hp.out.symm.trans ?_), rfl⟩
        all_goals (clear c1 c2 cm Hp Hd Hs Hl; unfold rg; simp_all <;> omega)
      · have d46 : (byt s.data.toList k == 46) = false := by simpa using h46
        have H46 := Lib.hid h46; clear h46
        go_wp2
        refine ⟨⟨k + 1, rfl, by omega, fun j hj => ?_⟩, ?_⟩
        · by_cases e : j = k
          · rw [e]; exact H46.out
          · exact Hd.out j (by omega)
        · simp [intOf]; omega
    · go_wp2
      go_returns
      refine ⟨ret_pair ?_, rfl⟩
      refine parse_miss (index_no fun j hj => Hd.out j ?_)
      rw [Hl.out] at hj
      omega
end Go.Proofs.YtipljlejhdggnaaDoor
