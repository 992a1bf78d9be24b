/- What handle calls of the library: strings.Cut at ".", strconv.FormatUint at base 10. -/
import Derived.Test.YtipljlejhdggnaaDoorHanC
import Derived.Test.YtipljlejhdggnaaDoorShelf
import Derived.Lib.IndexLaws
import Derived.Lib.AppendIntMem
import Derived.StillTailTactics
namespace Go.Proofs.YtipljlejhdggnaaDoor
open Go.RowKit Go.Sort

def dots : ByteArray := ⟨#[46]⟩

set_option maxHeartbeats 1000000 in
theorem lcut_miss (s : ByteArray) (h : Lib.indexByte s.data.toList 46 = -1) (w : World) : Calls Tryd.prog 38 #[.string s, .string dots] w fun e w' => e = .returned (.tuple #[.string s, .string ⟨#[]⟩, .bool false]) ∧ Below w.heap.size w w' := by
  have c := fun W => Tryd.stringslite_Index_one s 46 W
  rw [h] at c
  clear h
  go_enter Tryd.func38, Tryd.ntmps38
  go_wp2_with fail
  refine (c _).mono ?_
  rintro e w' ⟨rfl, rfl⟩
  go_wp2_with fail
  go_ret3
  exact ⟨rfl, Below.refl _ _⟩

set_option maxHeartbeats 1000000 in
theorem lcut_hit (s : ByteArray) (i : Nat) (h : Lib.indexByte s.data.toList 46 = i) (hi : i + 1 ≤ s.size) (hs : s.size ≤ maxLen) (w : World) : Calls Tryd.prog 38 #[.string s, .string dots] w fun e w' => e = .returned (.tuple #[.string (s.extract 0 i), .string (s.extract (i + 1) s.size), .bool true]) ∧ Below w.heap.size w w' := by
  unfold maxLen at hs
  have c := fun W => Tryd.stringslite_Index_one s 46 W
  rw [h] at c
  clear h
  go_enter Tryd.func38, Tryd.ntmps38
  go_wp2_with fail
  refine (c _).mono ?_
  rintro e w' ⟨rfl, rfl⟩
  have c1 : (0 : Int) ≤ ↑i := by omega
  have c2 : (↑i : Int) ≤ ↑s.size := by omega
  have dz : dots.size = 1 := rfl
  have c3 : (0 : Int) ≤ ↑i + ↑dots.size := by omega
  have c4 : (↑i + ↑dots.size : Int) ≤ ↑s.size := by omega
  have Dz := Lib.hid dz; clear dz
  go_wp2_with fail
  go_region
  go_wp2
  go_ret3
  exact ⟨rfl, (Below.refl _ _).drew⟩

theorem cut_miss (s : ByteArray) (h : Lib.indexByte s.data.toList 46 = -1) (w : World) : Calls Tryd.prog 26 #[.string s, .string dots] w fun e w' => e = .returned (.tuple #[.string s, .string ⟨#[]⟩, .bool false]) ∧ Below w.heap.size w w' := by
  have c := fun W => lcut_miss s h W
  clear h
  go_enter Tryd.func26, Tryd.ntmps26
  go_wp2_with fail
  refine (c _).mono ?_
  rintro e w' ⟨rfl, hB⟩
  go_wp2_with fail
  go_ret3
  exact ⟨rfl, hB⟩

theorem cut_hit (s : ByteArray) (i : Nat) (h : Lib.indexByte s.data.toList 46 = i) (hi : i + 1 ≤ s.size) (hs : s.size ≤ maxLen) (w : World) : Calls Tryd.prog 26 #[.string s, .string dots] w fun e w' => e = .returned (.tuple #[.string (s.extract 0 i), .string (s.extract (i + 1) s.size), .bool true]) ∧ Below w.heap.size w w' := by
  have c := fun W => lcut_hit s i h hi hs W
  clear h hi hs
  go_enter Tryd.func26, Tryd.ntmps26
  go_wp2_with fail
  refine (c _).mono ?_
  rintro e w' ⟨rfl, hB⟩
  go_wp2_with fail
  go_ret3
  exact ⟨rfl, hB⟩

/-! ### FormatUint at base 10 -/
def Tab (w : World) : Prop := Lib.TabIs Tryd.prog w "internal/strconv.uint64pow10" .u64 Lib.pow10Tab
theorem Tab.on {w w' : World} (h : Tab w) (hb : Below w.heap.size w w') : Tab w' := Lib.tabBelow_of_tabIs h w' hb

set_option maxHeartbeats 6400000 in
set_option maxRecDepth 100000 in
theorem ifmt (u : Nat) (hu : u < 18446744073709551616) (w : World) (ht : Tab w) : Calls Tryd.prog 44 #[.int .u64 u, .int .i64 10] w fun e w' => e = .returned (.string ⟨(Lib.decDigits u).toArray⟩) ∧ Below w.heap.size w w' := by
  by_cases h1 : u < 100
  · have c := fun W => Tryd.internal_strconv_small u h1 W
    have hw : IntKind.i64.wrap (u : Int) = u := by rw [IntKind.wrap_i64]; omega
    have d1 : decide ((u : Int) < 100) = true := by simp; omega
    clear h1 hu ht
    go_enter Tryd.func44, Tryd.ntmps44
    go_wp2_with fail
    refine (c _).mono ?_
    rintro e w' ⟨rfl, rfl⟩
    go_wp2_with fail
    go_ret
    exact ⟨rfl, Below.refl _ _⟩
  · have hu1 : 1 ≤ u := by omega
    have hnd20 : Lib.nDigits u ≤ 20 := by have := Lib.numDigits_eq u hu1 hu; split at this <;> omega
    have hal : Tryd.prog.arrayLen 71 = 24 := by simp [Program.arrayLen, Tryd.underlying71]
    have hsl : ∀ W, (Instr.sliceAt 71 (.pointer (some ⟨w.heap.size, 0, none⟩)) none (some (.int .i64 (Lib.nDigits u : Int))) none).run Tryd.prog W = .ok (.slice (some ⟨w.heap.size, 0, none⟩) (Lib.nDigits u) 24) W := fun W => by
      rw [run_sliceAt_array_h W 71 ⟨w.heap.size, 0, none⟩ (by simp [Program.arrayLen, Program.elem, Tryd.underlying71]) .i64 (Lib.nDigits u : Int) (by omega) (by rw [hal]; omega)]
      go_simp
    have hH0 := Lib.holds_zero0 w 71 (Lib.nDigits u) (by omega)
    have hfmt := Tryd.internal_strconv_formatBase10 w.heap.size 0 24 u (Array.replicate (Lib.nDigits u) 0) (w.alloc (.cells Lib.zeros24 71)) hH0 (by rw [Array.size_replicate]; exact Lib.lt_pow_nDigits u) hu (by rw [Array.size_replicate]; omega)
    rw [Array.size_replicate] at hfmt
    have HH0 := Lib.hid hH0
    have d1 : decide ((u : Int) < 100) = false := by simp; omega
    have cn := fun W hW => Tryd.internal_strconv_numDigits u hu1 hu W hW
    have hT : Tab (w.alloc (.cells Lib.zeros24 71)) := Lib.tabIs_alloc ht _
    clear hH0 hal h1
    go_enter Tryd.func44, Tryd.ntmps44
    go_wp2_with fail
    refine (cn _ hT).mono ?_
    rintro e w' ⟨rfl, rfl⟩
    go_wp2_with fail
    refine hfmt.mono ?_
    rintro e w' ⟨rfl, k, v', dk, rfl, hF⟩
    have hcv : (convert 65 9 (.slice (some ⟨w.heap.size, 0, none⟩) (Lib.nDigits u) 24)).run Tryd.prog ((putRow (fun (b : UInt8) => Value.int .u8 (b.toNat : Int)) (w.alloc (.cells Lib.zeros24 71)) w.heap.size 0 dk).drewN k) = .ok (.string ⟨(Lib.decDigits u).toArray⟩) ((putRow (fun (b : UInt8) => Value.int .u8 (b.toNat : Int)) (w.alloc (.cells Lib.zeros24 71)) w.heap.size 0 dk).drewN k) := by
      have h := run_convert_bytes_back (P := Tryd.prog) ((putRow (fun (b : UInt8) => Value.int .u8 (b.toNat : Int)) (w.alloc (.cells Lib.zeros24 71)) w.heap.size 0 dk).drewN k) 65 9 5 ⟨w.heap.size, 0, none⟩ 24 (Lib.decDigits u) Tryd.underlying65 Tryd.underlying5 Tryd.underlying9 (fun j hj => by
        rw [Lib.row_is_numeral hF j hj, Lib.add_plain, World.cell?_drewN]
        exact cell?_putRow (fun (b : UInt8) => Value.int .u8 (b.toNat : Int)) _ w.heap.size 0 _ dk HH0.out (by rw [hF.size, Array.size_replicate]) j (by rw [hF.size]; rw [Lib.decDigits_length] at hj; exact hj))
      rw [Lib.decDigits_length] at h
      exact h
    obtain ⟨os, eo⟩ := Lib.fin_at w (.cells Lib.zeros24 71) dk k 0
    have hB : Below w.heap.size w ((putRow (fun (b : UInt8) => Value.int .u8 (b.toNat : Int)) (w.alloc (.cells Lib.zeros24 71)) w.heap.size 0 dk).drewN k) := by rw [eo]; exact Lib.below_grow _ _ (Nat.le_refl _) _ _
    clear eo HH0
    go_wp2_with fail
    go_ret
    exact ⟨rfl, hB⟩

theorem fmt_any (u : Nat) (hu : u < 18446744073709551616) (w : World) (ht : Tab w) : Calls Tryd.prog 34 #[.int .u64 u, .int .i64 10] w fun e w' => e = .returned (.string ⟨(Lib.decDigits u).toArray⟩) ∧ Below w.heap.size w w' := by
  have c := ifmt u hu w ht
  clear hu ht
  go_enter Tryd.func34, Tryd.ntmps34
  go_wp2_with fail
  refine c.mono ?_
  rintro e w' ⟨rfl, hB⟩
  go_wp2_with fail
  go_ret
  exact ⟨rfl, hB⟩

theorem itoa_any (u : Nat) (hu : u < 9223372036854775808) (w : World) (ht : Tab w) : Calls Tryd.prog 33 #[.int .i64 u] w fun e w' => e = .returned (.string ⟨(Lib.decDigits u).toArray⟩) ∧ Below w.heap.size w w' := by
  refine (Tryd.strconv_Itoa u (by omega) (by omega) w ht).mono ?_
  rintro e w' ⟨rfl, k, os, rfl⟩
  rw [Lib.itoa_nonneg]
  exact ⟨rfl, Lib.below_grow _ _ (Nat.le_refl _) _ _⟩
end Go.Proofs.YtipljlejhdggnaaDoor
