/- Text and Parse of handle and of its reference. -/
import Derived.Test.YtipljlejhdggnaaDoorHanD
import Derived.Handy
namespace Go.Proofs.YtipljlejhdggnaaDoor
open Go.RowKit

def txtL (h : Int) : List UInt8 := if chkE h = 0 then Lib.decDigits (slotOf h).toNat ++ (46 :: Lib.decDigits (genOf h).toNat) else []
theorem txt_no {h : Int} (hc : chkE h = 2) : txtL h = [] := by unfold txtL; rw [hc]; rfl
theorem txt_yes {h : Int} (hc : chkE h = 0) : txtL h = Lib.decDigits (slotOf h).toNat ++ (46 :: Lib.decDigits (genOf h).toNat) := by unfold txtL; rw [hc]; rfl
theorem len20 (u : Nat) (hu : u < 18446744073709551616) : (Lib.decDigits u).length ≤ 21 := dec_len 20 u (by omega)
theorem txt_join (a b : List UInt8) : (⟨a.toArray⟩ ++ (⟨#[46]⟩ : ByteArray)) ++ ⟨b.toArray⟩ = (⟨(a ++ (46 :: b)).toArray⟩ : ByteArray) := by
  rw [ByteArray.mk_append_mk, ByteArray.mk_append_mk]
  exact congrArg ByteArray.mk (by simp)

theorem ret_si {a b : ByteArray} {c d : Int} (h : b = a) (h2 : c = d) : Ending.returned (.tuple #[.string a, .int .i64 c]) = .returned (.tuple #[.string b, .int .i64 d]) := by rw [h, h2]

set_option maxHeartbeats 1000000 in
theorem text_any (h : Int) (h0 : 0 ≤ h) (h1 : h < 18446744073709551616) (w : World) (ht : Tab w) : Calls Tryd.prog 17 #[.int .u64 h] w fun e w' => e = .returned (.tuple #[.string ⟨(txtL h).toArray⟩, .int .i64 (chkE h)]) ∧ Below w.heap.size w w' := by
  have cc := fun W => check_any h h0 h1 W
  have cp := fun W => parts_any h h0 h1 W
  rcases chk_cases h with ⟨hc, s0, s1, g0, g1⟩ | hc
  · obtain ⟨a, ha⟩ : ∃ a : Nat, slotOf h = a := ⟨(slotOf h).toNat, by omega⟩
    obtain ⟨b, hb⟩ : ∃ b : Nat, genOf h = b := ⟨(genOf h).toNat, by omega⟩
    have ca := fun W hW => itoa_any a (by omega) W hW
    have cb := fun W hW => fmt_any b (by omega) W hW
    have hla := len20 a (by omega)
    have hlb := len20 b (by omega)
    have Ht := Lib.hid (txt_yes hc)
    have Hc := Lib.hid hc
    have Ha := Lib.hid ha
    have Hb := Lib.hid hb
    have hk : decide (chkE h = 0) = true := by simp [hc]
    rw [ha, hb] at cp
    rw [hc] at cc
    clear hk ha hb hc s0 s1 g0 g1 h0 h1
    go_enter Tryd.func17, Tryd.ntmps17
    go_wp2_with fail
    refine (cc _).mono ?_
    rintro e w' ⟨rfl, rfl⟩
    go_wp2_with fail
    refine (cp _).mono ?_
    rintro e w' ⟨rfl, rfl⟩
    go_wp2_with fail
    refine (ca _ ht).mono ?_
    rintro e w1 ⟨rfl, hB1⟩
    go_wp2_with fail
    refine (cb _ (ht.on hB1)).mono ?_
    rintro e w2 ⟨rfl, hB2⟩
    go_wp2_with fail
    go_returns
    refine ⟨ret_si (by rw [Ht.out, Ha.out, Hb.out]; exact (txt_join _ _).symm) Hc.out.symm, hB1.trans (hB2.mono hB1.size)⟩
  · have Ht := Lib.hid (txt_no hc)
    have Hc := Lib.hid hc
    rw [hc] at cc
    clear hc h0 h1 cp
    go_enter Tryd.func17, Tryd.ntmps17
    go_wp2_with fail
    refine (cc _).mono ?_
    rintro e w' ⟨rfl, rfl⟩
    go_wp2_with fail
    go_returns
    exact ⟨ret_si (by rw [Ht.out]) Hc.out.symm, Below.refl _ _⟩

set_option maxHeartbeats 1000000 in
theorem refText_any (h : Int) (h0 : 0 ≤ h) (h1 : h < 18446744073709551616) (w : World) : Calls Tryd.prog 21 #[.int .u64 h] w fun e w' => e = .returned (.tuple #[.string ⟨(txtL h).toArray⟩, .int .i64 (chkE h)]) ∧ Below w.heap.size w w' := by
  have cc := fun W => refSlot_any h h0 h1 W
  rcases chk_cases h with ⟨hc, s0, s1, g0, g1⟩ | hc
  · have hsr : slotR h = slotOf h := by unfold slotR; rw [if_pos hc]
    obtain ⟨a, ha⟩ : ∃ a : Nat, slotOf h = a := ⟨(slotOf h).toNat, by omega⟩
    obtain ⟨b, hb⟩ : ∃ b : Nat, h / 65536 = b := ⟨(h / 65536).toNat, by omega⟩
    have hb' : genOf h = b := hb
    have hw1 : IntKind.u64.wrap (a : Int) = a := by rw [IntKind.wrap_u64]; omega
    have ca := fun W => digits_any 20 a W (by omega) (by omega) (by omega) (by omega)
    have cb := fun W => digits_any 20 b W (by omega) (by omega) (by omega) (by omega)
    have hla := len20 a (by omega)
    have hlb := len20 b (by omega)
    have Ht := Lib.hid (txt_yes hc)
    have Hc := Lib.hid hc
    have Ha := Lib.hid ha
    have Hb := Lib.hid hb'
    rw [hc, hsr, ha] at cc
    clear ha hb' hc s0 s1 g0 g1 hsr
    go_enter Tryd.func21, Tryd.ntmps21
    go_wp2_with fail
    refine (cc _).mono ?_
    rintro e w' ⟨rfl, rfl⟩
    go_wp2_with fail
    refine (ca _).mono ?_
    rintro e w1 ⟨rfl, hB1⟩
    go_wp2_with fail
    rw [hb]
    refine (cb _).mono ?_
    rintro e w2 ⟨rfl, hB2⟩
    go_wp2_with fail
    go_returns
    refine ⟨ret_si (by rw [Ht.out, Ha.out, Hb.out]; exact (txt_join _ _).symm) Hc.out.symm, hB1.trans (hB2.mono hB1.size)⟩
  · have hsr : slotR h = 0 := by unfold slotR; rw [hc]; rfl
    have Ht := Lib.hid (txt_no hc)
    have Hc := Lib.hid hc
    rw [hc, hsr] at cc
    clear hc h0 h1 hsr
    go_enter Tryd.func21, Tryd.ntmps21
    go_wp2_with fail
    refine (cc _).mono ?_
    rintro e w' ⟨rfl, rfl⟩
    go_wp2_with fail
    go_returns
    exact ⟨ret_si (by rw [Ht.out]) Hc.out.symm, Below.refl _ _⟩
end Go.Proofs.YtipljlejhdggnaaDoor
