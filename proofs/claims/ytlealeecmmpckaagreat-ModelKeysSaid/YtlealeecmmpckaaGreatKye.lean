/- The texts RcF. -/
import Derived.Test.YtlealeecmmpckaaGreatKug
import Derived.Test.YtlealeecmmpckaaGreatKyd
import Derived.Test.YtlealeecmmpckaaGreatKyc
import Derived.Test.YtlealeecmmpckaaGreatKxe
import Derived.Test.YtlealeecmmpckaaGreatKun
import Derived.Test.YtlealeecmmpckaaGreatKul
namespace Go.Proofs.YtlealeecmmpckaaGreat
set_option linter.unusedVariables false
set_option linter.unusedSimpArgs false
set_option maxRecDepth 100000
set_option maxHeartbeats 8000000
open Go.RowKit Go.Lib Go.Shelf
attribute [local go_sem, local simp] resF resL_len resL_ne
theorem rstate_is (ba bb : Nat) (A B : RM) (w : World) (hA : RdAt w ba A) (hB : RdAt w bb B) {K J : Int} (okA : MSok A.st K) (okB : MSok B.st J) {y : Bool} (hy : y = true ↔ A.st = B.st) :
    Calls Tryz.prog 26 #[.pointer (some ⟨ba, 0, none⟩), .pointer (some ⟨bb, 0, none⟩)] w fun e w' => e = .returned (.bool y) ∧ Below w.heap.size w w' := by
  refine (rstate_any ba bb A B w hA hB okA okB).mono ?_
  rintro e w' ⟨⟨x, rfl, hx⟩, hb⟩
  have hxy : x = y := Bool.eq_iff_iff.2 (hx.trans hy.symm)
  exact ⟨by rw [hxy], hb⟩
theorem keyB {s t : MS} {K J : Int} (hs : MSok s K) (ht : MSok t J) (hK : K ≤ 1000000) (hJ : J ≤ 1000000) : ((strOf (keyL s)).toList == (strOf (keyL t)).toList) = true ↔ s = t := by
  rw [txt_eq, decide_eq_true_eq]; exact key_iff hs ht hK hJ
def K1I (w : World) (p p2 : Option Addr) (cp cp2 : Nat) (l k : List ActV) (bm bn br bs : Nat) (N : MM) (S : RM) (a : Act) (wr : World) : Prop :=
  ∃ (j : Nat) (M : MM) (R : RM) (u : Nat → Value), a = { tmps := #[u 0, u 1, .slice p l.length cp, .slice p2 k.length cp2, u 4, u 5, u 6, u 7, u 8, .pointer (some ⟨bm, 0, none⟩), u 10, .pointer (some ⟨bn, 0, none⟩), u 12, .pointer (some ⟨br, 0, none⟩), u 14, .pointer (some ⟨bs, 0, none⟩), u 16, .int .i64 j, u 18, u 19, u 20, u 21, u 22, u 23, u 24, u 25, u 26, u 27, u 28, u 29, u 30, u 31, u 32, u 33, u 34, u 35, u 36, u 37, u 38, u 39, u 40, u 41, u 42, u 43, u 44, u 45, u 46, u 47, u 48, u 49, u 50, u 51, u 52, u 53, u 54, u 55, u 56, u 57, u 58, u 59, u 60, u 61, u 62, u 63, u 64, u 65, u 66, u 67, u 68, u 69, u 70, u 71, u 72, u 73, u 74, u 75, u 76, u 77, u 78, u 79, u 80, u 81, u 82, u 83, u 84, u 85, u 86, u 87, u 88, u 89, u 90, u 91, u 92, u 93, u 94, u 95, u 96, u 97, u 98, u 99, u 100, u 101, u 102, u 103, u 104, u 105, u 106, u 107, u 108, u 109, u 110, u 111, u 112, u 113, u 114, u 115, u 116, u 117, u 118, u 119, u 120, u 121, u 122, u 123, u 124, u 125, u 126, u 127, u 128, u 129, u 130, u 131, u 132, u 133, u 134, u 135, u 136, u 137, u 138, u 139, u 140, u 141, u 142, u 143, u 144, u 145, u 146, u 147, u 148, u 149, u 150, u 151, u 152, u 153, u 154, u 155, u 156, u 157, u 158, u 159, u 160, u 161, u 162, u 163, u 164, u 165, u 166, u 167, u 168, u 169, u 170, u 171, u 172, u 173, u 174, u 175, u 176, u 177, u 178, u 179, u 180, u 181, u 182, u 183, u 184, u 185, u 186, u 187, u 188, u 189, u 190, u 191, u 192, u 193, u 194, u 195, u 196, u 197, u 198, u 199, u 200, u 201, u 202, u 203, u 204, u 205, u 206, u 207, u 208, u 209, u 210, u 211, u 212, u 213, u 214, u 215, u 216, u 217, u 218, u 219, u 220, u 221, u 222, u 223, u 224, u 225, u 226, u 227, u 228], defers := [] } ∧ j ≤ l.length ∧ Grp w wr [(bm, M), (bn, N)] [(br, R), (bs, S)] ∧ M.st = R.st ∧ MSok M.st j
theorem K1I.intro {w : World} {p p2 : Option Addr} {cp cp2 : Nat} {l k : List ActV} {bm bn br bs : Nat} {N : MM} {S : RM} {a : Act} {wr : World} (j : Nat) (M : MM) (R : RM) (h : a = { tmps := #[a.tmps.getD 0 undef, a.tmps.getD 1 undef, .slice p l.length cp, .slice p2 k.length cp2, a.tmps.getD 4 undef, a.tmps.getD 5 undef, a.tmps.getD 6 undef, a.tmps.getD 7 undef, a.tmps.getD 8 undef, .pointer (some ⟨bm, 0, none⟩), a.tmps.getD 10 undef, .pointer (some ⟨bn, 0, none⟩), a.tmps.getD 12 undef, .pointer (some ⟨br, 0, none⟩), a.tmps.getD 14 undef, .pointer (some ⟨bs, 0, none⟩), a.tmps.getD 16 undef, .int .i64 j, a.tmps.getD 18 undef, a.tmps.getD 19 undef, a.tmps.getD 20 undef, a.tmps.getD 21 undef, a.tmps.getD 22 undef, a.tmps.getD 23 undef, a.tmps.getD 24 undef, a.tmps.getD 25 undef, a.tmps.getD 26 undef, a.tmps.getD 27 undef, a.tmps.getD 28 undef, a.tmps.getD 29 undef, a.tmps.getD 30 undef, a.tmps.getD 31 undef, a.tmps.getD 32 undef, a.tmps.getD 33 undef, a.tmps.getD 34 undef, a.tmps.getD 35 undef, a.tmps.getD 36 undef, a.tmps.getD 37 undef, a.tmps.getD 38 undef, a.tmps.getD 39 undef, a.tmps.getD 40 undef, a.tmps.getD 41 undef, a.tmps.getD 42 undef, a.tmps.getD 43 undef, a.tmps.getD 44 undef, a.tmps.getD 45 undef, a.tmps.getD 46 undef, a.tmps.getD 47 undef, a.tmps.getD 48 undef, a.tmps.getD 49 undef, a.tmps.getD 50 undef, a.tmps.getD 51 undef, a.tmps.getD 52 undef, a.tmps.getD 53 undef, a.tmps.getD 54 undef, a.tmps.getD 55 undef, a.tmps.getD 56 undef, a.tmps.getD 57 undef, a.tmps.getD 58 undef, a.tmps.getD 59 undef, a.tmps.getD 60 undef, a.tmps.getD 61 undef, a.tmps.getD 62 undef, a.tmps.getD 63 undef, a.tmps.getD 64 undef, a.tmps.getD 65 undef, a.tmps.getD 66 undef, a.tmps.getD 67 undef, a.tmps.getD 68 undef, a.tmps.getD 69 undef, a.tmps.getD 70 undef, a.tmps.getD 71 undef, a.tmps.getD 72 undef, a.tmps.getD 73 undef, a.tmps.getD 74 undef, a.tmps.getD 75 undef, a.tmps.getD 76 undef, a.tmps.getD 77 undef, a.tmps.getD 78 undef, a.tmps.getD 79 undef, a.tmps.getD 80 undef, a.tmps.getD 81 undef, a.tmps.getD 82 undef, a.tmps.getD 83 undef, a.tmps.getD 84 undef, a.tmps.getD 85 undef, a.tmps.getD 86 undef, a.tmps.getD 87 undef, a.tmps.getD 88 undef, a.tmps.getD 89 undef, a.tmps.getD 90 undef, a.tmps.getD 91 undef, a.tmps.getD 92 undef, a.tmps.getD 93 undef, a.tmps.getD 94 undef, a.tmps.getD 95 undef, a.tmps.getD 96 undef, a.tmps.getD 97 undef, a.tmps.getD 98 undef, a.tmps.getD 99 undef, a.tmps.getD 100 undef, a.tmps.getD 101 undef, a.tmps.getD 102 undef, a.tmps.getD 103 undef, a.tmps.getD 104 undef, a.tmps.getD 105 undef, a.tmps.getD 106 undef, a.tmps.getD 107 undef, a.tmps.getD 108 undef, a.tmps.getD 109 undef, a.tmps.getD 110 undef, a.tmps.getD 111 undef, a.tmps.getD 112 undef, a.tmps.getD 113 undef, a.tmps.getD 114 undef, a.tmps.getD 115 undef, a.tmps.getD 116 undef, a.tmps.getD 117 undef, a.tmps.getD 118 undef, a.tmps.getD 119 undef, a.tmps.getD 120 undef, a.tmps.getD 121 undef, a.tmps.getD 122 undef, a.tmps.getD 123 undef, a.tmps.getD 124 undef, a.tmps.getD 125 undef, a.tmps.getD 126 undef, a.tmps.getD 127 undef, a.tmps.getD 128 undef, a.tmps.getD 129 undef, a.tmps.getD 130 undef, a.tmps.getD 131 undef, a.tmps.getD 132 undef, a.tmps.getD 133 undef, a.tmps.getD 134 undef, a.tmps.getD 135 undef, a.tmps.getD 136 undef, a.tmps.getD 137 undef, a.tmps.getD 138 undef, a.tmps.getD 139 undef, a.tmps.getD 140 undef, a.tmps.getD 141 undef, a.tmps.getD 142 undef, a.tmps.getD 143 undef, a.tmps.getD 144 undef, a.tmps.getD 145 undef, a.tmps.getD 146 undef, a.tmps.getD 147 undef, a.tmps.getD 148 undef, a.tmps.getD 149 undef, a.tmps.getD 150 undef, a.tmps.getD 151 undef, a.tmps.getD 152 undef, a.tmps.getD 153 undef, a.tmps.getD 154 undef, a.tmps.getD 155 undef, a.tmps.getD 156 undef, a.tmps.getD 157 undef, a.tmps.getD 158 undef, a.tmps.getD 159 undef, a.tmps.getD 160 undef, a.tmps.getD 161 undef, a.tmps.getD 162 undef, a.tmps.getD 163 undef, a.tmps.getD 164 undef, a.tmps.getD 165 undef, a.tmps.getD 166 undef, a.tmps.getD 167 undef, a.tmps.getD 168 undef, a.tmps.getD 169 undef, a.tmps.getD 170 undef, a.tmps.getD 171 undef, a.tmps.getD 172 undef, a.tmps.getD 173 undef, a.tmps.getD 174 undef, a.tmps.getD 175 undef, a.tmps.getD 176 undef, a.tmps.getD 177 undef, a.tmps.getD 178 undef, a.tmps.getD 179 undef, a.tmps.getD 180 undef, a.tmps.getD 181 undef, a.tmps.getD 182 undef, a.tmps.getD 183 undef, a.tmps.getD 184 undef, a.tmps.getD 185 undef, a.tmps.getD 186 undef, a.tmps.getD 187 undef, a.tmps.getD 188 undef, a.tmps.getD 189 undef, a.tmps.getD 190 undef, a.tmps.getD 191 undef, a.tmps.getD 192 undef, a.tmps.getD 193 undef, a.tmps.getD 194 undef, a.tmps.getD 195 undef, a.tmps.getD 196 undef, a.tmps.getD 197 undef, a.tmps.getD 198 undef, a.tmps.getD 199 undef, a.tmps.getD 200 undef, a.tmps.getD 201 undef, a.tmps.getD 202 undef, a.tmps.getD 203 undef, a.tmps.getD 204 undef, a.tmps.getD 205 undef, a.tmps.getD 206 undef, a.tmps.getD 207 undef, a.tmps.getD 208 undef, a.tmps.getD 209 undef, a.tmps.getD 210 undef, a.tmps.getD 211 undef, a.tmps.getD 212 undef, a.tmps.getD 213 undef, a.tmps.getD 214 undef, a.tmps.getD 215 undef, a.tmps.getD 216 undef, a.tmps.getD 217 undef, a.tmps.getD 218 undef, a.tmps.getD 219 undef, a.tmps.getD 220 undef, a.tmps.getD 221 undef, a.tmps.getD 222 undef, a.tmps.getD 223 undef, a.tmps.getD 224 undef, a.tmps.getD 225 undef, a.tmps.getD 226 undef, a.tmps.getD 227 undef, a.tmps.getD 228 undef], defers := [] })
    (hj : j ≤ l.length) (hG : Grp w wr [(bm, M), (bn, N)] [(br, R), (bs, S)]) (hst : M.st = R.st) (hok : MSok M.st j) : K1I w p p2 cp cp2 l k bm bn br bs N S a wr := ⟨j, M, R, fun i => a.tmps.getD i undef, h, hj, hG, hst, hok⟩
def K2I (w : World) (p p2 : Option Addr) (cp cp2 : Nat) (l k : List ActV) (bm bn br bs bo : Nat) (sM : ByteArray) (M : MM) (R : RM) (a : Act) (wr : World) : Prop :=
  ∃ (j : Nat) (N O : MM) (S : RM) (u : Nat → Value), a = { tmps := #[u 0, u 1, .slice p l.length cp, .slice p2 k.length cp2, u 4, u 5, u 6, u 7, u 8, .pointer (some ⟨bm, 0, none⟩), u 10, .pointer (some ⟨bn, 0, none⟩), u 12, .pointer (some ⟨br, 0, none⟩), u 14, .pointer (some ⟨bs, 0, none⟩), u 16, u 17, .pointer (some ⟨bo, 0, none⟩), .string sM, .int .i64 j, u 21, u 22, u 23, u 24, u 25, u 26, u 27, u 28, u 29, u 30, u 31, u 32, u 33, u 34, u 35, u 36, u 37, u 38, u 39, u 40, u 41, u 42, u 43, u 44, u 45, u 46, u 47, u 48, u 49, u 50, u 51, u 52, u 53, u 54, u 55, u 56, u 57, u 58, u 59, u 60, u 61, u 62, u 63, u 64, u 65, u 66, u 67, u 68, u 69, u 70, u 71, u 72, u 73, u 74, u 75, u 76, u 77, u 78, u 79, u 80, u 81, u 82, u 83, u 84, u 85, u 86, u 87, u 88, u 89, u 90, u 91, u 92, u 93, u 94, u 95, u 96, u 97, u 98, u 99, u 100, u 101, u 102, u 103, u 104, u 105, u 106, u 107, u 108, u 109, u 110, u 111, u 112, u 113, u 114, u 115, u 116, u 117, u 118, u 119, u 120, u 121, u 122, u 123, u 124, u 125, u 126, u 127, u 128, u 129, u 130, u 131, u 132, u 133, u 134, u 135, u 136, u 137, u 138, u 139, u 140, u 141, u 142, u 143, u 144, u 145, u 146, u 147, u 148, u 149, u 150, u 151, u 152, u 153, u 154, u 155, u 156, u 157, u 158, u 159, u 160, u 161, u 162, u 163, u 164, u 165, u 166, u 167, u 168, u 169, u 170, u 171, u 172, u 173, u 174, u 175, u 176, u 177, u 178, u 179, u 180, u 181, u 182, u 183, u 184, u 185, u 186, u 187, u 188, u 189, u 190, u 191, u 192, u 193, u 194, u 195, u 196, u 197, u 198, u 199, u 200, u 201, u 202, u 203, u 204, u 205, u 206, u 207, u 208, u 209, u 210, u 211, u 212, u 213, u 214, u 215, u 216, u 217, u 218, u 219, u 220, u 221, u 222, u 223, u 224, u 225, u 226, u 227, u 228], defers := [] } ∧ j ≤ k.length ∧ Grp w wr [(bo, O), (bm, M), (bn, N)] [(br, R), (bs, S)] ∧ N.st = S.st ∧ MSok N.st j ∧ O.st = runS M.st (k.take j) ∧ MSok O.st (l.length + j)
theorem K2I.intro {w : World} {p p2 : Option Addr} {cp cp2 : Nat} {l k : List ActV} {bm bn br bs bo : Nat} {sM : ByteArray} {M : MM} {R : RM} {a : Act} {wr : World} (j : Nat) (N O : MM) (S : RM) (h : a = { tmps := #[a.tmps.getD 0 undef, a.tmps.getD 1 undef, .slice p l.length cp, .slice p2 k.length cp2, a.tmps.getD 4 undef, a.tmps.getD 5 undef, a.tmps.getD 6 undef, a.tmps.getD 7 undef, a.tmps.getD 8 undef, .pointer (some ⟨bm, 0, none⟩), a.tmps.getD 10 undef, .pointer (some ⟨bn, 0, none⟩), a.tmps.getD 12 undef, .pointer (some ⟨br, 0, none⟩), a.tmps.getD 14 undef, .pointer (some ⟨bs, 0, none⟩), a.tmps.getD 16 undef, a.tmps.getD 17 undef, .pointer (some ⟨bo, 0, none⟩), .string sM, .int .i64 j, a.tmps.getD 21 undef, a.tmps.getD 22 undef, a.tmps.getD 23 undef, a.tmps.getD 24 undef, a.tmps.getD 25 undef, a.tmps.getD 26 undef, a.tmps.getD 27 undef, a.tmps.getD 28 undef, a.tmps.getD 29 undef, a.tmps.getD 30 undef, a.tmps.getD 31 undef, a.tmps.getD 32 undef, a.tmps.getD 33 undef, a.tmps.getD 34 undef, a.tmps.getD 35 undef, a.tmps.getD 36 undef, a.tmps.getD 37 undef, a.tmps.getD 38 undef, a.tmps.getD 39 undef, a.tmps.getD 40 undef, a.tmps.getD 41 undef, a.tmps.getD 42 undef, a.tmps.getD 43 undef, a.tmps.getD 44 undef, a.tmps.getD 45 undef, a.tmps.getD 46 undef, a.tmps.getD 47 undef, a.tmps.getD 48 undef, a.tmps.getD 49 undef, a.tmps.getD 50 undef, a.tmps.getD 51 undef, a.tmps.getD 52 undef, a.tmps.getD 53 undef, a.tmps.getD 54 undef, a.tmps.getD 55 undef, a.tmps.getD 56 undef, a.tmps.getD 57 undef, a.tmps.getD 58 undef, a.tmps.getD 59 undef, a.tmps.getD 60 undef, a.tmps.getD 61 undef, a.tmps.getD 62 undef, a.tmps.getD 63 undef, a.tmps.getD 64 undef, a.tmps.getD 65 undef, a.tmps.getD 66 undef, a.tmps.getD 67 undef, a.tmps.getD 68 undef, a.tmps.getD 69 undef, a.tmps.getD 70 undef, a.tmps.getD 71 undef, a.tmps.getD 72 undef, a.tmps.getD 73 undef, a.tmps.getD 74 undef, a.tmps.getD 75 undef, a.tmps.getD 76 undef, a.tmps.getD 77 undef, a.tmps.getD 78 undef, a.tmps.getD 79 undef, a.tmps.getD 80 undef, a.tmps.getD 81 undef, a.tmps.getD 82 undef, a.tmps.getD 83 undef, a.tmps.getD 84 undef, a.tmps.getD 85 undef, a.tmps.getD 86 undef, a.tmps.getD 87 undef, a.tmps.getD 88 undef, a.tmps.getD 89 undef, a.tmps.getD 90 undef, a.tmps.getD 91 undef, a.tmps.getD 92 undef, a.tmps.getD 93 undef, a.tmps.getD 94 undef, a.tmps.getD 95 undef, a.tmps.getD 96 undef, a.tmps.getD 97 undef, a.tmps.getD 98 undef, a.tmps.getD 99 undef, a.tmps.getD 100 undef, a.tmps.getD 101 undef, a.tmps.getD 102 undef, a.tmps.getD 103 undef, a.tmps.getD 104 undef, a.tmps.getD 105 undef, a.tmps.getD 106 undef, a.tmps.getD 107 undef, a.tmps.getD 108 undef, a.tmps.getD 109 undef, a.tmps.getD 110 undef, a.tmps.getD 111 undef, a.tmps.getD 112 undef, a.tmps.getD 113 undef, a.tmps.getD 114 undef, a.tmps.getD 115 undef, a.tmps.getD 116 undef, a.tmps.getD 117 undef, a.tmps.getD 118 undef, a.tmps.getD 119 undef, a.tmps.getD 120 undef, a.tmps.getD 121 undef, a.tmps.getD 122 undef, a.tmps.getD 123 undef, a.tmps.getD 124 undef, a.tmps.getD 125 undef, a.tmps.getD 126 undef, a.tmps.getD 127 undef, a.tmps.getD 128 undef, a.tmps.getD 129 undef, a.tmps.getD 130 undef, a.tmps.getD 131 undef, a.tmps.getD 132 undef, a.tmps.getD 133 undef, a.tmps.getD 134 undef, a.tmps.getD 135 undef, a.tmps.getD 136 undef, a.tmps.getD 137 undef, a.tmps.getD 138 undef, a.tmps.getD 139 undef, a.tmps.getD 140 undef, a.tmps.getD 141 undef, a.tmps.getD 142 undef, a.tmps.getD 143 undef, a.tmps.getD 144 undef, a.tmps.getD 145 undef, a.tmps.getD 146 undef, a.tmps.getD 147 undef, a.tmps.getD 148 undef, a.tmps.getD 149 undef, a.tmps.getD 150 undef, a.tmps.getD 151 undef, a.tmps.getD 152 undef, a.tmps.getD 153 undef, a.tmps.getD 154 undef, a.tmps.getD 155 undef, a.tmps.getD 156 undef, a.tmps.getD 157 undef, a.tmps.getD 158 undef, a.tmps.getD 159 undef, a.tmps.getD 160 undef, a.tmps.getD 161 undef, a.tmps.getD 162 undef, a.tmps.getD 163 undef, a.tmps.getD 164 undef, a.tmps.getD 165 undef, a.tmps.getD 166 undef, a.tmps.getD 167 undef, a.tmps.getD 168 undef, a.tmps.getD 169 undef, a.tmps.getD 170 undef, a.tmps.getD 171 undef, a.tmps.getD 172 undef, a.tmps.getD 173 undef, a.tmps.getD 174 undef, a.tmps.getD 175 undef, a.tmps.getD 176 undef, a.tmps.getD 177 undef, a.tmps.getD 178 undef, a.tmps.getD 179 undef, a.tmps.getD 180 undef, a.tmps.getD 181 undef, a.tmps.getD 182 undef, a.tmps.getD 183 undef, a.tmps.getD 184 undef, a.tmps.getD 185 undef, a.tmps.getD 186 undef, a.tmps.getD 187 undef, a.tmps.getD 188 undef, a.tmps.getD 189 undef, a.tmps.getD 190 undef, a.tmps.getD 191 undef, a.tmps.getD 192 undef, a.tmps.getD 193 undef, a.tmps.getD 194 undef, a.tmps.getD 195 undef, a.tmps.getD 196 undef, a.tmps.getD 197 undef, a.tmps.getD 198 undef, a.tmps.getD 199 undef, a.tmps.getD 200 undef, a.tmps.getD 201 undef, a.tmps.getD 202 undef, a.tmps.getD 203 undef, a.tmps.getD 204 undef, a.tmps.getD 205 undef, a.tmps.getD 206 undef, a.tmps.getD 207 undef, a.tmps.getD 208 undef, a.tmps.getD 209 undef, a.tmps.getD 210 undef, a.tmps.getD 211 undef, a.tmps.getD 212 undef, a.tmps.getD 213 undef, a.tmps.getD 214 undef, a.tmps.getD 215 undef, a.tmps.getD 216 undef, a.tmps.getD 217 undef, a.tmps.getD 218 undef, a.tmps.getD 219 undef, a.tmps.getD 220 undef, a.tmps.getD 221 undef, a.tmps.getD 222 undef, a.tmps.getD 223 undef, a.tmps.getD 224 undef, a.tmps.getD 225 undef, a.tmps.getD 226 undef, a.tmps.getD 227 undef, a.tmps.getD 228 undef], defers := [] })
    (hj : j ≤ k.length) (hG : Grp w wr [(bo, O), (bm, M), (bn, N)] [(br, R), (bs, S)]) (hst : N.st = S.st) (hok : MSok N.st j) (hO : O.st = runS M.st (k.take j)) (hoO : MSok O.st (l.length + j)) : K2I w p p2 cp cp2 l k bm bn br bs bo sM M R a wr := ⟨j, N, O, S, fun i => a.tmps.getD i undef, h, hj, hG, hst, hok, hO, hoO⟩
def K3I (w : World) (p p2 : Option Addr) (cp cp2 : Nat) (l k : List ActV) (bm bn br bs bo bt : Nat) (sM : ByteArray) (M N O : MM) (R S : RM) (a : Act) (wr : World) : Prop :=
  ∃ (j : Nat) (T : RM) (u : Nat → Value), a = { tmps := #[u 0, u 1, .slice p l.length cp, .slice p2 k.length cp2, u 4, u 5, u 6, u 7, u 8, .pointer (some ⟨bm, 0, none⟩), u 10, .pointer (some ⟨bn, 0, none⟩), u 12, .pointer (some ⟨br, 0, none⟩), u 14, .pointer (some ⟨bs, 0, none⟩), u 16, u 17, .pointer (some ⟨bo, 0, none⟩), .string sM, u 20, .pointer (some ⟨bt, 0, none⟩), .int .i64 j, u 23, u 24, u 25, u 26, u 27, u 28, u 29, u 30, u 31, u 32, u 33, u 34, u 35, u 36, u 37, u 38, u 39, u 40, u 41, u 42, u 43, u 44, u 45, u 46, u 47, u 48, u 49, u 50, u 51, u 52, u 53, u 54, u 55, u 56, u 57, u 58, u 59, u 60, u 61, u 62, u 63, u 64, u 65, u 66, u 67, u 68, u 69, u 70, u 71, u 72, u 73, u 74, u 75, u 76, u 77, u 78, u 79, u 80, u 81, u 82, u 83, u 84, u 85, u 86, u 87, u 88, u 89, u 90, u 91, u 92, u 93, u 94, u 95, u 96, u 97, u 98, u 99, u 100, u 101, u 102, u 103, u 104, u 105, u 106, u 107, u 108, u 109, u 110, u 111, u 112, u 113, u 114, u 115, u 116, u 117, u 118, u 119, u 120, u 121, u 122, u 123, u 124, u 125, u 126, u 127, u 128, u 129, u 130, u 131, u 132, u 133, u 134, u 135, u 136, u 137, u 138, u 139, u 140, u 141, u 142, u 143, u 144, u 145, u 146, u 147, u 148, u 149, u 150, u 151, u 152, u 153, u 154, u 155, u 156, u 157, u 158, u 159, u 160, u 161, u 162, u 163, u 164, u 165, u 166, u 167, u 168, u 169, u 170, u 171, u 172, u 173, u 174, u 175, u 176, u 177, u 178, u 179, u 180, u 181, u 182, u 183, u 184, u 185, u 186, u 187, u 188, u 189, u 190, u 191, u 192, u 193, u 194, u 195, u 196, u 197, u 198, u 199, u 200, u 201, u 202, u 203, u 204, u 205, u 206, u 207, u 208, u 209, u 210, u 211, u 212, u 213, u 214, u 215, u 216, u 217, u 218, u 219, u 220, u 221, u 222, u 223, u 224, u 225, u 226, u 227, u 228], defers := [] } ∧ j ≤ k.length ∧ Grp w wr [(bo, O), (bm, M), (bn, N)] [(bt, T), (br, R), (bs, S)] ∧ T.st = runS R.st (k.take j) ∧ MSok T.st (l.length + j)
theorem K3I.intro {w : World} {p p2 : Option Addr} {cp cp2 : Nat} {l k : List ActV} {bm bn br bs bo bt : Nat} {sM : ByteArray} {M N O : MM} {R S : RM} {a : Act} {wr : World} (j : Nat) (T : RM) (h : a = { tmps := #[a.tmps.getD 0 undef, a.tmps.getD 1 undef, .slice p l.length cp, .slice p2 k.length cp2, a.tmps.getD 4 undef, a.tmps.getD 5 undef, a.tmps.getD 6 undef, a.tmps.getD 7 undef, a.tmps.getD 8 undef, .pointer (some ⟨bm, 0, none⟩), a.tmps.getD 10 undef, .pointer (some ⟨bn, 0, none⟩), a.tmps.getD 12 undef, .pointer (some ⟨br, 0, none⟩), a.tmps.getD 14 undef, .pointer (some ⟨bs, 0, none⟩), a.tmps.getD 16 undef, a.tmps.getD 17 undef, .pointer (some ⟨bo, 0, none⟩), .string sM, a.tmps.getD 20 undef, .pointer (some ⟨bt, 0, none⟩), .int .i64 j, a.tmps.getD 23 undef, a.tmps.getD 24 undef, a.tmps.getD 25 undef, a.tmps.getD 26 undef, a.tmps.getD 27 undef, a.tmps.getD 28 undef, a.tmps.getD 29 undef, a.tmps.getD 30 undef, a.tmps.getD 31 undef, a.tmps.getD 32 undef, a.tmps.getD 33 undef, a.tmps.getD 34 undef, a.tmps.getD 35 undef, a.tmps.getD 36 undef, a.tmps.getD 37 undef, a.tmps.getD 38 undef, a.tmps.getD 39 undef, a.tmps.getD 40 undef, a.tmps.getD 41 undef, a.tmps.getD 42 undef, a.tmps.getD 43 undef, a.tmps.getD 44 undef, a.tmps.getD 45 undef, a.tmps.getD 46 undef, a.tmps.getD 47 undef, a.tmps.getD 48 undef, a.tmps.getD 49 undef, a.tmps.getD 50 undef, a.tmps.getD 51 undef, a.tmps.getD 52 undef, a.tmps.getD 53 undef, a.tmps.getD 54 undef, a.tmps.getD 55 undef, a.tmps.getD 56 undef, a.tmps.getD 57 undef, a.tmps.getD 58 undef, a.tmps.getD 59 undef, a.tmps.getD 60 undef, a.tmps.getD 61 undef, a.tmps.getD 62 undef, a.tmps.getD 63 undef, a.tmps.getD 64 undef, a.tmps.getD 65 undef, a.tmps.getD 66 undef, a.tmps.getD 67 undef, a.tmps.getD 68 undef, a.tmps.getD 69 undef, a.tmps.getD 70 undef, a.tmps.getD 71 undef, a.tmps.getD 72 undef, a.tmps.getD 73 undef, a.tmps.getD 74 undef, a.tmps.getD 75 undef, a.tmps.getD 76 undef, a.tmps.getD 77 undef, a.tmps.getD 78 undef, a.tmps.getD 79 undef, a.tmps.getD 80 undef, a.tmps.getD 81 undef, a.tmps.getD 82 undef, a.tmps.getD 83 undef, a.tmps.getD 84 undef, a.tmps.getD 85 undef, a.tmps.getD 86 undef, a.tmps.getD 87 undef, a.tmps.getD 88 undef, a.tmps.getD 89 undef, a.tmps.getD 90 undef, a.tmps.getD 91 undef, a.tmps.getD 92 undef, a.tmps.getD 93 undef, a.tmps.getD 94 undef, a.tmps.getD 95 undef, a.tmps.getD 96 undef, a.tmps.getD 97 undef, a.tmps.getD 98 undef, a.tmps.getD 99 undef, a.tmps.getD 100 undef, a.tmps.getD 101 undef, a.tmps.getD 102 undef, a.tmps.getD 103 undef, a.tmps.getD 104 undef, a.tmps.getD 105 undef, a.tmps.getD 106 undef, a.tmps.getD 107 undef, a.tmps.getD 108 undef, a.tmps.getD 109 undef, a.tmps.getD 110 undef, a.tmps.getD 111 undef, a.tmps.getD 112 undef, a.tmps.getD 113 undef, a.tmps.getD 114 undef, a.tmps.getD 115 undef, a.tmps.getD 116 undef, a.tmps.getD 117 undef, a.tmps.getD 118 undef, a.tmps.getD 119 undef, a.tmps.getD 120 undef, a.tmps.getD 121 undef, a.tmps.getD 122 undef, a.tmps.getD 123 undef, a.tmps.getD 124 undef, a.tmps.getD 125 undef, a.tmps.getD 126 undef, a.tmps.getD 127 undef, a.tmps.getD 128 undef, a.tmps.getD 129 undef, a.tmps.getD 130 undef, a.tmps.getD 131 undef, a.tmps.getD 132 undef, a.tmps.getD 133 undef, a.tmps.getD 134 undef, a.tmps.getD 135 undef, a.tmps.getD 136 undef, a.tmps.getD 137 undef, a.tmps.getD 138 undef, a.tmps.getD 139 undef, a.tmps.getD 140 undef, a.tmps.getD 141 undef, a.tmps.getD 142 undef, a.tmps.getD 143 undef, a.tmps.getD 144 undef, a.tmps.getD 145 undef, a.tmps.getD 146 undef, a.tmps.getD 147 undef, a.tmps.getD 148 undef, a.tmps.getD 149 undef, a.tmps.getD 150 undef, a.tmps.getD 151 undef, a.tmps.getD 152 undef, a.tmps.getD 153 undef, a.tmps.getD 154 undef, a.tmps.getD 155 undef, a.tmps.getD 156 undef, a.tmps.getD 157 undef, a.tmps.getD 158 undef, a.tmps.getD 159 undef, a.tmps.getD 160 undef, a.tmps.getD 161 undef, a.tmps.getD 162 undef, a.tmps.getD 163 undef, a.tmps.getD 164 undef, a.tmps.getD 165 undef, a.tmps.getD 166 undef, a.tmps.getD 167 undef, a.tmps.getD 168 undef, a.tmps.getD 169 undef, a.tmps.getD 170 undef, a.tmps.getD 171 undef, a.tmps.getD 172 undef, a.tmps.getD 173 undef, a.tmps.getD 174 undef, a.tmps.getD 175 undef, a.tmps.getD 176 undef, a.tmps.getD 177 undef, a.tmps.getD 178 undef, a.tmps.getD 179 undef, a.tmps.getD 180 undef, a.tmps.getD 181 undef, a.tmps.getD 182 undef, a.tmps.getD 183 undef, a.tmps.getD 184 undef, a.tmps.getD 185 undef, a.tmps.getD 186 undef, a.tmps.getD 187 undef, a.tmps.getD 188 undef, a.tmps.getD 189 undef, a.tmps.getD 190 undef, a.tmps.getD 191 undef, a.tmps.getD 192 undef, a.tmps.getD 193 undef, a.tmps.getD 194 undef, a.tmps.getD 195 undef, a.tmps.getD 196 undef, a.tmps.getD 197 undef, a.tmps.getD 198 undef, a.tmps.getD 199 undef, a.tmps.getD 200 undef, a.tmps.getD 201 undef, a.tmps.getD 202 undef, a.tmps.getD 203 undef, a.tmps.getD 204 undef, a.tmps.getD 205 undef, a.tmps.getD 206 undef, a.tmps.getD 207 undef, a.tmps.getD 208 undef, a.tmps.getD 209 undef, a.tmps.getD 210 undef, a.tmps.getD 211 undef, a.tmps.getD 212 undef, a.tmps.getD 213 undef, a.tmps.getD 214 undef, a.tmps.getD 215 undef, a.tmps.getD 216 undef, a.tmps.getD 217 undef, a.tmps.getD 218 undef, a.tmps.getD 219 undef, a.tmps.getD 220 undef, a.tmps.getD 221 undef, a.tmps.getD 222 undef, a.tmps.getD 223 undef, a.tmps.getD 224 undef, a.tmps.getD 225 undef, a.tmps.getD 226 undef, a.tmps.getD 227 undef, a.tmps.getD 228 undef], defers := [] })
    (hj : j ≤ k.length) (hG : Grp w wr [(bo, O), (bm, M), (bn, N)] [(bt, T), (br, R), (bs, S)]) (hT : T.st = runS R.st (k.take j)) (hok : MSok T.st (l.length + j)) : K3I w p p2 cp cp2 l k bm bn br bs bo bt sM M N O R S a wr := ⟨j, T, fun i => a.tmps.getD i undef, h, hj, hG, hT, hok⟩
theorem nw_m {c : CfgV} (he : cfgE c = 0) (W : World) : Calls Tryz.prog 20 #[c.v] W fun e w' => ∃ b M, e = .returned (.tuple #[.pointer (some ⟨b, 0, none⟩), .int .i64 0]) ∧ MdAt w' b M ∧ M.st = newS c ∧ Below W.heap.size W w' ∧ ∀ k, M.fp b k → W.heap.size ≤ k :=
  (new_any c W).mono fun e w' h => h.elim (fun h => absurd he h.1) fun ⟨_, h⟩ => h
theorem nw_r {c : CfgV} (he : cfgE c = 0) (W : World) : Calls Tryz.prog 21 #[c.v] W fun e w' => ∃ b M, e = .returned (.tuple #[.pointer (some ⟨b, 0, none⟩), .int .i64 0]) ∧ RdAt w' b M ∧ M.st = newS c ∧ Below W.heap.size W w' ∧ ∀ k, M.fp b k → W.heap.size ≤ k :=
  (rnew_any c W).mono fun e w' h => h.elim (fun h => absurd he h.1) fun ⟨_, h⟩ => h
theorem keys_main (c d : CfgV) (p p2 : Option Addr) (cp cp2 : Nat) (l k : List ActV) (w : World) (hA : ArgActs w p l) (hA2 : ArgActs w p2 k) (hc : cfgE c = 0) (hd : cfgE d = 0) (h1 : c.text.size ≤ 2000) (h2 : l.length ≤ 60) (h3 : d.text.size ≤ 2000) (h4 : k.length ≤ 60) :
    Calls Tryz.prog 8 #[c.v, d.v, .slice p l.length cp, .slice p2 k.length cp2] w fun e w' => e = .returned (.bool true) ∧ Below w.heap.size w w' := by
  have hB0 := ((Below.refl w.heap.size w).alloc (Nat.le_refl _) (.cells #[.int .i64 c.slots, .int .u64 c.gens, .int .i64 c.clients, .int .i64 c.readers, .int .i64 c.queue, .int .i64 c.batch, .int .i64 c.feed, .string c.text] 24)).alloc (by simp) (.cells #[.int .i64 d.slots, .int .u64 d.gens, .int .i64 d.clients, .int .i64 d.readers, .int .i64 d.queue, .int .i64 d.batch, .int .i64 d.feed, .string d.text] 24)
  have hz0 := (heap_alloc_old (w.alloc (.cells #[.int .i64 c.slots, .int .u64 c.gens, .int .i64 c.clients, .int .i64 c.readers, .int .i64 c.queue, .int .i64 c.batch, .int .i64 c.feed, .string c.text] 24)) (.cells #[.int .i64 d.slots, .int .u64 d.gens, .int .i64 d.clients, .int .i64 d.readers, .int .i64 d.queue, .int .i64 d.batch, .int .i64 d.feed, .string d.text] 24) (by simp : w.heap.size < _)).trans (heap_alloc_new w (.cells #[.int .i64 c.slots, .int .u64 c.gens, .int .i64 c.clients, .int .i64 c.readers, .int .i64 c.queue, .int .i64 c.batch, .int .i64 c.feed, .string c.text] 24))
  have hy0 := heap_alloc_new (w.alloc (.cells #[.int .i64 c.slots, .int .u64 c.gens, .int .i64 c.clients, .int .i64 c.readers, .int .i64 c.queue, .int .i64 c.batch, .int .i64 c.feed, .string c.text] 24)) (.cells #[.int .i64 d.slots, .int .u64 d.gens, .int .i64 d.clients, .int .i64 d.readers, .int .i64 d.queue, .int .i64 d.batch, .int .i64 d.feed, .string d.text] 24)
  rw [World.size_alloc] at hy0
  have hlo := fun W => long_any c l.length W
  rw [show (decide (2000 < c.text.size) || decide (60 < l.length)) = false by simp; omega] at hlo
  have hld := fun W => long_any d k.length W
  rw [show (decide (2000 < d.text.size) || decide (60 < k.length)) = false by simp; omega] at hld
  have hm1 := fun W => nw_m hc W
  have hm2 := fun W => nw_m hd W
  have hr1 := fun W => nw_r hc W
  have hr2 := fun W => nw_r hd W
  have HC0 := Lib.hid (newS_ok hc)
  have HD0 := Lib.hid (newS_ok hd)
  generalize newS c = st1 at *
  generalize newS d = st2 at *
  clear hc hd h1 h3
  unfold CfgV.v at *
  go_enter Tryz.func8, Tryz.ntmps8
  go_wp2_with (first
    | (go_at_call 21; have hx := hs3; with_reducible refine (hr2 _).mono ?_; rintro e w6 ⟨bs, S1, rfl, hS1, hs4, hb6, ho4⟩; have hB6 := hB5.trans (hb6.mono hB5.size))
    | (go_at_call 21; with_reducible refine (hr1 _).mono ?_; rintro e w5 ⟨br, R1, rfl, hR1, hs3, hb5, ho3⟩; have hB5 := hB4.trans (hb5.mono hB4.size); have hy5 := (hb5.block _ (Array.getElem?_eq_some_iff.1 hy4).1).trans hy4; obtain ⟨u0, u1, u2, u3, u4, u5, u6, u7⟩ := blk8 hy5)
    | (go_at_call 20; have hx := hs1; with_reducible refine (hm2 _).mono ?_; rintro e w4 ⟨bn, N1, rfl, hN1, hs2, hb4, ho2⟩; have hB4 := hB3.trans (hb4.mono hB3.size); have hz4 := (hb4.block _ (Array.getElem?_eq_some_iff.1 hz3).1).trans hz3; have hy4 := (hb4.block _ (Array.getElem?_eq_some_iff.1 hy3).1).trans hy3; obtain ⟨v0, v1, v2, v3, v4, v5, v6, v7⟩ := blk8 hz4)
    | (go_at_call 20; with_reducible refine (hm1 _).mono ?_; rintro e w3 ⟨bm, M1, rfl, hM1, hs1, hb3, ho1⟩; have hB3 := hB2.trans (hb3.mono hB2.size); have hz3 := (hb3.block _ (Array.getElem?_eq_some_iff.1 hz2).1).trans hz2; have hy3 := (hb3.block _ (Array.getElem?_eq_some_iff.1 hy2).1).trans hy2; obtain ⟨y0, y1, y2, y3, y4, y5, y6, y7⟩ := blk8 hy3)
    | (go_at_call 12; have hx := hB1; with_reducible refine (hld _).mono ?_; rintro e w2 ⟨rfl, hb2⟩; have hB2 := hB1.trans (hb2.mono hB1.size); have hz2 := (hb2.block _ (Array.getElem?_eq_some_iff.1 hz1).1).trans hz1; have hy2 := (hb2.block _ (Array.getElem?_eq_some_iff.1 hy1).1).trans hy1; obtain ⟨x0, x1, x2, x3, x4, x5, x6, x7⟩ := blk8 hz2)
    | (go_at_call 12; with_reducible refine (hlo _).mono ?_; rintro e w1 ⟨rfl, hb1⟩; have hB1 := hB0.trans (hb1.mono hB0.size); have hz1 := (hb1.block _ (Array.getElem?_eq_some_iff.1 hz0).1).trans hz0; have hy1 := (hb1.block _ (Array.getElem?_eq_some_iff.1 hy0).1).trans hy0; obtain ⟨z0, z1, z2, z3, z4, z5, z6, z7⟩ := blk8 hy1))
  have hG0 := ((((({ m := by simp, r := by simp, dm := List.Pairwise.nil, dr := List.Pairwise.nil, bl := hB2 } : Grp w w2 [] []).addM hb3 hM1 ho1).addM hb4 hN1 ho2).addR hb5 hR1 ho3).addR hb6 hS1 ho4).perm (List.Perm.swap ..) (List.Perm.swap ..)
  have HMR := Lib.hid (hs1.trans hs3.symm)
  have HNS := Lib.hid (hs2.trans hs4.symm)
  have hom : MSok M1.st (0 : Nat) := by rw [hs1]; exact HC0.out
  have hon : MSok N1.st (0 : Nat) := by rw [hs2]; exact HD0.out
  have HOM := Lib.hid hom
  have HON := Lib.hid hon
  clear hom hon
  clear hM1 hN1 hR1 hS1 hs1 hs2 hs3 hs4 ho1 ho2 ho3 ho4 hb1 hb2 hb3 hb4 hb5 hb6 hB0 hB1 hB2 hB3 hB4 hB5 hB6 hz0 hz1 hz2 hz3 hz4 hy0 hy1 hy2 hy3 hy4 hy5 x0 x1 x2 x3 x4 x5 x6 x7 y0 y1 y2 y3 y4 y5 y6 y7 z0 z1 z2 z3 z4 z5 z6 z7 u0 u1 u2 u3 u4 u5 u6 u7 v0 v1 v2 v3 v4 v5 v6 v7 hlo hld hm1 hm2 hr1 hr2 HC0 HD0
  refine wp_loop (K1I w p p2 cp cp2 l k bm bn br bs N1 S1) (fun a _ => l.length - (intOf (a.tmps.getD 17 undef)).toNat) ?_ ?_
  · exact K1I.intro 0 M1 R1 rfl (by omega) hG0 HMR.out HOM.out
  clear hG0 HMR HOM
  rintro a0 wr ⟨j, M, R, u, rfl, hj, hG, hst, hok⟩
  by_cases hlt : j < l.length
  · have hx := List.getElem?_eq_getElem hlt
    generalize l[j] = a at hx
    obtain ⟨bl, off, rfl, hl63, hcl8⟩ := hA.get hx
    have hqi := hA.ok a (List.mem_of_getElem? hx)
    have hGd := hG.on ((Below.refl _ _).drew : Below wr.heap.size wr wr.drew)
    obtain ⟨r5, s5, hR5⟩ : ∃ r s, doS M.st a.client a.q = (r, s) := ⟨_, _, rfl⟩
    have hok4 := doS_ok (c := a.client) hok hqi
    have hDM : ∀ W, Grp w W [(bm, M), (bn, N1)] [(br, R), (bs, S1)] → Calls Tryz.prog 16 #[.pointer (some ⟨bm, 0, none⟩), .int .i64 a.client, .agg #[.int .u8 a.q.kind, .int .i64 a.q.slot, .int .i64 a.q.at_, .int .i64 a.q.n, .int .u32 a.q.id, .int .u8 a.q.grav, .string a.q.text]] W fun e W' => ∃ M', e = .returned (.agg (resL r5).toArray) ∧ Grp w W' [(bm, M'), (bn, N1)] [(br, R), (bs, S1)] ∧ M'.st = s5 := fun W hW => (hW.doM hok (by omega) hqi).mono fun e W' ⟨M', he, hP', hs'⟩ => ⟨M', by rw [he, hR5], hP', by rw [hs', hR5]⟩
    have hDR : ∀ W M', Grp w W [(bm, M'), (bn, N1)] [(br, R), (bs, S1)] → Calls Tryz.prog 23 #[.pointer (some ⟨br, 0, none⟩), .int .i64 a.client, .agg #[.int .u8 a.q.kind, .int .i64 a.q.slot, .int .i64 a.q.at_, .int .i64 a.q.n, .int .u32 a.q.id, .int .u8 a.q.grav, .string a.q.text]] W fun e W' => ∃ R', e = .returned (.agg (resL r5).toArray) ∧ Grp w W' [(bm, M'), (bn, N1)] [(br, R'), (bs, S1)] ∧ R'.st = s5 := fun W M' hW => (hW.doR (K := j) (by rw [← hst]; exact hok) (by omega) hqi).mono fun e W' ⟨R', he, hP', hs'⟩ => ⟨R', by rw [he, ← hst, hR5], hP', by rw [hs', ← hst, hR5]⟩
    rw [hR5] at hok4
    dsimp only at hok4
    have HDM := Lib.hid hDM
    have HDR := Lib.hid hDR
    have HOK := Lib.hid hok4
    have Kx := Lib.hid hcl8
    clear hcl8 hDM hDR hok4 hR5 hst hok hqi hG
    go_wp2
    refine wp_region_noPanic ?_
    refine wp_region_held_drew (S := fun W => W.cell? ⟨bl, off + j * 8, none⟩ = some (.int .i64 a.client) ∧ W.cell? ⟨bl, off + j * 8 + 1, none⟩ = some (.int .u8 a.q.kind) ∧ W.cell? ⟨bl, off + j * 8 + 2, none⟩ = some (.int .i64 a.q.slot) ∧ W.cell? ⟨bl, off + j * 8 + 3, none⟩ = some (.int .i64 a.q.at_) ∧ W.cell? ⟨bl, off + j * 8 + 4, none⟩ = some (.int .i64 a.q.n) ∧ W.cell? ⟨bl, off + j * 8 + 5, none⟩ = some (.int .u32 a.q.id) ∧ W.cell? ⟨bl, off + j * 8 + 6, none⟩ = some (.int .u8 a.q.grav) ∧ W.cell? ⟨bl, off + j * 8 + 7, none⟩ = some (.string a.q.text)) (by kernel_rfl) ?_ (fun hHeld => ?_)
    · first | exact Kx.out _ hG1.bl | exact Kx.out _ hGd.bl
    iterate 11 (((first | refine np_n ?_ ?_ ?_ | refine np_t 0 ?_ ?_ ?_); rotate_left 1; (· (intro w hSw; (try dsimp only at hSw); go_simp; all_goals with_reducible rfl)); (try simp only [nSO])))
    (refine np_step (i := 11) rfl (by kernel_rfl) (fun K hK => ?_); rw [if_pos (by rfl)]; go_simp; ((go_at_call 16; refine (HDM.out _ hGd).mono ?_; rintro e v1 ⟨M4, rfl, hG1, hst4⟩; have HS4 := Lib.hid hst4; clear hst4)); (try go_wp2_with fail); refine hK.out _ _ ?_ (fun hHeld => ?_); (· (first | exact Kx.out _ hG1.bl | exact Kx.out _ hGd.bl)); clear hK K; (try simp only [nSO]))
    refine wpAnyH_done (by kernel_rfl) ?_ _
    refine NoPanic.normal ?_
    have hGe := hG1.on ((Below.refl _ _).drew : Below v1.heap.size v1 v1.drew)
    go_wp2
    refine wp_region_noPanic ?_
    refine wp_region_held_drew (S := fun W => W.cell? ⟨bl, off + j * 8, none⟩ = some (.int .i64 a.client) ∧ W.cell? ⟨bl, off + j * 8 + 1, none⟩ = some (.int .u8 a.q.kind) ∧ W.cell? ⟨bl, off + j * 8 + 2, none⟩ = some (.int .i64 a.q.slot) ∧ W.cell? ⟨bl, off + j * 8 + 3, none⟩ = some (.int .i64 a.q.at_) ∧ W.cell? ⟨bl, off + j * 8 + 4, none⟩ = some (.int .i64 a.q.n) ∧ W.cell? ⟨bl, off + j * 8 + 5, none⟩ = some (.int .u32 a.q.id) ∧ W.cell? ⟨bl, off + j * 8 + 6, none⟩ = some (.int .u8 a.q.grav) ∧ W.cell? ⟨bl, off + j * 8 + 7, none⟩ = some (.string a.q.text)) (by kernel_rfl) ?_ (fun hHeld => ?_)
    · first | exact Kx.out _ hG2.bl | exact Kx.out _ hGe.bl
    iterate 11 (((first | refine np_n ?_ ?_ ?_ | refine np_t 0 ?_ ?_ ?_); rotate_left 1; (· (intro w hSw; (try dsimp only at hSw); go_simp; all_goals with_reducible rfl)); (try simp only [nSO])))
    (refine np_step (i := 11) rfl (by kernel_rfl) (fun K hK => ?_); rw [if_pos (by rfl)]; go_simp; ((go_at_call 23; refine (HDR.out _ _ hGe).mono ?_; rintro e v2 ⟨R4, rfl, hG2, hst5⟩; have HS5 := Lib.hid hst5; clear hst5)); (try go_wp2_with fail); refine hK.out _ _ ?_ (fun hHeld => ?_); (· (first | exact Kx.out _ hG2.bl | exact Kx.out _ hGe.bl)); clear hK K; (try simp only [nSO]))
    refine wpAnyH_done (by kernel_rfl) ?_ _
    refine NoPanic.normal ?_
    go_wp2
    exact ⟨K1I.intro (j + 1) M4 R4 rfl (by omega) hG2 (HS4.out.trans HS5.out.symm) (by rw [HS4.out]; exact HOK.out), by simp [intOf]; omega⟩
  obtain rfl : j = l.length := by omega
  obtain ⟨sM, hsM⟩ : ∃ s, strOf (keyL M.st) = s := ⟨_, rfl⟩
  have HKM := Lib.hid (fun W (hW : MdAt W bm M) => key_any bm M W _ hW hok)
  have hcp := hG.copyM (b := bm) (M := M) (by simp) hok
  have HKO := Lib.hid (fun W b2 N (hs : N.st = M.st) (hW : MdAt W b2 N) => (by have := key_any b2 N W (l.length : Int) hW (by rw [hs]; exact hok); rw [hs, hsM] at this; exact this : Calls Tryz.prog 18 #[.pointer (some ⟨b2, 0, none⟩)] W fun e w' => e = .returned (.string sM) ∧ Below W.heap.size W w'))
  rw [hsM] at HKM
  have hne : sM ≠ ⟨#[]⟩ := by rw [← hsM]; exact key_ne M.st
  have n1 : sM.toList.isEmpty = false := by
    cases hh : sM.toList.isEmpty with
    | false => rfl
    | true =>
      have h1 : sM.toList = [] := List.isEmpty_iff.1 hh
      rw [toList_data] at h1
      exact absurd (ByteArray.ext (Array.toList_inj.1 h1)) hne
  have n2 : (sM.toList == []) = false := by rw [← n1]; cases sM.toList <;> rfl
  have n4 : (sM.toList = []) = False := eq_false (fun h => by rw [h] at n1; cases n1)
  have HSM := Lib.hid hsM
  have HST := Lib.hid hst
  have HOK := Lib.hid hok
  clear hst hok hsM hne hlt
  go_wp2_with (first
    | (go_at_call 18; have hx := hG2; with_reducible refine (HKO.out _ bo O1 HSO.out (hG2.m (bo, O1) (by simp)).at_).mono ?_; rintro e w3 ⟨rfl, hb3⟩; have hG3 := hG2.on hb3)
    | (go_at_call 18; have hx := hG1; with_reducible refine (HKM.out _ (hG1.m (bm, M) (by simp)).at_).mono ?_; rintro e w2 ⟨rfl, hb2⟩; have hG2 := hG1.on hb2)
    | (go_at_call 15; with_reducible refine hcp.mono ?_; rintro e w1 ⟨bo, O1, rfl, hG1, hsO⟩; have HSO := Lib.hid hsO; clear hsO))
  refine wp_loop (K2I w p p2 cp cp2 l k bm bn br bs bo sM M R) (fun a _ => k.length - (intOf (a.tmps.getD 20 undef)).toNat) ?_ ?_
  · exact K2I.intro 0 N1 O1 S1 rfl (by omega) hG3 HNS.out HON.out HSO.out (by rw [HSO.out]; exact HOK.out.mono (by omega))
  clear hG hG1 hG2 hG3 HNS HON HSO hcp HKO hb2 hb3
  rintro a0 wr ⟨j, N, O, S, u, rfl, hj, hG, hst, hok, hO, hokO⟩
  by_cases hlt : j < k.length
  · have hx := List.getElem?_eq_getElem hlt
    generalize k[j] = a at hx
    obtain ⟨bl, off, rfl, hl63, hcl8⟩ := hA2.get hx
    have hqi := hA2.ok a (List.mem_of_getElem? hx)
    have hGd := hG.on ((Below.refl _ _).drew : Below wr.heap.size wr wr.drew)
    obtain ⟨r5, s5, hR5⟩ : ∃ r s, doS N.st a.client a.q = (r, s) := ⟨_, _, rfl⟩
    have hok4 := doS_ok (c := a.client) hok hqi
    have hok6 := doS_ok (c := a.client) hokO hqi
    have hO6 := runS_take (st := M.st) hx
    rw [← hO] at hO6
    have hDN : ∀ W, Grp w W [(bo, O), (bm, M), (bn, N)] [(br, R), (bs, S)] → Calls Tryz.prog 16 #[.pointer (some ⟨bn, 0, none⟩), .int .i64 a.client, .agg #[.int .u8 a.q.kind, .int .i64 a.q.slot, .int .i64 a.q.at_, .int .i64 a.q.n, .int .u32 a.q.id, .int .u8 a.q.grav, .string a.q.text]] W fun e W' => ∃ N', e = .returned (.agg (resL r5).toArray) ∧ Grp w W' [(bo, O), (bm, M), (bn, N')] [(br, R), (bs, S)] ∧ N'.st = s5 := fun W hW => ((hW.perm (List.perm_append_comm (l₁ := [(bo, O), (bm, M)]) (l₂ := [(bn, N)])) (List.Perm.refl _)).doM hok (by omega) hqi).mono fun e W' ⟨N', he, hP', hs'⟩ => ⟨N', by rw [he, hR5], hP'.perm (List.perm_append_comm (l₁ := [(bn, N')]) (l₂ := [(bo, O), (bm, M)])) (List.Perm.refl _), by rw [hs', hR5]⟩
    have hDS : ∀ W N', Grp w W [(bo, O), (bm, M), (bn, N')] [(br, R), (bs, S)] → Calls Tryz.prog 23 #[.pointer (some ⟨bs, 0, none⟩), .int .i64 a.client, .agg #[.int .u8 a.q.kind, .int .i64 a.q.slot, .int .i64 a.q.at_, .int .i64 a.q.n, .int .u32 a.q.id, .int .u8 a.q.grav, .string a.q.text]] W fun e W' => ∃ S', e = .returned (.agg (resL r5).toArray) ∧ Grp w W' [(bo, O), (bm, M), (bn, N')] [(br, R), (bs, S')] ∧ S'.st = s5 := fun W N' hW => ((hW.perm (List.Perm.refl _) (List.Perm.swap ..)).doR (K := j) (by rw [← hst]; exact hok) (by omega) hqi).mono fun e W' ⟨S', he, hP', hs'⟩ => ⟨S', by rw [he, ← hst, hR5], hP'.perm (List.Perm.refl _) (List.Perm.swap ..), by rw [hs', ← hst, hR5]⟩
    have hDO : ∀ W N' S', Grp w W [(bo, O), (bm, M), (bn, N')] [(br, R), (bs, S')] → Calls Tryz.prog 16 #[.pointer (some ⟨bo, 0, none⟩), .int .i64 a.client, .agg #[.int .u8 a.q.kind, .int .i64 a.q.slot, .int .i64 a.q.at_, .int .i64 a.q.n, .int .u32 a.q.id, .int .u8 a.q.grav, .string a.q.text]] W fun e W' => ∃ O', e = .returned (.agg (resL (doS O.st a.client a.q).1).toArray) ∧ Grp w W' [(bo, O'), (bm, M), (bn, N')] [(br, R), (bs, S')] ∧ O'.st = (doS O.st a.client a.q).2 := fun W N' S' hW => hW.doM hokO (by omega) hqi
    obtain ⟨r6, s6, hR6⟩ : ∃ r s, doS O.st a.client a.q = (r, s) := ⟨_, _, rfl⟩
    rw [hR5] at hok4
    rw [hR6] at hok6 hO6 hDO
    dsimp only at hok4 hok6 hO6 hDO
    have HDN := Lib.hid hDN
    have HDS := Lib.hid hDS
    have HDO := Lib.hid hDO
    have HK4 := Lib.hid hok4
    have HK6 := Lib.hid hok6
    have HO6 := Lib.hid hO6
    have Kx := Lib.hid hcl8
    clear hcl8 hDN hDS hDO hok4 hok6 hO6 hR5 hR6 hst hok hO hokO hqi hG
    go_wp2
    refine wp_region_noPanic ?_
    refine wp_region_held_drew (S := fun W => W.cell? ⟨bl, off + j * 8, none⟩ = some (.int .i64 a.client) ∧ W.cell? ⟨bl, off + j * 8 + 1, none⟩ = some (.int .u8 a.q.kind) ∧ W.cell? ⟨bl, off + j * 8 + 2, none⟩ = some (.int .i64 a.q.slot) ∧ W.cell? ⟨bl, off + j * 8 + 3, none⟩ = some (.int .i64 a.q.at_) ∧ W.cell? ⟨bl, off + j * 8 + 4, none⟩ = some (.int .i64 a.q.n) ∧ W.cell? ⟨bl, off + j * 8 + 5, none⟩ = some (.int .u32 a.q.id) ∧ W.cell? ⟨bl, off + j * 8 + 6, none⟩ = some (.int .u8 a.q.grav) ∧ W.cell? ⟨bl, off + j * 8 + 7, none⟩ = some (.string a.q.text)) (by kernel_rfl) ?_ (fun hHeld => ?_)
    · first | exact Kx.out _ hG1.bl | exact Kx.out _ hGd.bl
    iterate 11 (((first | refine np_n ?_ ?_ ?_ | refine np_t 0 ?_ ?_ ?_); rotate_left 1; (· (intro w hSw; (try dsimp only at hSw); go_simp; all_goals with_reducible rfl)); (try simp only [nSO])))
    (refine np_step (i := 11) rfl (by kernel_rfl) (fun K hK => ?_); rw [if_pos (by rfl)]; go_simp; ((go_at_call 16; refine (HDN.out _ hGd).mono ?_; rintro e v1 ⟨N4, rfl, hG1, hst4⟩; have HS4 := Lib.hid hst4; clear hst4)); (try go_wp2_with fail); refine hK.out _ _ ?_ (fun hHeld => ?_); (· (first | exact Kx.out _ hG1.bl | exact Kx.out _ hGd.bl)); clear hK K; (try simp only [nSO]))
    refine wpAnyH_done (by kernel_rfl) ?_ _
    refine NoPanic.normal ?_
    have hGe := hG1.on ((Below.refl _ _).drew : Below v1.heap.size v1 v1.drew)
    go_wp2
    refine wp_region_noPanic ?_
    refine wp_region_held_drew (S := fun W => W.cell? ⟨bl, off + j * 8, none⟩ = some (.int .i64 a.client) ∧ W.cell? ⟨bl, off + j * 8 + 1, none⟩ = some (.int .u8 a.q.kind) ∧ W.cell? ⟨bl, off + j * 8 + 2, none⟩ = some (.int .i64 a.q.slot) ∧ W.cell? ⟨bl, off + j * 8 + 3, none⟩ = some (.int .i64 a.q.at_) ∧ W.cell? ⟨bl, off + j * 8 + 4, none⟩ = some (.int .i64 a.q.n) ∧ W.cell? ⟨bl, off + j * 8 + 5, none⟩ = some (.int .u32 a.q.id) ∧ W.cell? ⟨bl, off + j * 8 + 6, none⟩ = some (.int .u8 a.q.grav) ∧ W.cell? ⟨bl, off + j * 8 + 7, none⟩ = some (.string a.q.text)) (by kernel_rfl) ?_ (fun hHeld => ?_)
    · first | exact Kx.out _ hG2.bl | exact Kx.out _ hGe.bl
    iterate 11 (((first | refine np_n ?_ ?_ ?_ | refine np_t 0 ?_ ?_ ?_); rotate_left 1; (· (intro w hSw; (try dsimp only at hSw); go_simp; all_goals with_reducible rfl)); (try simp only [nSO])))
    (refine np_step (i := 11) rfl (by kernel_rfl) (fun K hK => ?_); rw [if_pos (by rfl)]; go_simp; ((go_at_call 23; refine (HDS.out _ _ hGe).mono ?_; rintro e v2 ⟨S4, rfl, hG2, hst5⟩; have HS5 := Lib.hid hst5; clear hst5)); (try go_wp2_with fail); refine hK.out _ _ ?_ (fun hHeld => ?_); (· (first | exact Kx.out _ hG2.bl | exact Kx.out _ hGe.bl)); clear hK K; (try simp only [nSO]))
    refine wpAnyH_done (by kernel_rfl) ?_ _
    refine NoPanic.normal ?_
    have hGf := hG2.on ((Below.refl _ _).drew : Below v2.heap.size v2 v2.drew)
    go_wp2
    refine wp_region_noPanic ?_
    refine wp_region_held_drew (S := fun W => W.cell? ⟨bl, off + j * 8, none⟩ = some (.int .i64 a.client) ∧ W.cell? ⟨bl, off + j * 8 + 1, none⟩ = some (.int .u8 a.q.kind) ∧ W.cell? ⟨bl, off + j * 8 + 2, none⟩ = some (.int .i64 a.q.slot) ∧ W.cell? ⟨bl, off + j * 8 + 3, none⟩ = some (.int .i64 a.q.at_) ∧ W.cell? ⟨bl, off + j * 8 + 4, none⟩ = some (.int .i64 a.q.n) ∧ W.cell? ⟨bl, off + j * 8 + 5, none⟩ = some (.int .u32 a.q.id) ∧ W.cell? ⟨bl, off + j * 8 + 6, none⟩ = some (.int .u8 a.q.grav) ∧ W.cell? ⟨bl, off + j * 8 + 7, none⟩ = some (.string a.q.text)) (by kernel_rfl) ?_ (fun hHeld => ?_)
    · first | exact Kx.out _ hG3.bl | exact Kx.out _ hGf.bl
    iterate 11 (((first | refine np_n ?_ ?_ ?_ | refine np_t 0 ?_ ?_ ?_); rotate_left 1; (· (intro w hSw; (try dsimp only at hSw); go_simp; all_goals with_reducible rfl)); (try simp only [nSO])))
    (refine np_step (i := 11) rfl (by kernel_rfl) (fun K hK => ?_); rw [if_pos (by rfl)]; go_simp; ((go_at_call 16; refine (HDO.out _ _ _ hGf).mono ?_; rintro e v3 ⟨O4, rfl, hG3, hst6⟩; have HS6 := Lib.hid hst6; clear hst6)); (try go_wp2_with fail); refine hK.out _ _ ?_ (fun hHeld => ?_); (· (first | exact Kx.out _ hG3.bl | exact Kx.out _ hGf.bl)); clear hK K; (try simp only [nSO]))
    refine wpAnyH_done (by kernel_rfl) ?_ _
    refine NoPanic.normal ?_
    go_wp2
    exact ⟨K2I.intro (j + 1) N4 O4 S4 rfl (by omega) hG3 (HS4.out.trans HS5.out.symm) (by rw [HS4.out]; exact HK4.out) (HS6.out.trans HO6.out.symm) (by rw [HS6.out]; exact HK6.out.mono (by omega)), by simp [intOf]; omega⟩
  obtain rfl : j = k.length := by omega
  rw [List.take_length] at hO
  have hcp := hG.copyR (b := br) (M := R) (by simp) (K := (l.length : Int)) (by rw [← HST.out]; exact HOK.out)
  have HNS := Lib.hid hst
  have HOO := Lib.hid hO
  have HKN := Lib.hid hok
  have HKO := Lib.hid hokO
  clear hst hok hO hokO hlt
  go_wp2_with (go_at_call 25; with_reducible refine hcp.mono ?_; rintro e w1 ⟨bt, T1, rfl, hG1, hsO⟩; have HSO := Lib.hid hsO; clear hsO)
  refine wp_loop (K3I w p p2 cp cp2 l k bm bn br bs bo bt sM M N O R S) (fun a _ => k.length - (intOf (a.tmps.getD 22 undef)).toNat) ?_ ?_
  · exact K3I.intro 0 T1 rfl (by omega) hG1 HSO.out (by rw [HSO.out, ← HST.out]; exact HOK.out.mono (by omega))
  clear hG hG1 HSO hcp
  rintro a0 wr ⟨j, T, u, rfl, hj, hG, hT, hok⟩
  by_cases hlt : j < k.length
  · have hx := List.getElem?_eq_getElem hlt
    generalize k[j] = a at hx
    obtain ⟨bl, off, rfl, hl63, hcl8⟩ := hA2.get hx
    have hqi := hA2.ok a (List.mem_of_getElem? hx)
    have hGd := hG.on ((Below.refl _ _).drew : Below wr.heap.size wr wr.drew)
    have hok4 := doS_ok (c := a.client) hok hqi
    have hT6 := runS_take (st := R.st) hx
    rw [← hT] at hT6
    have hDT : ∀ W, Grp w W [(bo, O), (bm, M), (bn, N)] [(bt, T), (br, R), (bs, S)] → Calls Tryz.prog 23 #[.pointer (some ⟨bt, 0, none⟩), .int .i64 a.client, .agg #[.int .u8 a.q.kind, .int .i64 a.q.slot, .int .i64 a.q.at_, .int .i64 a.q.n, .int .u32 a.q.id, .int .u8 a.q.grav, .string a.q.text]] W fun e W' => ∃ T', e = .returned (.agg (resL (doS T.st a.client a.q).1).toArray) ∧ Grp w W' [(bo, O), (bm, M), (bn, N)] [(bt, T'), (br, R), (bs, S)] ∧ T'.st = (doS T.st a.client a.q).2 := fun W hW => hW.doR hok (by omega) hqi
    obtain ⟨r5, s5, hR5⟩ : ∃ r s, doS T.st a.client a.q = (r, s) := ⟨_, _, rfl⟩
    rw [hR5] at hok4 hT6 hDT
    dsimp only at hok4 hT6 hDT
    have HDT := Lib.hid hDT
    have HK4 := Lib.hid hok4
    have HT6 := Lib.hid hT6
    have Kx := Lib.hid hcl8
    clear hcl8 hDT hok4 hT6 hR5 hT hok hqi hG
    go_wp2
    refine wp_region_noPanic ?_
    refine wp_region_held_drew (S := fun W => W.cell? ⟨bl, off + j * 8, none⟩ = some (.int .i64 a.client) ∧ W.cell? ⟨bl, off + j * 8 + 1, none⟩ = some (.int .u8 a.q.kind) ∧ W.cell? ⟨bl, off + j * 8 + 2, none⟩ = some (.int .i64 a.q.slot) ∧ W.cell? ⟨bl, off + j * 8 + 3, none⟩ = some (.int .i64 a.q.at_) ∧ W.cell? ⟨bl, off + j * 8 + 4, none⟩ = some (.int .i64 a.q.n) ∧ W.cell? ⟨bl, off + j * 8 + 5, none⟩ = some (.int .u32 a.q.id) ∧ W.cell? ⟨bl, off + j * 8 + 6, none⟩ = some (.int .u8 a.q.grav) ∧ W.cell? ⟨bl, off + j * 8 + 7, none⟩ = some (.string a.q.text)) (by kernel_rfl) ?_ (fun hHeld => ?_)
    · first | exact Kx.out _ hG1.bl | exact Kx.out _ hGd.bl
    iterate 11 (((first | refine np_n ?_ ?_ ?_ | refine np_t 0 ?_ ?_ ?_); rotate_left 1; (· (intro w hSw; (try dsimp only at hSw); go_simp; all_goals with_reducible rfl)); (try simp only [nSO])))
    (refine np_step (i := 11) rfl (by kernel_rfl) (fun K hK => ?_); rw [if_pos (by rfl)]; go_simp; ((go_at_call 23; refine (HDT.out _ hGd).mono ?_; rintro e v1 ⟨T4, rfl, hG1, hst4⟩; have HS4 := Lib.hid hst4; clear hst4)); (try go_wp2_with fail); refine hK.out _ _ ?_ (fun hHeld => ?_); (· (first | exact Kx.out _ hG1.bl | exact Kx.out _ hGd.bl)); clear hK K; (try simp only [nSO]))
    refine wpAnyH_done (by kernel_rfl) ?_ _
    refine NoPanic.normal ?_
    go_wp2
    exact ⟨K3I.intro (j + 1) T4 rfl (by omega) hG1 (HS4.out.trans HT6.out.symm) (by rw [HS4.out]; exact HK4.out.mono (by omega)), by simp [intOf]; omega⟩
  obtain rfl : j = k.length := by omega
  rw [List.take_length] at hT
  have hOT : O.st = T.st := by rw [HOO.out, hT, HST.out]
  have okT : MSok T.st (l.length + k.length) := hok
  have okM := HOK.out
  have okN := HKN.out
  have okO := HKO.out
  have okR : MSok R.st l.length := by rw [← HST.out]; exact okM
  have okS : MSok S.st k.length := by rw [← HNS.out]; exact okN
  obtain ⟨sN, hsN⟩ : ∃ s, strOf (keyL N.st) = s := ⟨_, rfl⟩
  obtain ⟨sO, hsO⟩ : ∃ s, strOf (keyL O.st) = s := ⟨_, rfl⟩
  have b1 := keyB okM okN (by omega) (by omega)
  have b2 := keyB okO okM (by omega) (by omega)
  have b3 := keyB okO okN (by omega) (by omega)
  rw [HSM.out, hsN] at b1
  rw [HSM.out, hsO] at b2
  rw [hsO, hsN] at b3
  rw [HST.out, HNS.out] at b1
  rw [HST.out, hOT] at b2
  rw [HNS.out, hOT] at b3
  obtain ⟨y1, hy1⟩ : ∃ y, (sM.toList == sN.toList) = y := ⟨_, rfl⟩
  obtain ⟨y2, hy2⟩ : ∃ y, (sO.toList == sM.toList) = y := ⟨_, rfl⟩
  obtain ⟨y3, hy3⟩ : ∃ y, (sO.toList == sN.toList) = y := ⟨_, rfl⟩
  rw [hy1] at b1
  rw [hy2] at b2
  rw [hy3] at b3
  have HN := Lib.hid (fun W (hW : Grp w W [(bo, O), (bm, M), (bn, N)] [(bt, T), (br, R), (bs, S)]) => (by have := key_any bn N W _ (hW.m (bn, N) (by simp)).at_ okN; rw [hsN] at this; exact this : Calls Tryz.prog 18 #[.pointer (some ⟨bn, 0, none⟩)] W fun e w' => e = .returned (.string sN) ∧ Below W.heap.size W w'))
  have HO := Lib.hid (fun W (hW : Grp w W [(bo, O), (bm, M), (bn, N)] [(bt, T), (br, R), (bs, S)]) => (by have := key_any bo O W _ (hW.m (bo, O) (by simp)).at_ okO; rw [hsO] at this; exact this : Calls Tryz.prog 18 #[.pointer (some ⟨bo, 0, none⟩)] W fun e w' => e = .returned (.string sO) ∧ Below W.heap.size W w'))
  have HM := Lib.hid (fun W (hW : Grp w W [(bo, O), (bm, M), (bn, N)] [(bt, T), (br, R), (bs, S)]) => (by have := key_any bm M W _ (hW.m (bm, M) (by simp)).at_ okM; rw [HSM.out] at this; exact this : Calls Tryz.prog 18 #[.pointer (some ⟨bm, 0, none⟩)] W fun e w' => e = .returned (.string sM) ∧ Below W.heap.size W w'))
  have H1 := Lib.hid (fun W (hW : Grp w W [(bo, O), (bm, M), (bn, N)] [(bt, T), (br, R), (bs, S)]) => rstate_is br bs R S W (hW.r (br, R) (by simp)).at_ (hW.r (bs, S) (by simp)).at_ okR okS b1)
  have H2 := Lib.hid (fun W (hW : Grp w W [(bo, O), (bm, M), (bn, N)] [(bt, T), (br, R), (bs, S)]) => rstate_is bt br T R W (hW.r (bt, T) (by simp)).at_ (hW.r (br, R) (by simp)).at_ okT okR b2)
  have H3 := Lib.hid (fun W (hW : Grp w W [(bo, O), (bm, M), (bn, N)] [(bt, T), (br, R), (bs, S)]) => rstate_is bt bs T S W (hW.r (bt, T) (by simp)).at_ (hW.r (bs, S) (by simp)).at_ okT okS b3)
  have S1' := Lib.hid (fun W (hW : Grp w W [(bo, O), (bm, M), (bn, N)] [(bt, T), (br, R), (bs, S)]) => rsame_models bm br M R W ⟨(hW.m (bm, M) (by simp)).at_, (hW.r (br, R) (by simp)).at_⟩ HST.out okM)
  have S2' := Lib.hid (fun W (hW : Grp w W [(bo, O), (bm, M), (bn, N)] [(bt, T), (br, R), (bs, S)]) => rsame_models bo bt O T W ⟨(hW.m (bo, O) (by simp)).at_, (hW.r (bt, T) (by simp)).at_⟩ hOT okO)
  clear b1 b2 b3 okT okM okN okO okR okS hOT hT hok hsN hsO HOO HKM HKN HKO HST HNS HSM HOK hlt
  go_wp2_with (first
    | (go_at_call 13; refine (known_any _).mono ?_; rintro e w9 ⟨rfl, hb9⟩; have hG := hG.on hb9)
    | (go_at_call 22; first | (with_reducible refine (S1'.out _ hG).mono ?_; rintro e w9 ⟨rfl, hb9⟩; have hG := hG.on hb9) | (with_reducible refine (S2'.out _ hG).mono ?_; rintro e w9 ⟨rfl, hb9⟩; have hG := hG.on hb9))
    | (go_at_call 26; first | (with_reducible refine (H1.out _ hG).mono ?_; rintro e w9 ⟨rfl, hb9⟩; have hG := hG.on hb9) | (with_reducible refine (H2.out _ hG).mono ?_; rintro e w9 ⟨rfl, hb9⟩; have hG := hG.on hb9) | (with_reducible refine (H3.out _ hG).mono ?_; rintro e w9 ⟨rfl, hb9⟩; have hG := hG.on hb9))
    | (go_at_call 18; first | (with_reducible refine (HN.out _ hG).mono ?_; rintro e w9 ⟨rfl, hb9⟩; have hG := hG.on hb9) | (with_reducible refine (HO.out _ hG).mono ?_; rintro e w9 ⟨rfl, hb9⟩; have hG := hG.on hb9) | (with_reducible refine (HM.out _ hG).mono ?_; rintro e w9 ⟨rfl, hb9⟩; have hG := hG.on hb9)))
  go_returns
  exact ⟨rfl, hG.bl⟩
end Go.Proofs.YtlealeecmmpckaaGreat
