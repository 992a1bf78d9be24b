/- HistoryPrefixes: the walk. -/
import Derived.Test.YtjinnlmmlbmodaaHisPp
import Derived.Test.YtjinnlmmlbmodaaHisEq
namespace Go.Proofs.Ytjinnlmmlbmodaa
open Go.RowKit Go.Lib Go.Shelf
open KitI (iv IRow own_below infoI eqi_any)
attribute [local go_sem, local simp] callL_0 callL_1 callL_2 callL_3 callL_4 callL_5 callL_6 callL_7 callL_8 callL_9 callL_10 callL_11 callL_12 callL_13 callL_14 callL_15 callL_16 callL_17 callL_18 callL_19 callL_20 callL_21 callL_22 callL_23 callL_24 callL_25 callL_26 resL_0 resL_1 resL_2 resL_3 resL_4 resL_5 resL_6 resL_7 resL_8 resL_9 resL_10 resL_11 resL_12 callG_0 callG_1 callG_2 callG_3 callG_4 callG_5 callG_6 callG_7 callG_8 callG_9 callG_10 callG_11 callG_12 callG_13 callG_14 callG_15 callG_16 callG_17 callG_18 callG_19 callG_20 callG_21 callG_22 callG_23 callG_24 callG_25 callG_26 resG_0 resG_1 resG_2 resG_3 resG_4 resG_5 resG_6 resG_7 resG_8 resG_9 resG_10 resG_11 resG_12 callL_len resL_len
attribute [local go_sem ↓] loadCall_eq loadRes_eq
attribute [local go_sem] ld_new ld_first ld_second ldr_new st_new

/-- The whole history and its prefix. -/
structure QI (w : World) (p1 : Option Addr) (cap1 : Nat) (hs : List CallV) (pp : Option Addr) (cp : Nat) (ps : List CallV) (W : World) : Prop where
  h : HRow W p1 cap1 hs
  p : HRow W pp cp ps
  bl : Below w.heap.size w W
theorem QI.on {w : World} {p1 : Option Addr} {cap1 : Nat} {hs : List CallV} {pp : Option Addr} {cp : Nat} {ps : List CallV} {W W' : World} (h : QI w p1 cap1 hs pp cp ps W) (hb : Below W.heap.size W W') : QI w p1 cap1 hs pp cp ps W' := ⟨h.h.on hb, h.p.on hb, h.bl.trans (hb.mono h.bl.size)⟩
theorem cut_Ok {s : Int} {c : CallV} (hs : -1 ≤ s) (h : c.Ok) : (cutV s c).Ok := by
  have a1 := (cut_inv s c).1
  have a2 := cut_ans s c
  have a3 := cut_took s c
  have a4 := cut_rank s c
  have a5 := cut_steps s c
  obtain ⟨h1, h2, h3, h4, h5, h6, h7, h8, h9, h10⟩ := h
  refine ⟨by omega, by omega, ?_, ?_, ?_, ?_, ?_, ?_, ?_, ?_⟩ <;> (first | rw [a2] | rw [a3] | rw [a4] | rw [a5]) <;> split <;> omega
/-- A row of numbers that can be grown into: its form. -/
theorem row_form {W : World} {base : Nat} {e : TypeId} {n : Nat} {v : Value} {zs : List Value} (h : W.ownsRow base e 1 v n zs) : ∃ p c, v = .slice p n c ∧ n ≤ c ∧ ((p = none ∧ n = 0 ∧ c = 0) ∨ ∃ g, p = some ⟨g, 0, none⟩ ∧ ∀ j, j < n → W.cell? ⟨g, j, none⟩ = zs[j]?) := by
  rcases h.2 with ⟨h1, h2⟩ | ⟨g, cap, cur, rfl, h2, h3, h4, _⟩
  · exact ⟨none, 0, by rw [h1, h2], by omega, .inl ⟨rfl, h2, rfl⟩⟩
  · exact ⟨_, _, rfl, h4, .inr ⟨g, rfl, fun j hj => h.cellAt j (by omega)⟩⟩
theorem pref_idem (s : Int) (cs : List CallV) : (prefS s cs).map CallV.pure = prefS s cs := by
  unfold prefS
  rw [List.map_map]
  rfl
theorem pref_pure (s : Int) (cs : List CallV) : prefS s (cs.map CallV.pure) = prefS s cs := by
  unfold prefS
  rw [List.filter_map, List.map_map]
  refine List.map_congr_left fun c _ => ?_
  exact cut_pure (c := c) (c' := c.pure) rfl
theorem bef_pure {a b c d : CallV} (h1 : a.pure = c.pure) (h2 : b.pure = d.pure) : befB a b = befB c d := by
  have e1 : a.answered = c.answered := (congrArg CallV.answered h1 : a.pure.answered = c.pure.answered)
  have e2 : b.invoked = d.invoked := (congrArg CallV.invoked h2 : b.pure.invoked = d.pure.invoked)
  unfold befB
  rw [e1, e2]
theorem bef_same {hs ps : List CallV} {s : Int} (h0 : (checkP hs).2 = 0) (hm : ps.map CallV.pure = prefS s hs) {i j : Nat} {pa pb ha hb : CallV} (h1 : ps[i]? = some pa) (h2 : ps[j]? = some pb) (h3 : hs[i]? = some ha) (h4 : hs[j]? = some hb) : befB pa pb = befB ha hb := by
  have g1 : (prefS s hs)[i]? = some pa.pure := by rw [← hm, List.getElem?_map, h1]; rfl
  have g2 : (prefS s hs)[j]? = some pb.pure := by rw [← hm, List.getElem?_map, h2]; rfl
  rw [← pref_bef h0 g1 g2 h3 h4]
  exact bef_pure rfl rfl
theorem crow_some {W : World} {p : Option Addr} {cap : Nat} {cs : List CallV} (h : CRow W p cap cs) {i : Nat} (hi : i < cs.length) : ∃ b off, p = some ⟨b, off, none⟩ ∧ cs.length ≤ cap ∧ b < W.heap.size ∧ CAt W b off cs := by
  rcases h with ⟨_, _, h⟩ | h
  · rw [h] at hi; simp at hi
  · exact h
/-- The loops over the pairs. -/
def PwI (w : World) (p1 : Option Addr) (cap1 : Nat) (hs : List CallV) (pp : Option Addr) (cp : Nat) (ps : List CallV) (a : Act) (wr : World) : Prop :=
  ∃ (i : Nat) (u : Nat → Value), a = { tmps := #[u 0, u 1, u 2, u 3, u 4, u 5, .bool false, .slice p1 hs.length cap1, .slice pp ps.length cp, u 9, u 10, u 11, u 12, u 13, u 14, u 15, u 16, u 17, u 18, u 19, u 20, u 21, .int .i64 i, u 23, u 24, u 25, u 26, u 27, u 28, u 29, u 30, u 31, u 32, u 33, u 34, u 35, u 36, u 37, u 38, u 39, u 40, u 41, u 42, u 43, u 44, u 45, u 46, u 47, u 48, u 49, u 50, u 51, u 52, u 53, u 54, u 55, u 56, u 57, u 58, u 59, u 60, u 61, u 62, u 63, u 64, u 65, u 66, u 67, u 68, u 69, u 70, u 71, u 72, u 73, u 74, u 75, u 76, u 77, u 78, u 79, u 80, u 81, u 82, u 83, u 84, u 85, u 86, u 87, u 88, u 89, u 90, u 91, u 92, u 93, u 94, u 95, u 96, u 97, u 98, u 99, u 100, u 101, u 102, u 103, u 104, u 105, u 106, u 107, u 108, u 109, u 110, u 111, u 112, u 113, u 114, u 115, u 116, u 117, u 118, u 119, u 120, u 121, u 122, u 123, u 124, u 125, u 126, u 127, u 128, u 129, u 130, u 131, u 132, u 133, u 134, u 135, u 136, u 137, u 138, u 139, u 140, u 141, u 142, u 143, u 144, u 145, u 146, u 147, u 148, u 149, u 150, u 151, u 152, u 153, u 154, u 155, u 156, u 157, u 158, u 159, u 160, u 161, u 162, u 163, u 164, u 165, u 166, u 167, u 168, u 169, u 170, u 171], defers := [] } ∧ i ≤ ps.length ∧ QI w p1 cap1 hs pp cp ps wr
theorem PwI.intro {w : World} {p1 : Option Addr} {cap1 : Nat} {hs : List CallV} {pp : Option Addr} {cp : Nat} {ps : List CallV} {a : Act} {wr : World} (i : Nat) (h : a = { tmps := #[a.tmps.getD 0 undef, a.tmps.getD 1 undef, a.tmps.getD 2 undef, a.tmps.getD 3 undef, a.tmps.getD 4 undef, a.tmps.getD 5 undef, .bool false, .slice p1 hs.length cap1, .slice pp ps.length cp, a.tmps.getD 9 undef, a.tmps.getD 10 undef, a.tmps.getD 11 undef, a.tmps.getD 12 undef, a.tmps.getD 13 undef, a.tmps.getD 14 undef, a.tmps.getD 15 undef, a.tmps.getD 16 undef, a.tmps.getD 17 undef, a.tmps.getD 18 undef, a.tmps.getD 19 undef, a.tmps.getD 20 undef, a.tmps.getD 21 undef, .int .i64 i, a.tmps.getD 23 undef, a.tmps.getD 24 undef, a.tmps.getD 25 undef, a.tmps.getD 26 undef, a.tmps.getD 27 undef, a.tmps.getD 28 undef, a.tmps.getD 29 undef, a.tmps.getD 30 undef, a.tmps.getD 31 undef, a.tmps.getD 32 undef, a.tmps.getD 33 undef, a.tmps.getD 34 undef, a.tmps.getD 35 undef, a.tmps.getD 36 undef, a.tmps.getD 37 undef, a.tmps.getD 38 undef, a.tmps.getD 39 undef, a.tmps.getD 40 undef, a.tmps.getD 41 undef, a.tmps.getD 42 undef, a.tmps.getD 43 undef, a.tmps.getD 44 undef, a.tmps.getD 45 undef, a.tmps.getD 46 undef, a.tmps.getD 47 undef, a.tmps.getD 48 undef, a.tmps.getD 49 undef, a.tmps.getD 50 undef, a.tmps.getD 51 undef, a.tmps.getD 52 undef, a.tmps.getD 53 undef, a.tmps.getD 54 undef, a.tmps.getD 55 undef, a.tmps.getD 56 undef, a.tmps.getD 57 undef, a.tmps.getD 58 undef, a.tmps.getD 59 undef, a.tmps.getD 60 undef, a.tmps.getD 61 undef, a.tmps.getD 62 undef, a.tmps.getD 63 undef, a.tmps.getD 64 undef, a.tmps.getD 65 undef, a.tmps.getD 66 undef, a.tmps.getD 67 undef, a.tmps.getD 68 undef, a.tmps.getD 69 undef, a.tmps.getD 70 undef, a.tmps.getD 71 undef, a.tmps.getD 72 undef, a.tmps.getD 73 undef, a.tmps.getD 74 undef, a.tmps.getD 75 undef, a.tmps.getD 76 undef, a.tmps.getD 77 undef, a.tmps.getD 78 undef, a.tmps.getD 79 undef, a.tmps.getD 80 undef, a.tmps.getD 81 undef, a.tmps.getD 82 undef, a.tmps.getD 83 undef, a.tmps.getD 84 undef, a.tmps.getD 85 undef, a.tmps.getD 86 undef, a.tmps.getD 87 undef, a.tmps.getD 88 undef, a.tmps.getD 89 undef, a.tmps.getD 90 undef, a.tmps.getD 91 undef, a.tmps.getD 92 undef, a.tmps.getD 93 undef, a.tmps.getD 94 undef, a.tmps.getD 95 undef, a.tmps.getD 96 undef, a.tmps.getD 97 undef, a.tmps.getD 98 undef, a.tmps.getD 99 undef, a.tmps.getD 100 undef, a.tmps.getD 101 undef, a.tmps.getD 102 undef, a.tmps.getD 103 undef, a.tmps.getD 104 undef, a.tmps.getD 105 undef, a.tmps.getD 106 undef, a.tmps.getD 107 undef, a.tmps.getD 108 undef, a.tmps.getD 109 undef, a.tmps.getD 110 undef, a.tmps.getD 111 undef, a.tmps.getD 112 undef, a.tmps.getD 113 undef, a.tmps.getD 114 undef, a.tmps.getD 115 undef, a.tmps.getD 116 undef, a.tmps.getD 117 undef, a.tmps.getD 118 undef, a.tmps.getD 119 undef, a.tmps.getD 120 undef, a.tmps.getD 121 undef, a.tmps.getD 122 undef, a.tmps.getD 123 undef, a.tmps.getD 124 undef, a.tmps.getD 125 undef, a.tmps.getD 126 undef, a.tmps.getD 127 undef, a.tmps.getD 128 undef, a.tmps.getD 129 undef, a.tmps.getD 130 undef, a.tmps.getD 131 undef, a.tmps.getD 132 undef, a.tmps.getD 133 undef, a.tmps.getD 134 undef, a.tmps.getD 135 undef, a.tmps.getD 136 undef, a.tmps.getD 137 undef, a.tmps.getD 138 undef, a.tmps.getD 139 undef, a.tmps.getD 140 undef, a.tmps.getD 141 undef, a.tmps.getD 142 undef, a.tmps.getD 143 undef, a.tmps.getD 144 undef, a.tmps.getD 145 undef, a.tmps.getD 146 undef, a.tmps.getD 147 undef, a.tmps.getD 148 undef, a.tmps.getD 149 undef, a.tmps.getD 150 undef, a.tmps.getD 151 undef, a.tmps.getD 152 undef, a.tmps.getD 153 undef, a.tmps.getD 154 undef, a.tmps.getD 155 undef, a.tmps.getD 156 undef, a.tmps.getD 157 undef, a.tmps.getD 158 undef, a.tmps.getD 159 undef, a.tmps.getD 160 undef, a.tmps.getD 161 undef, a.tmps.getD 162 undef, a.tmps.getD 163 undef, a.tmps.getD 164 undef, a.tmps.getD 165 undef, a.tmps.getD 166 undef, a.tmps.getD 167 undef, a.tmps.getD 168 undef, a.tmps.getD 169 undef, a.tmps.getD 170 undef, a.tmps.getD 171 undef], defers := [] })
    (hi : i ≤ ps.length) (hI : QI w p1 cap1 hs pp cp ps wr) : PwI w p1 cap1 hs pp cp ps a wr := ⟨i, fun i => a.tmps.getD i undef, h, hi, hI⟩
def PwJ (w : World) (p1 : Option Addr) (cap1 : Nat) (hs : List CallV) (pp : Option Addr) (cp : Nat) (ps : List CallV) (i : Nat) (a : Act) (wr : World) : Prop :=
  ∃ (j : Nat) (u : Nat → Value), a = { tmps := #[u 0, u 1, u 2, u 3, u 4, u 5, .bool false, .slice p1 hs.length cap1, .slice pp ps.length cp, u 9, u 10, u 11, u 12, u 13, u 14, u 15, u 16, u 17, u 18, u 19, u 20, u 21, .int .i64 i, .int .i64 j, u 24, u 25, u 26, u 27, u 28, u 29, u 30, u 31, u 32, u 33, u 34, u 35, u 36, u 37, u 38, u 39, u 40, u 41, u 42, u 43, u 44, u 45, u 46, u 47, u 48, u 49, u 50, u 51, u 52, u 53, u 54, u 55, u 56, u 57, u 58, u 59, u 60, u 61, u 62, u 63, u 64, u 65, u 66, u 67, u 68, u 69, u 70, u 71, u 72, u 73, u 74, u 75, u 76, u 77, u 78, u 79, u 80, u 81, u 82, u 83, u 84, u 85, u 86, u 87, u 88, u 89, u 90, u 91, u 92, u 93, u 94, u 95, u 96, u 97, u 98, u 99, u 100, u 101, u 102, u 103, u 104, u 105, u 106, u 107, u 108, u 109, u 110, u 111, u 112, u 113, u 114, u 115, u 116, u 117, u 118, u 119, u 120, u 121, u 122, u 123, u 124, u 125, u 126, u 127, u 128, u 129, u 130, u 131, u 132, u 133, u 134, u 135, u 136, u 137, u 138, u 139, u 140, u 141, u 142, u 143, u 144, u 145, u 146, u 147, u 148, u 149, u 150, u 151, u 152, u 153, u 154, u 155, u 156, u 157, u 158, u 159, u 160, u 161, u 162, u 163, u 164, u 165, u 166, u 167, u 168, u 169, u 170, u 171], defers := [] } ∧ j ≤ ps.length ∧ QI w p1 cap1 hs pp cp ps wr
theorem PwJ.intro {w : World} {p1 : Option Addr} {cap1 : Nat} {hs : List CallV} {pp : Option Addr} {cp : Nat} {ps : List CallV} {i : Nat} {a : Act} {wr : World} (j : Nat) (h : a = { tmps := #[a.tmps.getD 0 undef, a.tmps.getD 1 undef, a.tmps.getD 2 undef, a.tmps.getD 3 undef, a.tmps.getD 4 undef, a.tmps.getD 5 undef, .bool false, .slice p1 hs.length cap1, .slice pp ps.length cp, a.tmps.getD 9 undef, a.tmps.getD 10 undef, a.tmps.getD 11 undef, a.tmps.getD 12 undef, a.tmps.getD 13 undef, a.tmps.getD 14 undef, a.tmps.getD 15 undef, a.tmps.getD 16 undef, a.tmps.getD 17 undef, a.tmps.getD 18 undef, a.tmps.getD 19 undef, a.tmps.getD 20 undef, a.tmps.getD 21 undef, .int .i64 i, .int .i64 j, a.tmps.getD 24 undef, a.tmps.getD 25 undef, a.tmps.getD 26 undef, a.tmps.getD 27 undef, a.tmps.getD 28 undef, a.tmps.getD 29 undef, a.tmps.getD 30 undef, a.tmps.getD 31 undef, a.tmps.getD 32 undef, a.tmps.getD 33 undef, a.tmps.getD 34 undef, a.tmps.getD 35 undef, a.tmps.getD 36 undef, a.tmps.getD 37 undef, a.tmps.getD 38 undef, a.tmps.getD 39 undef, a.tmps.getD 40 undef, a.tmps.getD 41 undef, a.tmps.getD 42 undef, a.tmps.getD 43 undef, a.tmps.getD 44 undef, a.tmps.getD 45 undef, a.tmps.getD 46 undef, a.tmps.getD 47 undef, a.tmps.getD 48 undef, a.tmps.getD 49 undef, a.tmps.getD 50 undef, a.tmps.getD 51 undef, a.tmps.getD 52 undef, a.tmps.getD 53 undef, a.tmps.getD 54 undef, a.tmps.getD 55 undef, a.tmps.getD 56 undef, a.tmps.getD 57 undef, a.tmps.getD 58 undef, a.tmps.getD 59 undef, a.tmps.getD 60 undef, a.tmps.getD 61 undef, a.tmps.getD 62 undef, a.tmps.getD 63 undef, a.tmps.getD 64 undef, a.tmps.getD 65 undef, a.tmps.getD 66 undef, a.tmps.getD 67 undef, a.tmps.getD 68 undef, a.tmps.getD 69 undef, a.tmps.getD 70 undef, a.tmps.getD 71 undef, a.tmps.getD 72 undef, a.tmps.getD 73 undef, a.tmps.getD 74 undef, a.tmps.getD 75 undef, a.tmps.getD 76 undef, a.tmps.getD 77 undef, a.tmps.getD 78 undef, a.tmps.getD 79 undef, a.tmps.getD 80 undef, a.tmps.getD 81 undef, a.tmps.getD 82 undef, a.tmps.getD 83 undef, a.tmps.getD 84 undef, a.tmps.getD 85 undef, a.tmps.getD 86 undef, a.tmps.getD 87 undef, a.tmps.getD 88 undef, a.tmps.getD 89 undef, a.tmps.getD 90 undef, a.tmps.getD 91 undef, a.tmps.getD 92 undef, a.tmps.getD 93 undef, a.tmps.getD 94 undef, a.tmps.getD 95 undef, a.tmps.getD 96 undef, a.tmps.getD 97 undef, a.tmps.getD 98 undef, a.tmps.getD 99 undef, a.tmps.getD 100 undef, a.tmps.getD 101 undef, a.tmps.getD 102 undef, a.tmps.getD 103 undef, a.tmps.getD 104 undef, a.tmps.getD 105 undef, a.tmps.getD 106 undef, a.tmps.getD 107 undef, a.tmps.getD 108 undef, a.tmps.getD 109 undef, a.tmps.getD 110 undef, a.tmps.getD 111 undef, a.tmps.getD 112 undef, a.tmps.getD 113 undef, a.tmps.getD 114 undef, a.tmps.getD 115 undef, a.tmps.getD 116 undef, a.tmps.getD 117 undef, a.tmps.getD 118 undef, a.tmps.getD 119 undef, a.tmps.getD 120 undef, a.tmps.getD 121 undef, a.tmps.getD 122 undef, a.tmps.getD 123 undef, a.tmps.getD 124 undef, a.tmps.getD 125 undef, a.tmps.getD 126 undef, a.tmps.getD 127 undef, a.tmps.getD 128 undef, a.tmps.getD 129 undef, a.tmps.getD 130 undef, a.tmps.getD 131 undef, a.tmps.getD 132 undef, a.tmps.getD 133 undef, a.tmps.getD 134 undef, a.tmps.getD 135 undef, a.tmps.getD 136 undef, a.tmps.getD 137 undef, a.tmps.getD 138 undef, a.tmps.getD 139 undef, a.tmps.getD 140 undef, a.tmps.getD 141 undef, a.tmps.getD 142 undef, a.tmps.getD 143 undef, a.tmps.getD 144 undef, a.tmps.getD 145 undef, a.tmps.getD 146 undef, a.tmps.getD 147 undef, a.tmps.getD 148 undef, a.tmps.getD 149 undef, a.tmps.getD 150 undef, a.tmps.getD 151 undef, a.tmps.getD 152 undef, a.tmps.getD 153 undef, a.tmps.getD 154 undef, a.tmps.getD 155 undef, a.tmps.getD 156 undef, a.tmps.getD 157 undef, a.tmps.getD 158 undef, a.tmps.getD 159 undef, a.tmps.getD 160 undef, a.tmps.getD 161 undef, a.tmps.getD 162 undef, a.tmps.getD 163 undef, a.tmps.getD 164 undef, a.tmps.getD 165 undef, a.tmps.getD 166 undef, a.tmps.getD 167 undef, a.tmps.getD 168 undef, a.tmps.getD 169 undef, a.tmps.getD 170 undef, a.tmps.getD 171 undef], defers := [] })
    (hj : j ≤ ps.length) (hI : QI w p1 cap1 hs pp cp ps wr) : PwJ w p1 cap1 hs pp cp ps i a wr := ⟨j, fun i => a.tmps.getD i undef, h, hj, hI⟩

set_option linter.unusedSimpArgs false in
set_option maxRecDepth 100000 in
set_option maxHeartbeats 2000000 in
theorem walkHistoryPrefixes (p : Option Addr) (cap : Nat) (cs : List CallV) (s o : Int) (w : World) (hA : ArgRow w p cs) (hsr : -9223372036854775808 ≤ s ∧ s ≤ 9223372036854775807) (hor : -9223372036854775808 ≤ o ∧ o ≤ 9223372036854775807) :
    Calls Try.prog 7 #[.slice p cs.length cap, .int .i64 s, .int .i64 o] w fun e w' => e = .returned (.bool true) ∧ Below w.heap.size w w' := by
  go_enter Try.func7, Try.ntmps7
  go_wp2_with fail
  refine (few_h p cap cs w hA).mono ?_
  rintro e w1 ⟨p1, cap1, hs, rfl, hm, hH1, hB1⟩
  have hlen := hH1.len
  go_wp2_with fail
  refine (prefix_any p1 cap1 s hs w1 hH1.row (by omega) hH1.ok hH1.dat).mono ?_
  rintro e w2 (⟨h22, rfl, hb⟩ | ⟨h0, hsm, rfl, hb⟩ | ⟨h0, hs1, v, rfl, hO, hb⟩)
  · have hH2 := hH1.on hb
    have hB2 := hB1.trans (hb.mono hB1.size)
    have ck := check_any p1 cap1 hs w2 hH2.row (by omega) hH2.ok
    obtain ⟨k1, hk1⟩ : ∃ k1, (checkP hs).1 = k1 := ⟨_, rfl⟩
    rw [hk1, h22] at ck
    clear hk1 hH1 hB1
    go_wp2_with fail
    refine ck.mono ?_
    clear ck
    rintro e w3 ⟨rfl, hb⟩
    have hB3 := hB2.trans (hb.mono hB2.size)
    go_wp2_with fail
    refine (awake_any _).mono ?_
    rintro e w4 ⟨rfl, hb⟩
    have hB4 := hB3.trans (hb.mono hB3.size)
    go_wp2
    go_returns
    exact ⟨rfl, hB4⟩
  · have hH2 := hH1.on hb
    have hB2 := hB1.trans (hb.mono hB1.size)
    have ck := check_any p1 cap1 hs w2 hH2.row (by omega) hH2.ok
    obtain ⟨k1, hk1⟩ : ∃ k1, (checkP hs).1 = k1 := ⟨_, rfl⟩
    rw [hk1, h0] at ck
    have hd : decide (s < -1) = true := by simpa using hsm
    clear hk1 hH1 hB1 hsm
    go_wp2_with fail
    refine ck.mono ?_
    clear ck
    rintro e w3 ⟨rfl, hb⟩
    have hB3 := hB2.trans (hb.mono hB2.size)
    go_wp2_with fail
    refine (awake_any _).mono ?_
    rintro e w4 ⟨rfl, hb⟩
    have hB4 := hB3.trans (hb.mono hB3.size)
    go_wp2
    go_returns
    exact ⟨rfl, hB4⟩
  · have hplen : (prefS s hs).length ≤ hs.length := pref_len s hs
    obtain ⟨pp, cp, ps, rfl, hmp, hP⟩ := hrow_of hO (fun c hc => by
      unfold prefS at hc
      obtain ⟨d, hd, rfl⟩ := List.mem_map.1 hc
      have h1 := cut_Ok hs1 (hH1.ok d (List.mem_filter.1 hd).1)
      exact pure_ok (c := (cutV s d).pure) (d := cutV s d) rfl h1) (by omega)
    have hpl : ps.length ≤ hs.length := by rw [← List.length_map (f := CallV.pure), hmp]; exact hplen
    have hI : QI w p1 cap1 hs pp cp ps w2 := ⟨hH1.on hb, hP, hB1.trans (hb.mono hB1.size)⟩
    have hcp : checkP ps = (0, 0) := by rw [check_of_pure (hmp.trans (pref_idem s hs).symm), check_pref h0 hs1]
    have ck := check_any pp cp ps w2 hI.p.row (by omega) hI.p.ok
    rw [hcp] at ck
    have Hps := Lib.hid (congrArg Prod.snd hcp)
    have H0 := Lib.hid h0
    have Hs1 := Lib.hid hs1
    have Hmp := Lib.hid hmp
    have Hlen := Lib.hid hpl
    have hd : decide (s < -1) = false := by simp; omega
    clear hb hO hP hH1 hB1 h0 hs1 hmp hcp hm hplen hpl
    go_wp2_with fail
    refine ck.mono ?_
    clear ck
    rintro e w3 ⟨rfl, hb⟩
    replace hI := hI.on hb
    clear hb
    by_cases ho : -1 ≤ o
    · have hod : decide (-1 ≤ o) = true := by simpa using ho
      have Ho := Lib.hid ho
      clear ho
      go_wp2_with fail
      refine (prefix_any pp cp o ps _ hI.p.row (by have := hI.p.len; omega) hI.p.ok hI.p.dat).mono ?_
      rintro e w4 (⟨h, _⟩ | ⟨_, h, _⟩ | ⟨_, _, vq, rfl, hOq, hb⟩)
      · rw [Hps.out] at h; exact absurd h (by decide)
      · have := Ho.out; omega
      have hI4 := hI.on hb
      clear hb hI
      go_wp2_with fail
      refine (prefix_any p1 cap1 (min s o) hs _ hI4.h.row (by have := hI4.h.len; omega) hI4.h.ok hI4.h.dat).mono ?_
      rintro e w5 (⟨h, _⟩ | ⟨_, h, _⟩ | ⟨_, _, vr, rfl, hOr, hb⟩)
      · rw [H0.out] at h; exact absurd h (by decide)
      · have := Ho.out; have := Hs1.out; omega
      have hI5 := hI4.on hb
      have hOq5 := hOq.on hb
      clear hb hI4 hOq
      have hplo : (prefS o ps).length ≤ ps.length := pref_len o ps
      have hplm : (prefS (min s o) hs).length ≤ hs.length := pref_len (min s o) hs
      have hp24 := hI5.p.len
      obtain ⟨pq, cq, qs, rfl, hmq, hQ⟩ := hrow_of hOq5 (fun c hc => by
        unfold prefS at hc
        obtain ⟨d, hd, rfl⟩ := List.mem_map.1 hc
        have h1 := cut_Ok Ho.out (hI5.p.ok d (List.mem_filter.1 hd).1)
        exact pure_ok (c := (cutV o d).pure) (d := cutV o d) rfl h1) (by omega)
      obtain ⟨pr, cr, rs, rfl, hmr, hR⟩ := hrow_of hOr (fun c hc => by
        unfold prefS at hc
        obtain ⟨d, hd, rfl⟩ := List.mem_map.1 hc
        have h1 := cut_Ok (s := min s o) (by have := Ho.out; have := Hs1.out; omega) (hI5.h.ok d (List.mem_filter.1 hd).1)
        exact pure_ok (c := (cutV (min s o) d).pure) (d := cutV (min s o) d) rfl h1) (by omega)
      have heq : qs.map CallV.pure = rs.map CallV.pure := by rw [hmq, hmr, ← pref_pure o ps, Hmp.out, pref_pref s o Ho.out]
      have eqc := eqcalls_same pq pr cq cr qs rs w5 heq (by have := hQ.len; omega) hQ.row hR.row hQ.dat hR.dat
      clear heq hmq hmr hQ hR hOq5 hOr hplo hplm hp24
      go_wp2_with fail
      refine eqc.mono ?_
      clear eqc
      rintro e w6 ⟨rfl, hb⟩
      have hI := hI5.on hb
      clear hb hI5
      go_wp2_with fail
      refine (effects_any pp cp ps _ hI.p.row (by have := hI.p.len; omega) hI.p.ok).mono ?_
      rintro e w8 (⟨h, _, _⟩ | ⟨_, vX, X, hX, rfl, hOX, hb⟩)
      · rw [Hps.out] at h; exact absurd h (by decide)
      have hI8 := hI.on hb
      have hXr := IRow.own (zs := X.map fun (n : Nat) => (n : Int)) (by rw [← nv_iv]; exact hOX) (by simp)
      obtain ⟨px, cx, rfl, _, _⟩ := row_form hOX
      clear hb hI hOX
      go_wp2_with fail
      refine (effects_any p1 cap1 hs _ hI8.h.row (by have := hI8.h.len; omega) hI8.h.ok).mono ?_
      rintro e w9 (⟨h, _, _⟩ | ⟨_, vY, Y, hY, rfl, hOY, hb⟩)
      · rw [H0.out] at h; exact absurd h (by decide)
      have hI9 := hI8.on hb
      have hXr9 := hXr.on hb
      obtain ⟨hle, htk⟩ := pref_eff H0.out Hs1.out (eff_of_pure (Hmp.out.trans (pref_idem s hs).symm) hX) hY
      have hX24 : X.length ≤ 24 := Nat.le_trans (eff_len hX) hI9.p.len
      have hY24 : Y.length ≤ 24 := Nat.le_trans (eff_len hY) hI9.h.len
      have hmin : min (X.length : Int) (Y.length : Int) = (X.length : Int) := by omega
      have hdl : decide (Y.length < X.length) = false := by simp; omega
      obtain ⟨py, cy, rfl, hcy, ⟨rfl, hY0, rfl⟩ | ⟨g, rfl, hYc⟩⟩ := row_form hOY
      · have hX0 : X.length = 0 := by omega
        have hXn : X = [] := List.length_eq_zero_iff.1 hX0
        rw [hXn] at hXr9
        have eqi := eqi_any w9 (.slice px 0 cx) (.slice none 0 0) [] [] hXr9 (IRow.nil _) (by simp) (by simp)
        rw [decide_eq_true rfl] at eqi
        have hm0 : min (0 : Int) 0 = 0 := rfl
        rw [hX0, hY0]
        clear hb hI8 hXr hXr9 hOY hX hY htk hle hX24 hY24 hmin hdl hX0 hY0 hXn hcy
        go_wp2_with fail
        refine eqi.mono ?_
        clear eqi
        rintro e w10 ⟨rfl, hb⟩
        have hI10 := hI9.on hb
        clear hb hI9
        have hp24 : ps.length ≤ 24 := hI10.p.len
        go_wp2
        refine wp_loop (PwI w p1 cap1 hs pp cp ps) (fun a _ => ps.length - (intOf (a.tmps.getD 22 undef)).toNat) ?_ ?_
        · exact PwI.intro 0 rfl (by omega) hI10
        · clear hI10
          rintro a wr ⟨i, u, rfl, hi, hI⟩
          by_cases hil : i < ps.length
          · go_wp2
            refine wp_loop (PwJ w p1 cap1 hs pp cp ps i) (fun a _ => ps.length - (intOf (a.tmps.getD 23 undef)).toNat) ?_ ?_
            · exact PwJ.intro 0 rfl (by omega) hI
            · clear hI
              rintro a wr ⟨j, u, rfl, hj, hI⟩
              by_cases hjl : j < ps.length
              · obtain ⟨pa, hpa⟩ : ∃ c, ps[i]? = some c := ⟨_, List.getElem?_eq_getElem hil⟩
                obtain ⟨pb, hpb⟩ : ∃ c, ps[j]? = some c := ⟨_, List.getElem?_eq_getElem hjl⟩
                have hph : ps.length ≤ hs.length := Hlen.out
                obtain ⟨ha, hha⟩ : ∃ c, hs[i]? = some c := ⟨_, List.getElem?_eq_getElem (by omega)⟩
                obtain ⟨hb, hhb⟩ : ∃ c, hs[j]? = some c := ⟨_, List.getElem?_eq_getElem (by omega)⟩
                have hbef : befB pa pb = befB ha hb := bef_same H0.out Hmp.out hpa hpb hha hhb
                obtain ⟨bp, op, rfl, hcp, _, hCp⟩ := crow_some hI.p.row hil
                obtain ⟨bh, oh, rfl, hch, _, hCh⟩ := crow_some hI.h.row (by omega : i < hs.length)
                have kx : ∀ W, QI w (some ⟨bh, oh, none⟩) cap1 hs (some ⟨bp, op, none⟩) cp ps W → ((loadCall (.pointer (some ⟨bp, op + i * 27, none⟩))).run Try.prog W = .ok (.agg (callL pa).toArray) W ∧ (loadCall (.pointer (some ⟨bp, op + j * 27, none⟩))).run Try.prog W = .ok (.agg (callL pb).toArray) W ∧ (loadCall (.pointer (some ⟨bh, oh + i * 27, none⟩))).run Try.prog W = .ok (.agg (callL ha).toArray) W ∧ (loadCall (.pointer (some ⟨bh, oh + j * 27, none⟩))).run Try.prog W = .ok (.agg (callL hb).toArray) W) ∧ QI w (some ⟨bh, oh, none⟩) cap1 hs (some ⟨bp, op, none⟩) cp ps W := fun W h => by
                  obtain ⟨_, _, e1, _, _, c1⟩ := crow_some h.p.row hil
                  cases e1
                  obtain ⟨_, _, e2, _, _, c2⟩ := crow_some h.h.row (by omega : i < hs.length)
                  cases e2
                  exact ⟨⟨c1.load hpa, c1.load hpb, c2.load hha, c2.load hhb⟩, h⟩
                have Kx := Lib.hid kx
                have bp1 := fun W => before_any pa pb W
                have bh1 := fun W => before_any ha hb W
                rw [hbef] at bp1
                generalize befB ha hb = y at bp1 bh1
                have ey : (y != y) = false := by simp
                have ey2 : (y == y) = true := by simp
                have hx := hI.on (Below.refl _ _).drew
                have hl1 : (i : Int) < (hs.length : Int) := by omega
                have hl2 : (j : Int) < (hs.length : Int) := by omega
                clear kx hpa hpb hha hhb hbef hCp hCh hI
                go_wp2
                refine wp_region_noPanic ?_
                refine wp_region_held_drew (S := fun W => ((loadCall (.pointer (some ⟨bp, op + i * 27, none⟩))).run Try.prog W = .ok (.agg (callL pa).toArray) W ∧ (loadCall (.pointer (some ⟨bp, op + j * 27, none⟩))).run Try.prog W = .ok (.agg (callL pb).toArray) W ∧ (loadCall (.pointer (some ⟨bh, oh + i * 27, none⟩))).run Try.prog W = .ok (.agg (callL ha).toArray) W ∧ (loadCall (.pointer (some ⟨bh, oh + j * 27, none⟩))).run Try.prog W = .ok (.agg (callL hb).toArray) W) ∧ QI w (some ⟨bh, oh, none⟩) cap1 hs (some ⟨bp, op, none⟩) cp ps W) (by kernel_rfl) ?_ (fun hHeld => ?_)
                · first | exact Kx.out _ hx3 | exact Kx.out _ hx2 | exact Kx.out _ hx
                first | fail | (refine np_take (i := 0) (v := ?_) rfl (by kernel_rfl) (by kernel_rfl) (by kernel_rfl) (by rfl) ?_ (by assumption) ?_; rotate_left 1; (· (intro w hSw; (try dsimp only at hSw); go_simp; all_goals with_reducible rfl)); (try simp only [Act.put, List.setIfInBounds_toArray, List.set_cons_zero, List.set_cons_succ]))
                first | fail | (refine np_take (i := 1) (v := ?_) rfl (by kernel_rfl) (by kernel_rfl) (by kernel_rfl) (by rfl) ?_ (by assumption) ?_; rotate_left 1; (· (intro w hSw; (try dsimp only at hSw); go_simp; all_goals with_reducible rfl)); (try simp only [Act.put, List.setIfInBounds_toArray, List.set_cons_zero, List.set_cons_succ]))
                first | fail | (refine np_take (i := 2) (v := ?_) rfl (by kernel_rfl) (by kernel_rfl) (by kernel_rfl) (by rfl) ?_ (by assumption) ?_; rotate_left 1; (· (intro w hSw; (try dsimp only at hSw); go_simp; all_goals with_reducible rfl)); (try simp only [Act.put, List.setIfInBounds_toArray, List.set_cons_zero, List.set_cons_succ]))
                first | fail | (refine np_take (i := 3) (v := ?_) rfl (by kernel_rfl) (by kernel_rfl) (by kernel_rfl) (by rfl) ?_ (by assumption) ?_; rotate_left 1; (· (intro w hSw; (try dsimp only at hSw); go_simp; all_goals with_reducible rfl)); (try simp only [Act.put, List.setIfInBounds_toArray, List.set_cons_zero, List.set_cons_succ]))
                first | fail | (refine np_take (i := 4) (v := ?_) rfl (by kernel_rfl) (by kernel_rfl) (by kernel_rfl) (by rfl) ?_ (by assumption) ?_; rotate_left 1; (· (intro w hSw; (try dsimp only at hSw); go_simp; all_goals with_reducible rfl)); (try simp only [Act.put, List.setIfInBounds_toArray, List.set_cons_zero, List.set_cons_succ]))
                first | fail | (refine np_take (i := 5) (v := ?_) rfl (by kernel_rfl) (by kernel_rfl) (by kernel_rfl) (by rfl) ?_ (by assumption) ?_; rotate_left 1; (· (intro w hSw; (try dsimp only at hSw); go_simp; all_goals with_reducible rfl)); (try simp only [Act.put, List.setIfInBounds_toArray, List.set_cons_zero, List.set_cons_succ]))
                first | fail | (refine np_take (i := 6) (v := ?_) rfl (by kernel_rfl) (by kernel_rfl) (by kernel_rfl) (by rfl) ?_ (by assumption) ?_; rotate_left 1; (· (intro w hSw; (try dsimp only at hSw); go_simp; all_goals with_reducible rfl)); (try simp only [Act.put, List.setIfInBounds_toArray, List.set_cons_zero, List.set_cons_succ]))
                first | fail | (refine np_take (i := 7) (v := ?_) rfl (by kernel_rfl) (by kernel_rfl) (by kernel_rfl) (by rfl) ?_ (by assumption) ?_; rotate_left 1; (· (intro w hSw; (try dsimp only at hSw); go_simp; all_goals with_reducible rfl)); (try simp only [Act.put, List.setIfInBounds_toArray, List.set_cons_zero, List.set_cons_succ]))
                first | fail | (refine np_take (i := 9) (v := ?_) rfl (by kernel_rfl) (by kernel_rfl) (by kernel_rfl) (by rfl) ?_ (by assumption) ?_; rotate_left 1; (· (intro w hSw; (try dsimp only at hSw); go_simp; all_goals with_reducible rfl)); (try simp only [Act.put, List.setIfInBounds_toArray, List.set_cons_zero, List.set_cons_succ]))
                first | fail | (refine np_take (i := 10) (v := ?_) rfl (by kernel_rfl) (by kernel_rfl) (by kernel_rfl) (by rfl) ?_ (by assumption) ?_; rotate_left 1; (· (intro w hSw; (try dsimp only at hSw); go_simp; all_goals with_reducible rfl)); (try simp only [Act.put, List.setIfInBounds_toArray, List.set_cons_zero, List.set_cons_succ]))
                first | fail | (refine np_take (i := 11) (v := ?_) rfl (by kernel_rfl) (by kernel_rfl) (by kernel_rfl) (by rfl) ?_ (by assumption) ?_; rotate_left 1; (· (intro w hSw; (try dsimp only at hSw); go_simp; all_goals with_reducible rfl)); (try simp only [Act.put, List.setIfInBounds_toArray, List.set_cons_zero, List.set_cons_succ]))
                first | fail | (refine np_take (i := 12) (v := ?_) rfl (by kernel_rfl) (by kernel_rfl) (by kernel_rfl) (by rfl) ?_ (by assumption) ?_; rotate_left 1; (· (intro w hSw; (try dsimp only at hSw); go_simp; all_goals with_reducible rfl)); (try simp only [Act.put, List.setIfInBounds_toArray, List.set_cons_zero, List.set_cons_succ]))
                first | fail | (refine np_take (i := 13) (v := ?_) rfl (by kernel_rfl) (by kernel_rfl) (by kernel_rfl) (by rfl) ?_ (by assumption) ?_; rotate_left 1; (· (intro w hSw; (try dsimp only at hSw); go_simp; all_goals with_reducible rfl)); (try simp only [Act.put, List.setIfInBounds_toArray, List.set_cons_zero, List.set_cons_succ]))
                first | fail | (refine np_take (i := 14) (v := ?_) rfl (by kernel_rfl) (by kernel_rfl) (by kernel_rfl) (by rfl) ?_ (by assumption) ?_; rotate_left 1; (· (intro w hSw; (try dsimp only at hSw); go_simp; all_goals with_reducible rfl)); (try simp only [Act.put, List.setIfInBounds_toArray, List.set_cons_zero, List.set_cons_succ]))
                first | fail | (refine np_take (i := 15) (v := ?_) rfl (by kernel_rfl) (by kernel_rfl) (by kernel_rfl) (by rfl) ?_ (by assumption) ?_; rotate_left 1; (· (intro w hSw; (try dsimp only at hSw); go_simp; all_goals with_reducible rfl)); (try simp only [Act.put, List.setIfInBounds_toArray, List.set_cons_zero, List.set_cons_succ]))
                first | fail | (refine np_take (i := 16) (v := ?_) rfl (by kernel_rfl) (by kernel_rfl) (by kernel_rfl) (by rfl) ?_ (by assumption) ?_; rotate_left 1; (· (intro w hSw; (try dsimp only at hSw); go_simp; all_goals with_reducible rfl)); (try simp only [Act.put, List.setIfInBounds_toArray, List.set_cons_zero, List.set_cons_succ]))
                first | fail | (refine np_step (i := 8) rfl (by kernel_rfl) (fun K hK => ?_); rw [if_pos (by rfl)]; go_simp; ((go_at_call 10; refine (bp1 _).mono ?_; rintro e w11 ⟨rfl, hbc⟩; have hx2 := hHeld.2.on hbc)); (try go_wp2_with fail); refine hK.out _ _ ?_ (fun hHeld => ?_); (· (first | exact Kx.out _ hx3 | exact Kx.out _ hx2 | exact Kx.out _ hx)); clear hK K; (try simp only [Act.put, List.setIfInBounds_toArray, List.set_cons_zero, List.set_cons_succ]))
                first | fail | (refine np_step (i := 17) rfl (by kernel_rfl) (fun K hK => ?_); rw [if_pos (by rfl)]; go_simp; ((go_at_call 10; refine (bh1 _).mono ?_; rintro e w12 ⟨rfl, hbc⟩; have hx3 := hHeld.2.on hbc)); (try go_wp2_with fail); refine hK.out _ _ ?_ (fun hHeld => ?_); (· (first | exact Kx.out _ hx3 | exact Kx.out _ hx2 | exact Kx.out _ hx)); clear hK K; (try simp only [Act.put, List.setIfInBounds_toArray, List.set_cons_zero, List.set_cons_succ]))
                first | fail | (refine np_take (i := 18) (v := ?_) rfl (by kernel_rfl) (by kernel_rfl) (by kernel_rfl) (by rfl) ?_ (by assumption) ?_; rotate_left 1; (· (intro w hSw; (try dsimp only at hSw); go_simp; all_goals with_reducible rfl)); (try simp only [Act.put, List.setIfInBounds_toArray, List.set_cons_zero, List.set_cons_succ]))
                refine wpAnyH_done (by kernel_rfl) ?_ _
                refine NoPanic.normal ?_
                have HI := Lib.hid hHeld.2
                clear hHeld bp1 bh1 hx
                go_wp2
                exact ⟨PwJ.intro (j + 1) rfl (by omega) HI.out, by simp [intOf]; omega⟩
              · have HI := Lib.hid hI
                clear hI
                go_wp2
                exact ⟨PwI.intro (i + 1) rfl (by omega) HI.out, by simp [intOf]; omega⟩
          · go_wp2_with fail
            refine (awake_any _).mono ?_
            rintro e w20 ⟨rfl, hb⟩
            have hI20 := hI.on hb
            go_wp2
            go_returns
            exact ⟨rfl, hI20.bl⟩
      · have hYr : IRow w9 (.slice (some ⟨g, 0, none⟩) X.length cy) ((X.map fun (n : Nat) => (n : Int))) := by
          refine .inr ⟨g, 0, cy, by simp, fun j u hj => ?_⟩
          have hlt := (List.getElem?_eq_some_iff.1 hj).1
          rw [List.length_map] at hlt
          have hx : X[j]? = Y[j]? := by
            have h1 : (Y.take X.length)[j]? = Y[j]? := List.getElem?_take_of_lt hlt
            rwa [← htk] at h1
          rw [List.getElem?_map, hx] at hj
          rw [Nat.zero_add, hYc j (by omega), nv_iv, List.getElem?_map, List.getElem?_map, hj]
          rfl
        have eqi := eqi_any w9 (.slice px X.length cx) (.slice (some ⟨g, 0, none⟩) X.length cy) _ _ hXr9 hYr (by simp; omega) (by simp; omega)
        rw [decide_eq_true rfl] at eqi
        have hcy2 : (X.length : Int) ≤ (cy : Int) := by omega
        clear hb hI8 hXr hXr9 hOY hX hY hYr hYc htk
        go_wp2_with fail
        refine eqi.mono ?_
        clear eqi
        rintro e w10 ⟨rfl, hb⟩
        have hI10 := hI9.on hb
        clear hb hI9
        have hp24 : ps.length ≤ 24 := hI10.p.len
        go_wp2
        refine wp_loop (PwI w p1 cap1 hs pp cp ps) (fun a _ => ps.length - (intOf (a.tmps.getD 22 undef)).toNat) ?_ ?_
        · exact PwI.intro 0 rfl (by omega) hI10
        · clear hI10
          rintro a wr ⟨i, u, rfl, hi, hI⟩
          by_cases hil : i < ps.length
          · go_wp2
            refine wp_loop (PwJ w p1 cap1 hs pp cp ps i) (fun a _ => ps.length - (intOf (a.tmps.getD 23 undef)).toNat) ?_ ?_
            · exact PwJ.intro 0 rfl (by omega) hI
            · clear hI
              rintro a wr ⟨j, u, rfl, hj, hI⟩
              by_cases hjl : j < ps.length
              · obtain ⟨pa, hpa⟩ : ∃ c, ps[i]? = some c := ⟨_, List.getElem?_eq_getElem hil⟩
                obtain ⟨pb, hpb⟩ : ∃ c, ps[j]? = some c := ⟨_, List.getElem?_eq_getElem hjl⟩
                have hph : ps.length ≤ hs.length := Hlen.out
                obtain ⟨ha, hha⟩ : ∃ c, hs[i]? = some c := ⟨_, List.getElem?_eq_getElem (by omega)⟩
                obtain ⟨hb, hhb⟩ : ∃ c, hs[j]? = some c := ⟨_, List.getElem?_eq_getElem (by omega)⟩
                have hbef : befB pa pb = befB ha hb := bef_same H0.out Hmp.out hpa hpb hha hhb
                obtain ⟨bp, op, rfl, hcp, _, hCp⟩ := crow_some hI.p.row hil
                obtain ⟨bh, oh, rfl, hch, _, hCh⟩ := crow_some hI.h.row (by omega : i < hs.length)
                have kx : ∀ W, QI w (some ⟨bh, oh, none⟩) cap1 hs (some ⟨bp, op, none⟩) cp ps W → ((loadCall (.pointer (some ⟨bp, op + i * 27, none⟩))).run Try.prog W = .ok (.agg (callL pa).toArray) W ∧ (loadCall (.pointer (some ⟨bp, op + j * 27, none⟩))).run Try.prog W = .ok (.agg (callL pb).toArray) W ∧ (loadCall (.pointer (some ⟨bh, oh + i * 27, none⟩))).run Try.prog W = .ok (.agg (callL ha).toArray) W ∧ (loadCall (.pointer (some ⟨bh, oh + j * 27, none⟩))).run Try.prog W = .ok (.agg (callL hb).toArray) W) ∧ QI w (some ⟨bh, oh, none⟩) cap1 hs (some ⟨bp, op, none⟩) cp ps W := fun W h => by
                  obtain ⟨_, _, e1, _, _, c1⟩ := crow_some h.p.row hil
                  cases e1
                  obtain ⟨_, _, e2, _, _, c2⟩ := crow_some h.h.row (by omega : i < hs.length)
                  cases e2
                  exact ⟨⟨c1.load hpa, c1.load hpb, c2.load hha, c2.load hhb⟩, h⟩
                have Kx := Lib.hid kx
                have bp1 := fun W => before_any pa pb W
                have bh1 := fun W => before_any ha hb W
                rw [hbef] at bp1
                generalize befB ha hb = y at bp1 bh1
                have ey : (y != y) = false := by simp
                have ey2 : (y == y) = true := by simp
                have hx := hI.on (Below.refl _ _).drew
                have hl1 : (i : Int) < (hs.length : Int) := by omega
                have hl2 : (j : Int) < (hs.length : Int) := by omega
                clear kx hpa hpb hha hhb hbef hCp hCh hI
                go_wp2
                refine wp_region_noPanic ?_
                refine wp_region_held_drew (S := fun W => ((loadCall (.pointer (some ⟨bp, op + i * 27, none⟩))).run Try.prog W = .ok (.agg (callL pa).toArray) W ∧ (loadCall (.pointer (some ⟨bp, op + j * 27, none⟩))).run Try.prog W = .ok (.agg (callL pb).toArray) W ∧ (loadCall (.pointer (some ⟨bh, oh + i * 27, none⟩))).run Try.prog W = .ok (.agg (callL ha).toArray) W ∧ (loadCall (.pointer (some ⟨bh, oh + j * 27, none⟩))).run Try.prog W = .ok (.agg (callL hb).toArray) W) ∧ QI w (some ⟨bh, oh, none⟩) cap1 hs (some ⟨bp, op, none⟩) cp ps W) (by kernel_rfl) ?_ (fun hHeld => ?_)
                · first | exact Kx.out _ hx3 | exact Kx.out _ hx2 | exact Kx.out _ hx
                first | fail | (refine np_take (i := 0) (v := ?_) rfl (by kernel_rfl) (by kernel_rfl) (by kernel_rfl) (by rfl) ?_ (by assumption) ?_; rotate_left 1; (· (intro w hSw; (try dsimp only at hSw); go_simp; all_goals with_reducible rfl)); (try simp only [Act.put, List.setIfInBounds_toArray, List.set_cons_zero, List.set_cons_succ]))
                first | fail | (refine np_take (i := 1) (v := ?_) rfl (by kernel_rfl) (by kernel_rfl) (by kernel_rfl) (by rfl) ?_ (by assumption) ?_; rotate_left 1; (· (intro w hSw; (try dsimp only at hSw); go_simp; all_goals with_reducible rfl)); (try simp only [Act.put, List.setIfInBounds_toArray, List.set_cons_zero, List.set_cons_succ]))
                first | fail | (refine np_take (i := 2) (v := ?_) rfl (by kernel_rfl) (by kernel_rfl) (by kernel_rfl) (by rfl) ?_ (by assumption) ?_; rotate_left 1; (· (intro w hSw; (try dsimp only at hSw); go_simp; all_goals with_reducible rfl)); (try simp only [Act.put, List.setIfInBounds_toArray, List.set_cons_zero, List.set_cons_succ]))
                first | fail | (refine np_take (i := 3) (v := ?_) rfl (by kernel_rfl) (by kernel_rfl) (by kernel_rfl) (by rfl) ?_ (by assumption) ?_; rotate_left 1; (· (intro w hSw; (try dsimp only at hSw); go_simp; all_goals with_reducible rfl)); (try simp only [Act.put, List.setIfInBounds_toArray, List.set_cons_zero, List.set_cons_succ]))
                first | fail | (refine np_take (i := 4) (v := ?_) rfl (by kernel_rfl) (by kernel_rfl) (by kernel_rfl) (by rfl) ?_ (by assumption) ?_; rotate_left 1; (· (intro w hSw; (try dsimp only at hSw); go_simp; all_goals with_reducible rfl)); (try simp only [Act.put, List.setIfInBounds_toArray, List.set_cons_zero, List.set_cons_succ]))
                first | fail | (refine np_take (i := 5) (v := ?_) rfl (by kernel_rfl) (by kernel_rfl) (by kernel_rfl) (by rfl) ?_ (by assumption) ?_; rotate_left 1; (· (intro w hSw; (try dsimp only at hSw); go_simp; all_goals with_reducible rfl)); (try simp only [Act.put, List.setIfInBounds_toArray, List.set_cons_zero, List.set_cons_succ]))
                first | fail | (refine np_take (i := 6) (v := ?_) rfl (by kernel_rfl) (by kernel_rfl) (by kernel_rfl) (by rfl) ?_ (by assumption) ?_; rotate_left 1; (· (intro w hSw; (try dsimp only at hSw); go_simp; all_goals with_reducible rfl)); (try simp only [Act.put, List.setIfInBounds_toArray, List.set_cons_zero, List.set_cons_succ]))
                first | fail | (refine np_take (i := 7) (v := ?_) rfl (by kernel_rfl) (by kernel_rfl) (by kernel_rfl) (by rfl) ?_ (by assumption) ?_; rotate_left 1; (· (intro w hSw; (try dsimp only at hSw); go_simp; all_goals with_reducible rfl)); (try simp only [Act.put, List.setIfInBounds_toArray, List.set_cons_zero, List.set_cons_succ]))
                first | fail | (refine np_take (i := 9) (v := ?_) rfl (by kernel_rfl) (by kernel_rfl) (by kernel_rfl) (by rfl) ?_ (by assumption) ?_; rotate_left 1; (· (intro w hSw; (try dsimp only at hSw); go_simp; all_goals with_reducible rfl)); (try simp only [Act.put, List.setIfInBounds_toArray, List.set_cons_zero, List.set_cons_succ]))
                first | fail | (refine np_take (i := 10) (v := ?_) rfl (by kernel_rfl) (by kernel_rfl) (by kernel_rfl) (by rfl) ?_ (by assumption) ?_; rotate_left 1; (· (intro w hSw; (try dsimp only at hSw); go_simp; all_goals with_reducible rfl)); (try simp only [Act.put, List.setIfInBounds_toArray, List.set_cons_zero, List.set_cons_succ]))
                first | fail | (refine np_take (i := 11) (v := ?_) rfl (by kernel_rfl) (by kernel_rfl) (by kernel_rfl) (by rfl) ?_ (by assumption) ?_; rotate_left 1; (· (intro w hSw; (try dsimp only at hSw); go_simp; all_goals with_reducible rfl)); (try simp only [Act.put, List.setIfInBounds_toArray, List.set_cons_zero, List.set_cons_succ]))
                first | fail | (refine np_take (i := 12) (v := ?_) rfl (by kernel_rfl) (by kernel_rfl) (by kernel_rfl) (by rfl) ?_ (by assumption) ?_; rotate_left 1; (· (intro w hSw; (try dsimp only at hSw); go_simp; all_goals with_reducible rfl)); (try simp only [Act.put, List.setIfInBounds_toArray, List.set_cons_zero, List.set_cons_succ]))
                first | fail | (refine np_take (i := 13) (v := ?_) rfl (by kernel_rfl) (by kernel_rfl) (by kernel_rfl) (by rfl) ?_ (by assumption) ?_; rotate_left 1; (· (intro w hSw; (try dsimp only at hSw); go_simp; all_goals with_reducible rfl)); (try simp only [Act.put, List.setIfInBounds_toArray, List.set_cons_zero, List.set_cons_succ]))
                first | fail | (refine np_take (i := 14) (v := ?_) rfl (by kernel_rfl) (by kernel_rfl) (by kernel_rfl) (by rfl) ?_ (by assumption) ?_; rotate_left 1; (· (intro w hSw; (try dsimp only at hSw); go_simp; all_goals with_reducible rfl)); (try simp only [Act.put, List.setIfInBounds_toArray, List.set_cons_zero, List.set_cons_succ]))
                first | fail | (refine np_take (i := 15) (v := ?_) rfl (by kernel_rfl) (by kernel_rfl) (by kernel_rfl) (by rfl) ?_ (by assumption) ?_; rotate_left 1; (· (intro w hSw; (try dsimp only at hSw); go_simp; all_goals with_reducible rfl)); (try simp only [Act.put, List.setIfInBounds_toArray, List.set_cons_zero, List.set_cons_succ]))
                first | fail | (refine np_take (i := 16) (v := ?_) rfl (by kernel_rfl) (by kernel_rfl) (by kernel_rfl) (by rfl) ?_ (by assumption) ?_; rotate_left 1; (· (intro w hSw; (try dsimp only at hSw); go_simp; all_goals with_reducible rfl)); (try simp only [Act.put, List.setIfInBounds_toArray, List.set_cons_zero, List.set_cons_succ]))
                first | fail | (refine np_step (i := 8) rfl (by kernel_rfl) (fun K hK => ?_); rw [if_pos (by rfl)]; go_simp; ((go_at_call 10; refine (bp1 _).mono ?_; rintro e w11 ⟨rfl, hbc⟩; have hx2 := hHeld.2.on hbc)); (try go_wp2_with fail); refine hK.out _ _ ?_ (fun hHeld => ?_); (· (first | exact Kx.out _ hx3 | exact Kx.out _ hx2 | exact Kx.out _ hx)); clear hK K; (try simp only [Act.put, List.setIfInBounds_toArray, List.set_cons_zero, List.set_cons_succ]))
                first | fail | (refine np_step (i := 17) rfl (by kernel_rfl) (fun K hK => ?_); rw [if_pos (by rfl)]; go_simp; ((go_at_call 10; refine (bh1 _).mono ?_; rintro e w12 ⟨rfl, hbc⟩; have hx3 := hHeld.2.on hbc)); (try go_wp2_with fail); refine hK.out _ _ ?_ (fun hHeld => ?_); (· (first | exact Kx.out _ hx3 | exact Kx.out _ hx2 | exact Kx.out _ hx)); clear hK K; (try simp only [Act.put, List.setIfInBounds_toArray, List.set_cons_zero, List.set_cons_succ]))
                first | fail | (refine np_take (i := 18) (v := ?_) rfl (by kernel_rfl) (by kernel_rfl) (by kernel_rfl) (by rfl) ?_ (by assumption) ?_; rotate_left 1; (· (intro w hSw; (try dsimp only at hSw); go_simp; all_goals with_reducible rfl)); (try simp only [Act.put, List.setIfInBounds_toArray, List.set_cons_zero, List.set_cons_succ]))
                refine wpAnyH_done (by kernel_rfl) ?_ _
                refine NoPanic.normal ?_
                have HI := Lib.hid hHeld.2
                clear hHeld bp1 bh1 hx
                go_wp2
                exact ⟨PwJ.intro (j + 1) rfl (by omega) HI.out, by simp [intOf]; omega⟩
              · have HI := Lib.hid hI
                clear hI
                go_wp2
                exact ⟨PwI.intro (i + 1) rfl (by omega) HI.out, by simp [intOf]; omega⟩
          · go_wp2_with fail
            refine (awake_any _).mono ?_
            rintro e w20 ⟨rfl, hb⟩
            have hI20 := hI.on hb
            go_wp2
            go_returns
            exact ⟨rfl, hI20.bl⟩
    · have hod : decide (-1 ≤ o) = false := by simpa using ho
      clear ho
      go_wp2_with fail
      refine (effects_any pp cp ps _ hI.p.row (by have := hI.p.len; omega) hI.p.ok).mono ?_
      rintro e w8 (⟨h, _, _⟩ | ⟨_, vX, X, hX, rfl, hOX, hb⟩)
      · rw [Hps.out] at h; exact absurd h (by decide)
      have hI8 := hI.on hb
      have hXr := IRow.own (zs := X.map fun (n : Nat) => (n : Int)) (by rw [← nv_iv]; exact hOX) (by simp)
      obtain ⟨px, cx, rfl, _, _⟩ := row_form hOX
      clear hb hI hOX
      go_wp2_with fail
      refine (effects_any p1 cap1 hs _ hI8.h.row (by have := hI8.h.len; omega) hI8.h.ok).mono ?_
      rintro e w9 (⟨h, _, _⟩ | ⟨_, vY, Y, hY, rfl, hOY, hb⟩)
      · rw [H0.out] at h; exact absurd h (by decide)
      have hI9 := hI8.on hb
      have hXr9 := hXr.on hb
      obtain ⟨hle, htk⟩ := pref_eff H0.out Hs1.out (eff_of_pure (Hmp.out.trans (pref_idem s hs).symm) hX) hY
      have hX24 : X.length ≤ 24 := Nat.le_trans (eff_len hX) hI9.p.len
      have hY24 : Y.length ≤ 24 := Nat.le_trans (eff_len hY) hI9.h.len
      have hmin : min (X.length : Int) (Y.length : Int) = (X.length : Int) := by omega
      have hdl : decide (Y.length < X.length) = false := by simp; omega
      obtain ⟨py, cy, rfl, hcy, ⟨rfl, hY0, rfl⟩ | ⟨g, rfl, hYc⟩⟩ := row_form hOY
      · have hX0 : X.length = 0 := by omega
        have hXn : X = [] := List.length_eq_zero_iff.1 hX0
        rw [hXn] at hXr9
        have eqi := eqi_any w9 (.slice px 0 cx) (.slice none 0 0) [] [] hXr9 (IRow.nil _) (by simp) (by simp)
        rw [decide_eq_true rfl] at eqi
        have hm0 : min (0 : Int) 0 = 0 := rfl
        rw [hX0, hY0]
        clear hb hI8 hXr hXr9 hOY hX hY htk hle hX24 hY24 hmin hdl hX0 hY0 hXn hcy
        go_wp2_with fail
        refine eqi.mono ?_
        clear eqi
        rintro e w10 ⟨rfl, hb⟩
        have hI10 := hI9.on hb
        clear hb hI9
        have hp24 : ps.length ≤ 24 := hI10.p.len
        go_wp2
        refine wp_loop (PwI w p1 cap1 hs pp cp ps) (fun a _ => ps.length - (intOf (a.tmps.getD 22 undef)).toNat) ?_ ?_
        · exact PwI.intro 0 rfl (by omega) hI10
        · clear hI10
          rintro a wr ⟨i, u, rfl, hi, hI⟩
          by_cases hil : i < ps.length
          · go_wp2
            refine wp_loop (PwJ w p1 cap1 hs pp cp ps i) (fun a _ => ps.length - (intOf (a.tmps.getD 23 undef)).toNat) ?_ ?_
            · exact PwJ.intro 0 rfl (by omega) hI
            · clear hI
              rintro a wr ⟨j, u, rfl, hj, hI⟩
              by_cases hjl : j < ps.length
              · obtain ⟨pa, hpa⟩ : ∃ c, ps[i]? = some c := ⟨_, List.getElem?_eq_getElem hil⟩
                obtain ⟨pb, hpb⟩ : ∃ c, ps[j]? = some c := ⟨_, List.getElem?_eq_getElem hjl⟩
                have hph : ps.length ≤ hs.length := Hlen.out
                obtain ⟨ha, hha⟩ : ∃ c, hs[i]? = some c := ⟨_, List.getElem?_eq_getElem (by omega)⟩
                obtain ⟨hb, hhb⟩ : ∃ c, hs[j]? = some c := ⟨_, List.getElem?_eq_getElem (by omega)⟩
                have hbef : befB pa pb = befB ha hb := bef_same H0.out Hmp.out hpa hpb hha hhb
                obtain ⟨bp, op, rfl, hcp, _, hCp⟩ := crow_some hI.p.row hil
                obtain ⟨bh, oh, rfl, hch, _, hCh⟩ := crow_some hI.h.row (by omega : i < hs.length)
                have kx : ∀ W, QI w (some ⟨bh, oh, none⟩) cap1 hs (some ⟨bp, op, none⟩) cp ps W → ((loadCall (.pointer (some ⟨bp, op + i * 27, none⟩))).run Try.prog W = .ok (.agg (callL pa).toArray) W ∧ (loadCall (.pointer (some ⟨bp, op + j * 27, none⟩))).run Try.prog W = .ok (.agg (callL pb).toArray) W ∧ (loadCall (.pointer (some ⟨bh, oh + i * 27, none⟩))).run Try.prog W = .ok (.agg (callL ha).toArray) W ∧ (loadCall (.pointer (some ⟨bh, oh + j * 27, none⟩))).run Try.prog W = .ok (.agg (callL hb).toArray) W) ∧ QI w (some ⟨bh, oh, none⟩) cap1 hs (some ⟨bp, op, none⟩) cp ps W := fun W h => by
                  obtain ⟨_, _, e1, _, _, c1⟩ := crow_some h.p.row hil
                  cases e1
                  obtain ⟨_, _, e2, _, _, c2⟩ := crow_some h.h.row (by omega : i < hs.length)
                  cases e2
                  exact ⟨⟨c1.load hpa, c1.load hpb, c2.load hha, c2.load hhb⟩, h⟩
                have Kx := Lib.hid kx
                have bp1 := fun W => before_any pa pb W
                have bh1 := fun W => before_any ha hb W
                rw [hbef] at bp1
                generalize befB ha hb = y at bp1 bh1
                have ey : (y != y) = false := by simp
                have ey2 : (y == y) = true := by simp
                have hx := hI.on (Below.refl _ _).drew
                have hl1 : (i : Int) < (hs.length : Int) := by omega
                have hl2 : (j : Int) < (hs.length : Int) := by omega
                clear kx hpa hpb hha hhb hbef hCp hCh hI
                go_wp2
                refine wp_region_noPanic ?_
                refine wp_region_held_drew (S := fun W => ((loadCall (.pointer (some ⟨bp, op + i * 27, none⟩))).run Try.prog W = .ok (.agg (callL pa).toArray) W ∧ (loadCall (.pointer (some ⟨bp, op + j * 27, none⟩))).run Try.prog W = .ok (.agg (callL pb).toArray) W ∧ (loadCall (.pointer (some ⟨bh, oh + i * 27, none⟩))).run Try.prog W = .ok (.agg (callL ha).toArray) W ∧ (loadCall (.pointer (some ⟨bh, oh + j * 27, none⟩))).run Try.prog W = .ok (.agg (callL hb).toArray) W) ∧ QI w (some ⟨bh, oh, none⟩) cap1 hs (some ⟨bp, op, none⟩) cp ps W) (by kernel_rfl) ?_ (fun hHeld => ?_)
                · first | exact Kx.out _ hx3 | exact Kx.out _ hx2 | exact Kx.out _ hx
                first | fail | (refine np_take (i := 0) (v := ?_) rfl (by kernel_rfl) (by kernel_rfl) (by kernel_rfl) (by rfl) ?_ (by assumption) ?_; rotate_left 1; (· (intro w hSw; (try dsimp only at hSw); go_simp; all_goals with_reducible rfl)); (try simp only [Act.put, List.setIfInBounds_toArray, List.set_cons_zero, List.set_cons_succ]))
                first | fail | (refine np_take (i := 1) (v := ?_) rfl (by kernel_rfl) (by kernel_rfl) (by kernel_rfl) (by rfl) ?_ (by assumption) ?_; rotate_left 1; (· (intro w hSw; (try dsimp only at hSw); go_simp; all_goals with_reducible rfl)); (try simp only [Act.put, List.setIfInBounds_toArray, List.set_cons_zero, List.set_cons_succ]))
                first | fail | (refine np_take (i := 2) (v := ?_) rfl (by kernel_rfl) (by kernel_rfl) (by kernel_rfl) (by rfl) ?_ (by assumption) ?_; rotate_left 1; (· (intro w hSw; (try dsimp only at hSw); go_simp; all_goals with_reducible rfl)); (try simp only [Act.put, List.setIfInBounds_toArray, List.set_cons_zero, List.set_cons_succ]))
                first | fail | (refine np_take (i := 3) (v := ?_) rfl (by kernel_rfl) (by kernel_rfl) (by kernel_rfl) (by rfl) ?_ (by assumption) ?_; rotate_left 1; (· (intro w hSw; (try dsimp only at hSw); go_simp; all_goals with_reducible rfl)); (try simp only [Act.put, List.setIfInBounds_toArray, List.set_cons_zero, List.set_cons_succ]))
                first | fail | (refine np_take (i := 4) (v := ?_) rfl (by kernel_rfl) (by kernel_rfl) (by kernel_rfl) (by rfl) ?_ (by assumption) ?_; rotate_left 1; (· (intro w hSw; (try dsimp only at hSw); go_simp; all_goals with_reducible rfl)); (try simp only [Act.put, List.setIfInBounds_toArray, List.set_cons_zero, List.set_cons_succ]))
                first | fail | (refine np_take (i := 5) (v := ?_) rfl (by kernel_rfl) (by kernel_rfl) (by kernel_rfl) (by rfl) ?_ (by assumption) ?_; rotate_left 1; (· (intro w hSw; (try dsimp only at hSw); go_simp; all_goals with_reducible rfl)); (try simp only [Act.put, List.setIfInBounds_toArray, List.set_cons_zero, List.set_cons_succ]))
                first | fail | (refine np_take (i := 6) (v := ?_) rfl (by kernel_rfl) (by kernel_rfl) (by kernel_rfl) (by rfl) ?_ (by assumption) ?_; rotate_left 1; (· (intro w hSw; (try dsimp only at hSw); go_simp; all_goals with_reducible rfl)); (try simp only [Act.put, List.setIfInBounds_toArray, List.set_cons_zero, List.set_cons_succ]))
                first | fail | (refine np_take (i := 7) (v := ?_) rfl (by kernel_rfl) (by kernel_rfl) (by kernel_rfl) (by rfl) ?_ (by assumption) ?_; rotate_left 1; (· (intro w hSw; (try dsimp only at hSw); go_simp; all_goals with_reducible rfl)); (try simp only [Act.put, List.setIfInBounds_toArray, List.set_cons_zero, List.set_cons_succ]))
                first | fail | (refine np_take (i := 9) (v := ?_) rfl (by kernel_rfl) (by kernel_rfl) (by kernel_rfl) (by rfl) ?_ (by assumption) ?_; rotate_left 1; (· (intro w hSw; (try dsimp only at hSw); go_simp; all_goals with_reducible rfl)); (try simp only [Act.put, List.setIfInBounds_toArray, List.set_cons_zero, List.set_cons_succ]))
                first | fail | (refine np_take (i := 10) (v := ?_) rfl (by kernel_rfl) (by kernel_rfl) (by kernel_rfl) (by rfl) ?_ (by assumption) ?_; rotate_left 1; (· (intro w hSw; (try dsimp only at hSw); go_simp; all_goals with_reducible rfl)); (try simp only [Act.put, List.setIfInBounds_toArray, List.set_cons_zero, List.set_cons_succ]))
                first | fail | (refine np_take (i := 11) (v := ?_) rfl (by kernel_rfl) (by kernel_rfl) (by kernel_rfl) (by rfl) ?_ (by assumption) ?_; rotate_left 1; (· (intro w hSw; (try dsimp only at hSw); go_simp; all_goals with_reducible rfl)); (try simp only [Act.put, List.setIfInBounds_toArray, List.set_cons_zero, List.set_cons_succ]))
                first | fail | (refine np_take (i := 12) (v := ?_) rfl (by kernel_rfl) (by kernel_rfl) (by kernel_rfl) (by rfl) ?_ (by assumption) ?_; rotate_left 1; (· (intro w hSw; (try dsimp only at hSw); go_simp; all_goals with_reducible rfl)); (try simp only [Act.put, List.setIfInBounds_toArray, List.set_cons_zero, List.set_cons_succ]))
                first | fail | (refine np_take (i := 13) (v := ?_) rfl (by kernel_rfl) (by kernel_rfl) (by kernel_rfl) (by rfl) ?_ (by assumption) ?_; rotate_left 1; (· (intro w hSw; (try dsimp only at hSw); go_simp; all_goals with_reducible rfl)); (try simp only [Act.put, List.setIfInBounds_toArray, List.set_cons_zero, List.set_cons_succ]))
                first | fail | (refine np_take (i := 14) (v := ?_) rfl (by kernel_rfl) (by kernel_rfl) (by kernel_rfl) (by rfl) ?_ (by assumption) ?_; rotate_left 1; (· (intro w hSw; (try dsimp only at hSw); go_simp; all_goals with_reducible rfl)); (try simp only [Act.put, List.setIfInBounds_toArray, List.set_cons_zero, List.set_cons_succ]))
                first | fail | (refine np_take (i := 15) (v := ?_) rfl (by kernel_rfl) (by kernel_rfl) (by kernel_rfl) (by rfl) ?_ (by assumption) ?_; rotate_left 1; (· (intro w hSw; (try dsimp only at hSw); go_simp; all_goals with_reducible rfl)); (try simp only [Act.put, List.setIfInBounds_toArray, List.set_cons_zero, List.set_cons_succ]))
                first | fail | (refine np_take (i := 16) (v := ?_) rfl (by kernel_rfl) (by kernel_rfl) (by kernel_rfl) (by rfl) ?_ (by assumption) ?_; rotate_left 1; (· (intro w hSw; (try dsimp only at hSw); go_simp; all_goals with_reducible rfl)); (try simp only [Act.put, List.setIfInBounds_toArray, List.set_cons_zero, List.set_cons_succ]))
                first | fail | (refine np_step (i := 8) rfl (by kernel_rfl) (fun K hK => ?_); rw [if_pos (by rfl)]; go_simp; ((go_at_call 10; refine (bp1 _).mono ?_; rintro e w11 ⟨rfl, hbc⟩; have hx2 := hHeld.2.on hbc)); (try go_wp2_with fail); refine hK.out _ _ ?_ (fun hHeld => ?_); (· (first | exact Kx.out _ hx3 | exact Kx.out _ hx2 | exact Kx.out _ hx)); clear hK K; (try simp only [Act.put, List.setIfInBounds_toArray, List.set_cons_zero, List.set_cons_succ]))
                first | fail | (refine np_step (i := 17) rfl (by kernel_rfl) (fun K hK => ?_); rw [if_pos (by rfl)]; go_simp; ((go_at_call 10; refine (bh1 _).mono ?_; rintro e w12 ⟨rfl, hbc⟩; have hx3 := hHeld.2.on hbc)); (try go_wp2_with fail); refine hK.out _ _ ?_ (fun hHeld => ?_); (· (first | exact Kx.out _ hx3 | exact Kx.out _ hx2 | exact Kx.out _ hx)); clear hK K; (try simp only [Act.put, List.setIfInBounds_toArray, List.set_cons_zero, List.set_cons_succ]))
                first | fail | (refine np_take (i := 18) (v := ?_) rfl (by kernel_rfl) (by kernel_rfl) (by kernel_rfl) (by rfl) ?_ (by assumption) ?_; rotate_left 1; (· (intro w hSw; (try dsimp only at hSw); go_simp; all_goals with_reducible rfl)); (try simp only [Act.put, List.setIfInBounds_toArray, List.set_cons_zero, List.set_cons_succ]))
                refine wpAnyH_done (by kernel_rfl) ?_ _
                refine NoPanic.normal ?_
                have HI := Lib.hid hHeld.2
                clear hHeld bp1 bh1 hx
                go_wp2
                exact ⟨PwJ.intro (j + 1) rfl (by omega) HI.out, by simp [intOf]; omega⟩
              · have HI := Lib.hid hI
                clear hI
                go_wp2
                exact ⟨PwI.intro (i + 1) rfl (by omega) HI.out, by simp [intOf]; omega⟩
          · go_wp2_with fail
            refine (awake_any _).mono ?_
            rintro e w20 ⟨rfl, hb⟩
            have hI20 := hI.on hb
            go_wp2
            go_returns
            exact ⟨rfl, hI20.bl⟩
      · have hYr : IRow w9 (.slice (some ⟨g, 0, none⟩) X.length cy) ((X.map fun (n : Nat) => (n : Int))) := by
          refine .inr ⟨g, 0, cy, by simp, fun j u hj => ?_⟩
          have hlt := (List.getElem?_eq_some_iff.1 hj).1
          rw [List.length_map] at hlt
          have hx : X[j]? = Y[j]? := by
            have h1 : (Y.take X.length)[j]? = Y[j]? := List.getElem?_take_of_lt hlt
            rwa [← htk] at h1
          rw [List.getElem?_map, hx] at hj
          rw [Nat.zero_add, hYc j (by omega), nv_iv, List.getElem?_map, List.getElem?_map, hj]
          rfl
        have eqi := eqi_any w9 (.slice px X.length cx) (.slice (some ⟨g, 0, none⟩) X.length cy) _ _ hXr9 hYr (by simp; omega) (by simp; omega)
        rw [decide_eq_true rfl] at eqi
        have hcy2 : (X.length : Int) ≤ (cy : Int) := by omega
        clear hb hI8 hXr hXr9 hOY hX hY hYr hYc htk
        go_wp2_with fail
        refine eqi.mono ?_
        clear eqi
        rintro e w10 ⟨rfl, hb⟩
        have hI10 := hI9.on hb
        clear hb hI9
        have hp24 : ps.length ≤ 24 := hI10.p.len
        go_wp2
        refine wp_loop (PwI w p1 cap1 hs pp cp ps) (fun a _ => ps.length - (intOf (a.tmps.getD 22 undef)).toNat) ?_ ?_
        · exact PwI.intro 0 rfl (by omega) hI10
        · clear hI10
          rintro a wr ⟨i, u, rfl, hi, hI⟩
          by_cases hil : i < ps.length
          · go_wp2
            refine wp_loop (PwJ w p1 cap1 hs pp cp ps i) (fun a _ => ps.length - (intOf (a.tmps.getD 23 undef)).toNat) ?_ ?_
            · exact PwJ.intro 0 rfl (by omega) hI
            · clear hI
              rintro a wr ⟨j, u, rfl, hj, hI⟩
              by_cases hjl : j < ps.length
              · obtain ⟨pa, hpa⟩ : ∃ c, ps[i]? = some c := ⟨_, List.getElem?_eq_getElem hil⟩
                obtain ⟨pb, hpb⟩ : ∃ c, ps[j]? = some c := ⟨_, List.getElem?_eq_getElem hjl⟩
                have hph : ps.length ≤ hs.length := Hlen.out
                obtain ⟨ha, hha⟩ : ∃ c, hs[i]? = some c := ⟨_, List.getElem?_eq_getElem (by omega)⟩
                obtain ⟨hb, hhb⟩ : ∃ c, hs[j]? = some c := ⟨_, List.getElem?_eq_getElem (by omega)⟩
                have hbef : befB pa pb = befB ha hb := bef_same H0.out Hmp.out hpa hpb hha hhb
                obtain ⟨bp, op, rfl, hcp, _, hCp⟩ := crow_some hI.p.row hil
                obtain ⟨bh, oh, rfl, hch, _, hCh⟩ := crow_some hI.h.row (by omega : i < hs.length)
                have kx : ∀ W, QI w (some ⟨bh, oh, none⟩) cap1 hs (some ⟨bp, op, none⟩) cp ps W → ((loadCall (.pointer (some ⟨bp, op + i * 27, none⟩))).run Try.prog W = .ok (.agg (callL pa).toArray) W ∧ (loadCall (.pointer (some ⟨bp, op + j * 27, none⟩))).run Try.prog W = .ok (.agg (callL pb).toArray) W ∧ (loadCall (.pointer (some ⟨bh, oh + i * 27, none⟩))).run Try.prog W = .ok (.agg (callL ha).toArray) W ∧ (loadCall (.pointer (some ⟨bh, oh + j * 27, none⟩))).run Try.prog W = .ok (.agg (callL hb).toArray) W) ∧ QI w (some ⟨bh, oh, none⟩) cap1 hs (some ⟨bp, op, none⟩) cp ps W := fun W h => by
                  obtain ⟨_, _, e1, _, _, c1⟩ := crow_some h.p.row hil
                  cases e1
                  obtain ⟨_, _, e2, _, _, c2⟩ := crow_some h.h.row (by omega : i < hs.length)
                  cases e2
                  exact ⟨⟨c1.load hpa, c1.load hpb, c2.load hha, c2.load hhb⟩, h⟩
                have Kx := Lib.hid kx
                have bp1 := fun W => before_any pa pb W
                have bh1 := fun W => before_any ha hb W
                rw [hbef] at bp1
                generalize befB ha hb = y at bp1 bh1
                have ey : (y != y) = false := by simp
                have ey2 : (y == y) = true := by simp
                have hx := hI.on (Below.refl _ _).drew
                have hl1 : (i : Int) < (hs.length : Int) := by omega
                have hl2 : (j : Int) < (hs.length : Int) := by omega
                clear kx hpa hpb hha hhb hbef hCp hCh hI
                go_wp2
                refine wp_region_noPanic ?_
                refine wp_region_held_drew (S := fun W => ((loadCall (.pointer (some ⟨bp, op + i * 27, none⟩))).run Try.prog W = .ok (.agg (callL pa).toArray) W ∧ (loadCall (.pointer (some ⟨bp, op + j * 27, none⟩))).run Try.prog W = .ok (.agg (callL pb).toArray) W ∧ (loadCall (.pointer (some ⟨bh, oh + i * 27, none⟩))).run Try.prog W = .ok (.agg (callL ha).toArray) W ∧ (loadCall (.pointer (some ⟨bh, oh + j * 27, none⟩))).run Try.prog W = .ok (.agg (callL hb).toArray) W) ∧ QI w (some ⟨bh, oh, none⟩) cap1 hs (some ⟨bp, op, none⟩) cp ps W) (by kernel_rfl) ?_ (fun hHeld => ?_)
                · first | exact Kx.out _ hx3 | exact Kx.out _ hx2 | exact Kx.out _ hx
                first | fail | (refine np_take (i := 0) (v := ?_) rfl (by kernel_rfl) (by kernel_rfl) (by kernel_rfl) (by rfl) ?_ (by assumption) ?_; rotate_left 1; (· (intro w hSw; (try dsimp only at hSw); go_simp; all_goals with_reducible rfl)); (try simp only [Act.put, List.setIfInBounds_toArray, List.set_cons_zero, List.set_cons_succ]))
                first | fail | (refine np_take (i := 1) (v := ?_) rfl (by kernel_rfl) (by kernel_rfl) (by kernel_rfl) (by rfl) ?_ (by assumption) ?_; rotate_left 1; (· (intro w hSw; (try dsimp only at hSw); go_simp; all_goals with_reducible rfl)); (try simp only [Act.put, List.setIfInBounds_toArray, List.set_cons_zero, List.set_cons_succ]))
                first | fail | (refine np_take (i := 2) (v := ?_) rfl (by kernel_rfl) (by kernel_rfl) (by kernel_rfl) (by rfl) ?_ (by assumption) ?_; rotate_left 1; (· (intro w hSw; (try dsimp only at hSw); go_simp; all_goals with_reducible rfl)); (try simp only [Act.put, List.setIfInBounds_toArray, List.set_cons_zero, List.set_cons_succ]))
                first | fail | (refine np_take (i := 3) (v := ?_) rfl (by kernel_rfl) (by kernel_rfl) (by kernel_rfl) (by rfl) ?_ (by assumption) ?_; rotate_left 1; (· (intro w hSw; (try dsimp only at hSw); go_simp; all_goals with_reducible rfl)); (try simp only [Act.put, List.setIfInBounds_toArray, List.set_cons_zero, List.set_cons_succ]))
                first | fail | (refine np_take (i := 4) (v := ?_) rfl (by kernel_rfl) (by kernel_rfl) (by kernel_rfl) (by rfl) ?_ (by assumption) ?_; rotate_left 1; (· (intro w hSw; (try dsimp only at hSw); go_simp; all_goals with_reducible rfl)); (try simp only [Act.put, List.setIfInBounds_toArray, List.set_cons_zero, List.set_cons_succ]))
                first | fail | (refine np_take (i := 5) (v := ?_) rfl (by kernel_rfl) (by kernel_rfl) (by kernel_rfl) (by rfl) ?_ (by assumption) ?_; rotate_left 1; (· (intro w hSw; (try dsimp only at hSw); go_simp; all_goals with_reducible rfl)); (try simp only [Act.put, List.setIfInBounds_toArray, List.set_cons_zero, List.set_cons_succ]))
                first | fail | (refine np_take (i := 6) (v := ?_) rfl (by kernel_rfl) (by kernel_rfl) (by kernel_rfl) (by rfl) ?_ (by assumption) ?_; rotate_left 1; (· (intro w hSw; (try dsimp only at hSw); go_simp; all_goals with_reducible rfl)); (try simp only [Act.put, List.setIfInBounds_toArray, List.set_cons_zero, List.set_cons_succ]))
                first | fail | (refine np_take (i := 7) (v := ?_) rfl (by kernel_rfl) (by kernel_rfl) (by kernel_rfl) (by rfl) ?_ (by assumption) ?_; rotate_left 1; (· (intro w hSw; (try dsimp only at hSw); go_simp; all_goals with_reducible rfl)); (try simp only [Act.put, List.setIfInBounds_toArray, List.set_cons_zero, List.set_cons_succ]))
                first | fail | (refine np_take (i := 9) (v := ?_) rfl (by kernel_rfl) (by kernel_rfl) (by kernel_rfl) (by rfl) ?_ (by assumption) ?_; rotate_left 1; (· (intro w hSw; (try dsimp only at hSw); go_simp; all_goals with_reducible rfl)); (try simp only [Act.put, List.setIfInBounds_toArray, List.set_cons_zero, List.set_cons_succ]))
                first | fail | (refine np_take (i := 10) (v := ?_) rfl (by kernel_rfl) (by kernel_rfl) (by kernel_rfl) (by rfl) ?_ (by assumption) ?_; rotate_left 1; (· (intro w hSw; (try dsimp only at hSw); go_simp; all_goals with_reducible rfl)); (try simp only [Act.put, List.setIfInBounds_toArray, List.set_cons_zero, List.set_cons_succ]))
                first | fail | (refine np_take (i := 11) (v := ?_) rfl (by kernel_rfl) (by kernel_rfl) (by kernel_rfl) (by rfl) ?_ (by assumption) ?_; rotate_left 1; (· (intro w hSw; (try dsimp only at hSw); go_simp; all_goals with_reducible rfl)); (try simp only [Act.put, List.setIfInBounds_toArray, List.set_cons_zero, List.set_cons_succ]))
                first | fail | (refine np_take (i := 12) (v := ?_) rfl (by kernel_rfl) (by kernel_rfl) (by kernel_rfl) (by rfl) ?_ (by assumption) ?_; rotate_left 1; (· (intro w hSw; (try dsimp only at hSw); go_simp; all_goals with_reducible rfl)); (try simp only [Act.put, List.setIfInBounds_toArray, List.set_cons_zero, List.set_cons_succ]))
                first | fail | (refine np_take (i := 13) (v := ?_) rfl (by kernel_rfl) (by kernel_rfl) (by kernel_rfl) (by rfl) ?_ (by assumption) ?_; rotate_left 1; (· (intro w hSw; (try dsimp only at hSw); go_simp; all_goals with_reducible rfl)); (try simp only [Act.put, List.setIfInBounds_toArray, List.set_cons_zero, List.set_cons_succ]))
                first | fail | (refine np_take (i := 14) (v := ?_) rfl (by kernel_rfl) (by kernel_rfl) (by kernel_rfl) (by rfl) ?_ (by assumption) ?_; rotate_left 1; (· (intro w hSw; (try dsimp only at hSw); go_simp; all_goals with_reducible rfl)); (try simp only [Act.put, List.setIfInBounds_toArray, List.set_cons_zero, List.set_cons_succ]))
                first | fail | (refine np_take (i := 15) (v := ?_) rfl (by kernel_rfl) (by kernel_rfl) (by kernel_rfl) (by rfl) ?_ (by assumption) ?_; rotate_left 1; (· (intro w hSw; (try dsimp only at hSw); go_simp; all_goals with_reducible rfl)); (try simp only [Act.put, List.setIfInBounds_toArray, List.set_cons_zero, List.set_cons_succ]))
                first | fail | (refine np_take (i := 16) (v := ?_) rfl (by kernel_rfl) (by kernel_rfl) (by kernel_rfl) (by rfl) ?_ (by assumption) ?_; rotate_left 1; (· (intro w hSw; (try dsimp only at hSw); go_simp; all_goals with_reducible rfl)); (try simp only [Act.put, List.setIfInBounds_toArray, List.set_cons_zero, List.set_cons_succ]))
                first | fail | (refine np_step (i := 8) rfl (by kernel_rfl) (fun K hK => ?_); rw [if_pos (by rfl)]; go_simp; ((go_at_call 10; refine (bp1 _).mono ?_; rintro e w11 ⟨rfl, hbc⟩; have hx2 := hHeld.2.on hbc)); (try go_wp2_with fail); refine hK.out _ _ ?_ (fun hHeld => ?_); (· (first | exact Kx.out _ hx3 | exact Kx.out _ hx2 | exact Kx.out _ hx)); clear hK K; (try simp only [Act.put, List.setIfInBounds_toArray, List.set_cons_zero, List.set_cons_succ]))
                first | fail | (refine np_step (i := 17) rfl (by kernel_rfl) (fun K hK => ?_); rw [if_pos (by rfl)]; go_simp; ((go_at_call 10; refine (bh1 _).mono ?_; rintro e w12 ⟨rfl, hbc⟩; have hx3 := hHeld.2.on hbc)); (try go_wp2_with fail); refine hK.out _ _ ?_ (fun hHeld => ?_); (· (first | exact Kx.out _ hx3 | exact Kx.out _ hx2 | exact Kx.out _ hx)); clear hK K; (try simp only [Act.put, List.setIfInBounds_toArray, List.set_cons_zero, List.set_cons_succ]))
                first | fail | (refine np_take (i := 18) (v := ?_) rfl (by kernel_rfl) (by kernel_rfl) (by kernel_rfl) (by rfl) ?_ (by assumption) ?_; rotate_left 1; (· (intro w hSw; (try dsimp only at hSw); go_simp; all_goals with_reducible rfl)); (try simp only [Act.put, List.setIfInBounds_toArray, List.set_cons_zero, List.set_cons_succ]))
                refine wpAnyH_done (by kernel_rfl) ?_ _
                refine NoPanic.normal ?_
                have HI := Lib.hid hHeld.2
                clear hHeld bp1 bh1 hx
                go_wp2
                exact ⟨PwJ.intro (j + 1) rfl (by omega) HI.out, by simp [intOf]; omega⟩
              · have HI := Lib.hid hI
                clear hI
                go_wp2
                exact ⟨PwI.intro (i + 1) rfl (by omega) HI.out, by simp [intOf]; omega⟩
          · go_wp2_with fail
            refine (awake_any _).mono ?_
            rintro e w20 ⟨rfl, hb⟩
            have hI20 := hI.on hb
            go_wp2
            go_returns
            exact ⟨rfl, hI20.bl⟩
end Go.Proofs.Ytjinnlmmlbmodaa
