/- spoil of the history laws. -/
import Derived.Test.YtjinnlmmlbmodaaHrC
namespace Go.Proofs.Ytjinnlmmlbmodaa
open Go.RowKit Go.Lib Go.Shelf
open KitI (own_below)
attribute [local go_sem, local simp] callL_0 callL_1 callL_2 callL_3 callL_4 callL_5 callL_6 callL_7 callL_8 callL_9 callL_10 callL_11 callL_12 callL_13 callL_14 callL_15 callL_16 callL_17 callL_18 callL_19 callL_20 callL_21 callL_22 callL_23 callL_24 callL_25 callL_26 resL_0 resL_1 resL_2 resL_3 resL_4 resL_5 resL_6 resL_7 resL_8 resL_9 resL_10 resL_11 resL_12 callG_0 callG_1 callG_2 callG_3 callG_4 callG_5 callG_6 callG_7 callG_8 callG_9 callG_10 callG_11 callG_12 callG_13 callG_14 callG_15 callG_16 callG_17 callG_18 callG_19 callG_20 callG_21 callG_22 callG_23 callG_24 callG_25 callG_26 resG_0 resG_1 resG_2 resG_3 resG_4 resG_5 resG_6 resG_7 resG_8 resG_9 resG_10 resG_11 resG_12 callL_len resL_len
attribute [local go_sem ↓] loadCall_eq loadRes_eq
attribute [local go_sem] ld_new ld_first ld_second ldr_new st_new

def zeroP : PieceV := ⟨0, 0, ⟨#[]⟩⟩
theorem aggP : Value.agg #[.int .u8 0, .int .i64 0, .string ⟨#[]⟩] = .agg (pieceL zeroP).toArray := rfl
theorem aggC : Value.agg #[.int .i64 0, .int .i64 0, .int .u8 0, .int .i64 0, .int .i64 0, .int .i64 0, .int .u32 0, .int .u8 0, .string ⟨#[]⟩, .int .i64 0, .int .i64 0, .int .i64 0, .int .i64 0, .int .i64 0, .int .i64 0, .int .i64 0, .int .i64 0, .int .i64 0, .int .u8 0, .string ⟨#[]⟩, .int .i64 0, .int .i64 0, .int .i64 0, .int .u8 0, .int .i64 0, .int .i64 0, .slice none 0 0] = .agg (callL zeroC).toArray := rfl
attribute [local go_sem, local simp] aggP aggC
/-- The delta of a call lies in a block of pieces, at N0 or behind. -/
def DW (N0 M : Nat) (W : World) (c : CallV) : Prop := (c.ps = [] ∧ c.da = none ∧ c.dc = 0) ∨ ∃ (g : Nat) (cur : Array Value), c.da = some ⟨g, 0, none⟩ ∧ (N0 ≤ g ∧ g < M) ∧ W.heap[g]? = some (.cells cur 72 (0, 0)) ∧ c.ps.length * 3 ≤ cur.size
theorem DOwn.dw {w W : World} {N0 M : Nat} {c : CallV} (h : DOwn w W c) (hN : N0 ≤ w.heap.size) (hM : ∀ g, c.da = some ⟨g, 0, none⟩ → g < M) : DW N0 M W c := by
  rcases h.2 with ⟨h1, h2, h3⟩ | ⟨g, cur, h1, h2, h3, h4⟩
  · exact .inl ⟨h2, h1, h3⟩
  · refine .inr ⟨g, cur, h1, ⟨by omega, hM g h1⟩, h3, ?_⟩
    rcases Nat.eq_zero_or_pos c.ps.length with h0 | h0
    · omega
    · obtain ⟨u, hu⟩ : ∃ u, (piecesL c.ps)[c.ps.length * 3 - 1]? = some u := ⟨_, List.getElem?_eq_getElem (by rw [piecesL_len]; omega)⟩
      have := (Array.getElem?_eq_some_iff.1 (h4 _ _ hu)).1
      omega
/-- A block of pieces is written. -/
theorem DW.row {N0 M : Nat} {W : World} {c : CallV} (h : DW N0 M W c) {g : Nat} {cur cur' : Array Value} {t : TypeId} (hg : W.heap[g]? = some (.cells cur t (0, 0))) (hs : cur'.size = cur.size) : DW N0 M (W.setRow g cur') c := by
  rcases h with h | ⟨g', cu, h1, h2, h3, h4⟩
  · exact .inl h
  · by_cases e : g' = g
    · subst e
      rw [hg] at h3
      cases h3
      exact .inr ⟨g', cur', h1, h2, setRow_heap _ _ _ _ _ _ hg, by omega⟩
    · exact .inr ⟨g', cu, h1, h2, by rw [setRow_other _ _ _ _ e]; exact h3, h4⟩
/-- What holds throughout spoil: the row's block; the calls not yet overwritten. -/
structure SI (N0 M : Nat) (W0 : World) (g : Nat) (cs : List CallV) (i : Nat) (W : World) : Prop where
  blk : ∃ cur, W.heap[g]? = some (.cells cur 34 (0, 0)) ∧ cs.length * 27 ≤ cur.size ∧ ∀ k c, i ≤ k → cs[k]? = some c → cur[k * 27 + 26]? = some (.slice c.da c.ps.length c.dc)
  del : ∀ c ∈ cs, DW N0 M W c
  bl : Below N0 W0 W
  up : ∀ k, M ≤ k → W.heap[k]? = W0.heap[k]?
theorem SI.drewN {N0 M : Nat} {W0 : World} {g : Nat} {cs : List CallV} {i : Nat} {W : World} (h : SI N0 M W0 g cs i W) : SI N0 M W0 g cs i W.drew := ⟨h.blk, h.del, h.bl.drew, h.up⟩
theorem size_over (xs news : List Value) (n : Nat) (h : n + news.length ≤ xs.length) : (xs.take n ++ news ++ xs.drop (n + news.length)).length = xs.length := by
  simp; omega
/-- A piece of a delta is overwritten. -/
theorem SI.piece {N0 M : Nat} {W0 : World} {g : Nat} {cs : List CallV} {i : Nat} {W : World} (h : SI N0 M W0 g cs i W) {c : CallV} (hc : c ∈ cs) {k : Nat} (hk : k < c.ps.length) : ∃ gd W', c.da = some ⟨gd, 0, none⟩ ∧ (storeCells ⟨gd, k * 3, none⟩ (pieceL zeroP)).run Try.prog W = .ok () W' ∧ SI N0 M W0 g cs i W' := by
  rcases h.del c hc with ⟨h1, _⟩ | ⟨gd, cur, h1, h2, h3, h4⟩
  · rw [h1] at hk; simp at hk
  · have hst := run_storeCells_at (P := Try.prog) gd (k * 3) 72 (pieceL zeroP) 0 cur W h3 (by rw [pieceL_len]; omega) (fun v hv => pieceL_ones zeroP v hv)
    simp only [Nat.add_zero] at hst
    refine ⟨gd, _, h1, hst, ?_⟩
    have hsz : (cur.toList.take (k * 3) ++ pieceL zeroP ++ cur.toList.drop (k * 3 + (pieceL zeroP).length)).toArray.size = cur.size := by
      rw [List.size_toArray, size_over _ _ _ (by rw [pieceL_len, Array.length_toList]; omega), Array.length_toList]
    obtain ⟨cg, g1, g2, g3⟩ := h.blk
    have hne : g ≠ gd := fun e => by rw [e, h3] at g1; cases g1
    exact ⟨⟨cg, by rw [setRow_other _ _ _ _ hne]; exact g1, g2, g3⟩, fun d hd => (h.del d hd).row h3 hsz, below_row h.bl h2.1 _, fun q hq => by rw [setRow_other _ _ _ _ (by omega)]; exact h.up q hq⟩
/-- A call is overwritten. -/
theorem SI.call {N0 M : Nat} {W0 : World} {g : Nat} {cs : List CallV} {i : Nat} {W : World} (h : SI N0 M W0 g cs i W) (hg : N0 ≤ g ∧ g < M) (hi : i < cs.length) : ∃ W', (storeCells ⟨g, i * 27, none⟩ (callL zeroC)).run Try.prog W = .ok () W' ∧ SI N0 M W0 g cs (i + 1) W' := by
  obtain ⟨cg, g1, g2, g3⟩ := h.blk
  have hst := run_storeCells_at (P := Try.prog) g (i * 27) 34 (callL zeroC) 0 cg W g1 (by rw [callL_len]; omega) (fun v hv => ones_call zeroC v hv)
  simp only [Nat.add_zero] at hst
  refine ⟨_, hst, ⟨_, setRow_heap _ _ _ _ _ _ g1, ?_, fun k c hk hc => ?_⟩, fun d hd => (h.del d hd).row g1 ?_, below_row h.bl hg.1 _, fun q hq => by rw [setRow_other _ _ _ _ (by omega)]; exact h.up q hq⟩
  · rw [List.size_toArray, size_over _ _ _ (by rw [callL_len, Array.length_toList]; omega), Array.length_toList]; exact g2
  · have hklt := (List.getElem?_eq_some_iff.1 hc).1
    have := g3 k c (by omega) hc
    rw [List.getElem?_toArray, List.getElem?_append_right (by simp [callL_len]; omega), List.getElem?_drop]
    rw [← Array.getElem?_toList] at this
    rw [← this]
    congr 1
    simp [callL_len]
    omega
  · rw [List.size_toArray, size_over _ _ _ (by rw [callL_len, Array.length_toList]; omega), Array.length_toList]
theorem SI.cell {N0 M : Nat} {W0 : World} {g : Nat} {cs : List CallV} {i : Nat} {W : World} (h : SI N0 M W0 g cs i W) {c : CallV} (hc : cs[i]? = some c) : W.cell? ⟨g, i * 27 + 26, none⟩ = some (.slice c.da c.ps.length c.dc) := by
  obtain ⟨cg, g1, g2, g3⟩ := h.blk
  rw [cell_of_row _ _ _ _ _ _ g1]
  exact g3 i c (Nat.le_refl _) hc
def SpO (N0 M : Nat) (W0 : World) (g : Nat) (cs : List CallV) (i : Value) (wr : World) : Prop := ∃ k : Nat, i = .int .i64 k ∧ k ≤ cs.length ∧ SI N0 M W0 g cs k wr
def SpJ (N0 M : Nat) (W0 : World) (g : Nat) (cs : List CallV) (i n : Nat) (j : Value) (wr : World) : Prop := ∃ k : Nat, j = .int .i64 k ∧ k ≤ n ∧ SI N0 M W0 g cs i wr
set_option maxRecDepth 100000 in
set_option maxHeartbeats 2000000 in
theorem spoil_some (N0 M g cap : Nat) (cs : List CallV) (W : World) (hg : N0 ≤ g ∧ g < M) (hI : SI N0 M W g cs 0 W) (hs : cs.length ≤ 1000000) (hps : ∀ c ∈ cs, c.ps.length ≤ 1000000) :
    Calls Try.prog 35 #[.slice (some ⟨g, 0, none⟩) cs.length cap] W fun e w' => (∃ v, e = .returned v) ∧ Below N0 W w' ∧ ∀ k, M ≤ k → w'.heap[k]? = W.heap[k]? := by
  go_enter Try.func35, Try.ntmps35
  go_wp2
  go_loopw [2] (fun i wr => SpO N0 M W g cs i wr) (fun i wr => cs.length - (intOf i).toNat)
  case atStart => exact ⟨0, rfl, by omega, hI⟩
  case round =>
    clear hI
    obtain ⟨k, rfl, hk, hI⟩ := hrel
    by_cases hlt : k < cs.length
    · obtain ⟨c, hc⟩ : ∃ c, cs[k]? = some c := ⟨_, List.getElem?_eq_getElem hlt⟩
      have hcm := List.mem_of_getElem? hc
      have hpl := hps c hcm
      have Hcm := Lib.hid hcm
      clear hcm
      go_wp2
      go_loopw [3] (fun i wr => SpJ N0 M W g cs k c.ps.length i wr) (fun i wr => c.ps.length - (intOf i).toNat)
      case atStart => exact ⟨0, rfl, by omega, hI⟩
      case round =>
        clear hI
        obtain ⟨j, rfl, hj, hI⟩ := hrel
        have q26 := hI.cell hc
        by_cases hjl : j < c.ps.length
        · obtain ⟨gd, W', hda, hst, hI'⟩ := hI.piece Hcm.out hjl
          rw [hda] at q26
          have HI := Lib.hid hI'
          clear hI hI'
          go_wp2
          go_roundw
          case rel => exact ⟨j + 1, by go_num, by omega, HI.out⟩
          case measure => simp [intOf]; omega
        · obtain ⟨W', hst, hI'⟩ := hI.call hg hlt
          have HI := Lib.hid hI'
          clear hI hI'
          go_wp2
          go_roundw
          case rel => exact ⟨k + 1, by go_num, by omega, HI.out⟩
          case measure => simp [intOf]; omega
    · go_wp2
      go_end0
      exact ⟨⟨_, rfl⟩, hI.bl, hI.up⟩
end Go.Proofs.Ytjinnlmmlbmodaa
