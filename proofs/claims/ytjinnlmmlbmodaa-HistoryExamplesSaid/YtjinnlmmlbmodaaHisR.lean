/- CopyPieces of quartokit. -/
import Derived.Test.YtjinnlmmlbmodaaHisN
namespace Go.Proofs.Ytjinnlmmlbmodaa
open Go.RowKit Go.Lib Go.Shelf
open KitI (own_below)

theorem piecesL_take (ps : List PieceV) (k : Nat) (p : PieceV) (h : ps[k]? = some p) : piecesL (ps.take (k + 1)) = piecesL (ps.take k) ++ pieceL p := by
  rw [List.take_add_one, h]
  unfold piecesL
  simp
theorem piecesL_get (ps : List PieceV) (k j : Nat) (p : PieceV) (h : ps[k]? = some p) (hj : j < 3) : (piecesL ps)[k * 3 + j]? = (pieceL p)[j]? := by
  have e : ps = ps.take k ++ (p :: ps.drop (k + 1)) := by
    have hlt := (List.getElem?_eq_some_iff.1 h).1
    have h2 := (List.getElem?_eq_some_iff.1 h).2
    rw [← h2, ← List.drop_eq_getElem_cons hlt, List.take_append_drop]
  have hlt := (List.getElem?_eq_some_iff.1 h).1
  have e2 : piecesL ps = piecesL (ps.take k) ++ (pieceL p ++ piecesL (ps.drop (k + 1))) := by
    conv => lhs; rw [e]
    unfold piecesL
    simp
  rw [e2, List.getElem?_append_right (by rw [piecesL_len, List.length_take]; omega), piecesL_len, List.length_take, Nat.min_eq_left (by omega), Nat.add_sub_cancel_left, List.getElem?_append_left (by rw [pieceL_len]; omega)]
theorem pieceL_ones (p : PieceV) : ∀ u ∈ pieceL p, u.oneCell' = true := by
  intro u hu
  unfold pieceL at hu
  simp only [List.mem_cons, List.not_mem_nil, or_false] at hu
  rcases hu with rfl | rfl | rfl <;> rfl
theorem pieces_new (W : World) (L : List Value) (T : TypeId) : ∀ (j : Nat) (u : Value), L[j]? = some u → (W.alloc (.cells L.toArray T)).cell? ((⟨W.heap.size, 0, none⟩ : Addr).add j) = some u := by
  intro j u h
  have h2 := blk_cell (blk_new W L T) j
  rw [Addr.add_mid, Nat.zero_add, h2, h]
def CpRel (w : World) (ps : List PieceV) (o i : Value) (wr : World) : Prop :=
  ∃ k : Nat, i = .int .i64 k ∧ k ≤ ps.length ∧ wr.ownsRow w.heap.size 72 3 o k (piecesL (ps.take k)) ∧ Below w.heap.size w wr
set_option maxRecDepth 100000 in
set_option maxHeartbeats 400000 in
theorem copyp_some (b off cap : Nat) (ps : List PieceV) (w : World) (hb : b < w.heap.size) (hs : ps.length ≤ 1000000) (h : ∀ j u, (piecesL ps)[j]? = some u → w.cell? ⟨b, off + j, none⟩ = some u) :
    Calls Try.prog 46 #[.slice (some ⟨b, off, none⟩) ps.length cap] w fun e w' => ∃ v, e = .returned v ∧ w'.ownsRow w.heap.size 72 3 v ps.length (piecesL ps) ∧ Below w.heap.size w w' := by
  obtain ⟨i0, hi, hz0, hz1, hz2⟩ := info_parts infoP
  have H := Lib.hid h
  clear h
  go_enter Try.func46, Try.ntmps46
  go_wp2
  go_loopw [3, 4] (fun o i wr => CpRel w ps o i wr) (fun o i wr => ps.length - (intOf i).toNat)
  case atStart => exact ⟨0, rfl, by omega, World.ownsRow_nil _ _ _ _, Below.refl _ _⟩
  case round =>
    obtain ⟨k, rfl, hk, hown, hB⟩ := hrel
    by_cases hlt : k < ps.length
    · obtain ⟨p, hp⟩ : ∃ p, ps[k]? = some p := ⟨_, List.getElem?_eq_getElem hlt⟩
      have ce : ∀ j u, j < 3 → (pieceL p)[j]? = some u → wr.cell? ⟨b, off + k * 3 + j, none⟩ = some u := fun j u hj hu => by
        rw [hB.cell (p := ⟨b, off + k * 3 + j, none⟩) hb, Nat.add_assoc]
        exact H.out (k * 3 + j) u (by rw [piecesL_get ps k j p hp hj]; exact hu)
      have d0 : wr.cell? ⟨b, off + k * 3, none⟩ = some (.int .u8 p.kind) := ce 0 _ (by omega) rfl
      have d1 := ce 1 _ (by omega) rfl
      have d2 := ce 2 _ (by omega) rfl
      have hst := piecesL_take ps k p hp
      have Hst := Lib.hid hst
      clear ce hst hp
      go_wp2_with (at_builtin; refine wpList_append_own _ rfl _ _ 28 rfl w.heap.size 72 i0 _ 3 32 Try.underlying28 hi hz0 hz1 hz2 rfl (by decide) _ _ _ rfl (hown.alloc _) ⟨_, 0, none⟩ 1 1 (pieceL p) rfl rfl (pieces_new _ _ _) (pieceL_ones p) (by unfold maxLen; omega) (by omega) (by have := hB.size; simp; omega) ?_; intro v' w3 hown' hgrow _)
      have hB3 := (hB.alloc hB.size (.cells (pieceL p).toArray 72)).grown hgrow (by have := hB.size; simp at *; omega) fun k hk => (hown.lt k hk).1
      go_roundw
      case rel => exact ⟨k + 1, by go_num, by omega, by rw [Hst.out]; exact hown', hB3⟩
      case measure => simp [intOf]; omega
    · go_wp2
      go_returns
      have hkk : k = ps.length := by omega
      subst hkk
      rw [List.take_length] at hown
      exact ⟨_, rfl, hown, hB⟩
end Go.Proofs.Ytjinnlmmlbmodaa
