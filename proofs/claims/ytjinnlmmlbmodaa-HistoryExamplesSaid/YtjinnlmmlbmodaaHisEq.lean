/- EqualPieces, EqualItem, EqualResult, EqualCall, EqualCalls of quartokit, where both are equal. -/
import Derived.Test.YtjinnlmmlbmodaaHisW
namespace Go.Proofs.Ytjinnlmmlbmodaa
open Go.RowKit Go.Lib Go.Shelf
open KitI (own_below)
attribute [local go_sem, local simp] callL_0 callL_1 callL_2 callL_3 callL_4 callL_5 callL_6 callL_7 callL_8 callL_9 callL_10 callL_11 callL_12 callL_13 callL_14 callL_15 callL_16 callL_17 callL_18 callL_19 callL_20 callL_21 callL_22 callL_23 callL_24 callL_25 callL_26 resL_0 resL_1 resL_2 resL_3 resL_4 resL_5 resL_6 resL_7 resL_8 resL_9 resL_10 resL_11 resL_12 callG_0 callG_1 callG_2 callG_3 callG_4 callG_5 callG_6 callG_7 callG_8 callG_9 callG_10 callG_11 callG_12 callG_13 callG_14 callG_15 callG_16 callG_17 callG_18 callG_19 callG_20 callG_21 callG_22 callG_23 callG_24 callG_25 callG_26 resG_0 resG_1 resG_2 resG_3 resG_4 resG_5 resG_6 resG_7 resG_8 resG_9 resG_10 resG_11 resG_12 callL_len resL_len
attribute [local go_sem ↓] loadCall_eq loadRes_eq
attribute [local go_sem] ld_new ld_first ld_second ldr_new st_new

def loadPiece (v : Value) : Sem Value := Instr.loadAt 72 v
theorem loadPiece_eq (v : Value) : Instr.loadAt 72 v = loadPiece v := rfl
theorem ld_piece {W : World} {b off : Nat} (p : PieceV) (h : ∀ j u, (pieceL p)[j]? = some u → W.cell? ⟨b, off + j, none⟩ = some u) : (loadPiece (.pointer (some ⟨b, off, none⟩))).run Try.prog W = .ok (.agg #[.int .u8 p.kind, .int .i64 p.n, .string p.text]) W :=
  run_loadAt_mid W b off 72 (pieceL p) _ (fun j v hv => h j v hv) Try.underlying72 rfl (by kernel_rfl)
/-- A row of pieces. -/
def PAt (W : World) (p : Option Addr) (ps : List PieceV) : Prop := ps = [] ∨ ∃ b off, p = some ⟨b, off, none⟩ ∧ ∀ j u, (piecesL ps)[j]? = some u → W.cell? ⟨b, off + j, none⟩ = some u
theorem PAt.on {W W' : World} {p : Option Addr} {ps : List PieceV} (h : PAt W p ps) (hb : Below W.heap.size W W') : PAt W' p ps := by
  rcases h with h | ⟨b, off, h1, h2⟩
  · exact .inl h
  · exact .inr ⟨b, off, h1, fun j u hj => by rw [hb.cell (cell_size (h2 j u hj))]; exact h2 j u hj⟩
theorem DAt.pat {W : World} {c : CallV} (h : DAt W c) : PAt W c.da c.ps := by
  rcases h.2 with ⟨_, h, _⟩ | ⟨b, off, h1, _, h3⟩
  · exact .inl h
  · exact .inr ⟨b, off, h1, h3⟩
theorem PAt.load {W : World} {b off : Nat} {ps : List PieceV} (h : ∀ j u, (piecesL ps)[j]? = some u → W.cell? ⟨b, off + j, none⟩ = some u) {k : Nat} {p : PieceV} (hk : ps[k]? = some p) : (loadPiece (.pointer (some ⟨b, off + k * 3, none⟩))).run Try.prog W = .ok (.agg #[.int .u8 p.kind, .int .i64 p.n, .string p.text]) W :=
  ld_piece p fun j u hj => by
    have hlt := (List.getElem?_eq_some_iff.1 hj).1
    rw [pieceL_len] at hlt
    rw [Nat.add_assoc]
    exact h _ _ (by rw [piecesL_get ps k j p hk hlt]; exact hj)
def EpRel (w : World) (n : Nat) (i : Value) (wr : World) : Prop := ∃ k : Nat, i = .int .i64 k ∧ k ≤ n ∧ Below w.heap.size w wr
attribute [local go_sem ↓] loadPiece_eq
set_option maxRecDepth 100000 in
set_option maxHeartbeats 1000000 in
theorem eqp_same (p1 p2 : Option Addr) (c1 c2 : Nat) (ps : List PieceV) (w : World) (hs : ps.length ≤ 1000000) (h1 : PAt w p1 ps) (h2 : PAt w p2 ps) :
    Calls Try.prog 71 #[.slice p1 ps.length c1, .slice p2 ps.length c2] w fun e w' => e = .returned (.bool true) ∧ Below w.heap.size w w' := by
  go_enter Try.func71, Try.ntmps71
  go_wp2
  go_loopw [5] (fun i wr => EpRel w ps.length i wr) (fun i wr => ps.length - (intOf i).toNat)
  case atStart => exact ⟨0, rfl, by omega, Below.refl _ _⟩
  case round =>
    obtain ⟨k, rfl, hk, hB⟩ := hrel
    by_cases hlt : k < ps.length
    · obtain ⟨p, hp⟩ : ∃ p, ps[k]? = some p := ⟨_, List.getElem?_eq_getElem hlt⟩
      obtain ⟨b1, o1, rfl, g1⟩ : ∃ b off, p1 = some ⟨b, off, none⟩ ∧ ∀ j u, (piecesL ps)[j]? = some u → wr.drew.cell? ⟨b, off + j, none⟩ = some u := by
        rcases h1 with h | ⟨b, off, h, hc⟩
        · rw [h] at hlt; simp at hlt
        · exact ⟨b, off, h, fun j u hj => by rw [hB.drew.cell (cell_size (hc j u hj))]; exact hc j u hj⟩
      obtain ⟨b2, o2, rfl, g2⟩ : ∃ b off, p2 = some ⟨b, off, none⟩ ∧ ∀ j u, (piecesL ps)[j]? = some u → wr.drew.cell? ⟨b, off + j, none⟩ = some u := by
        rcases h2 with h | ⟨b, off, h, hc⟩
        · rw [h] at hlt; simp at hlt
        · exact ⟨b, off, h, fun j u hj => by rw [hB.drew.cell (cell_size (hc j u hj))]; exact hc j u hj⟩
      have q1 := PAt.load g1 hp
      have q2 := PAt.load g2 hp
      have HB := Lib.hid hB.drew
      clear g1 g2 h1 h2 hp hB
      go_wp2
      refine wp_region_noPanic ?_
      refine wp_region_held_drew (S := fun W => (loadPiece (.pointer (some ⟨b1, o1 + k * 3, none⟩))).run Try.prog W = .ok (.agg #[.int .u8 p.kind, .int .i64 p.n, .string p.text]) W ∧ (loadPiece (.pointer (some ⟨b2, o2 + k * 3, none⟩))).run Try.prog W = .ok (.agg #[.int .u8 p.kind, .int .i64 p.n, .string p.text]) W) (by kernel_rfl) ?_ (fun hHeld => ?_)
      · exact ⟨q1, q2⟩
      first | (refine np_skip (i := 0) rfl (by kernel_rfl) (by kernel_rfl) (by kernel_rfl) (by rfl) (by assumption) ?_; (try simp only [Act.put, List.setIfInBounds_toArray, List.set_cons_zero, List.set_cons_succ])) | (refine np_take (i := 0) (v := ?_) rfl (by kernel_rfl) (by kernel_rfl) (by kernel_rfl) (by rfl) ?_ (by assumption) ?_; rotate_left 1; (· (intro w hSw; (try dsimp only at hSw); go_simp; all_goals with_reducible rfl)); (try simp only [Act.put, List.setIfInBounds_toArray, List.set_cons_zero, List.set_cons_succ]))
      first | (refine np_skip (i := 1) rfl (by kernel_rfl) (by kernel_rfl) (by kernel_rfl) (by rfl) (by assumption) ?_; (try simp only [Act.put, List.setIfInBounds_toArray, List.set_cons_zero, List.set_cons_succ])) | (refine np_take (i := 1) (v := ?_) rfl (by kernel_rfl) (by kernel_rfl) (by kernel_rfl) (by rfl) ?_ (by assumption) ?_; rotate_left 1; (· (intro w hSw; (try dsimp only at hSw); go_simp; all_goals with_reducible rfl)); (try simp only [Act.put, List.setIfInBounds_toArray, List.set_cons_zero, List.set_cons_succ]))
      first | (refine np_skip (i := 2) rfl (by kernel_rfl) (by kernel_rfl) (by kernel_rfl) (by rfl) (by assumption) ?_; (try simp only [Act.put, List.setIfInBounds_toArray, List.set_cons_zero, List.set_cons_succ])) | (refine np_take (i := 2) (v := ?_) rfl (by kernel_rfl) (by kernel_rfl) (by kernel_rfl) (by rfl) ?_ (by assumption) ?_; rotate_left 1; (· (intro w hSw; (try dsimp only at hSw); go_simp; all_goals with_reducible rfl)); (try simp only [Act.put, List.setIfInBounds_toArray, List.set_cons_zero, List.set_cons_succ]))
      first | (refine np_skip (i := 3) rfl (by kernel_rfl) (by kernel_rfl) (by kernel_rfl) (by rfl) (by assumption) ?_; (try simp only [Act.put, List.setIfInBounds_toArray, List.set_cons_zero, List.set_cons_succ])) | (refine np_take (i := 3) (v := ?_) rfl (by kernel_rfl) (by kernel_rfl) (by kernel_rfl) (by rfl) ?_ (by assumption) ?_; rotate_left 1; (· (intro w hSw; (try dsimp only at hSw); go_simp; all_goals with_reducible rfl)); (try simp only [Act.put, List.setIfInBounds_toArray, List.set_cons_zero, List.set_cons_succ]))
      first | (refine np_skip (i := 4) rfl (by kernel_rfl) (by kernel_rfl) (by kernel_rfl) (by rfl) (by assumption) ?_; (try simp only [Act.put, List.setIfInBounds_toArray, List.set_cons_zero, List.set_cons_succ])) | (refine np_take (i := 4) (v := ?_) rfl (by kernel_rfl) (by kernel_rfl) (by kernel_rfl) (by rfl) ?_ (by assumption) ?_; rotate_left 1; (· (intro w hSw; (try dsimp only at hSw); go_simp; all_goals with_reducible rfl)); (try simp only [Act.put, List.setIfInBounds_toArray, List.set_cons_zero, List.set_cons_succ]))
      first | (refine np_skip (i := 5) rfl (by kernel_rfl) (by kernel_rfl) (by kernel_rfl) (by rfl) (by assumption) ?_; (try simp only [Act.put, List.setIfInBounds_toArray, List.set_cons_zero, List.set_cons_succ])) | (refine np_take (i := 5) (v := ?_) rfl (by kernel_rfl) (by kernel_rfl) (by kernel_rfl) (by rfl) ?_ (by assumption) ?_; rotate_left 1; (· (intro w hSw; (try dsimp only at hSw); go_simp; all_goals with_reducible rfl)); (try simp only [Act.put, List.setIfInBounds_toArray, List.set_cons_zero, List.set_cons_succ]))
      first | (refine np_skip (i := 6) rfl (by kernel_rfl) (by kernel_rfl) (by kernel_rfl) (by rfl) (by assumption) ?_; (try simp only [Act.put, List.setIfInBounds_toArray, List.set_cons_zero, List.set_cons_succ])) | (refine np_take (i := 6) (v := ?_) rfl (by kernel_rfl) (by kernel_rfl) (by kernel_rfl) (by rfl) ?_ (by assumption) ?_; rotate_left 1; (· (intro w hSw; (try dsimp only at hSw); go_simp; all_goals with_reducible rfl)); (try simp only [Act.put, List.setIfInBounds_toArray, List.set_cons_zero, List.set_cons_succ]))
      first | (refine np_skip (i := 7) rfl (by kernel_rfl) (by kernel_rfl) (by kernel_rfl) (by rfl) (by assumption) ?_; (try simp only [Act.put, List.setIfInBounds_toArray, List.set_cons_zero, List.set_cons_succ])) | (refine np_take (i := 7) (v := ?_) rfl (by kernel_rfl) (by kernel_rfl) (by kernel_rfl) (by rfl) ?_ (by assumption) ?_; rotate_left 1; (· (intro w hSw; (try dsimp only at hSw); go_simp; all_goals with_reducible rfl)); (try simp only [Act.put, List.setIfInBounds_toArray, List.set_cons_zero, List.set_cons_succ]))
      first | (refine np_skip (i := 8) rfl (by kernel_rfl) (by kernel_rfl) (by kernel_rfl) (by rfl) (by assumption) ?_; (try simp only [Act.put, List.setIfInBounds_toArray, List.set_cons_zero, List.set_cons_succ])) | (refine np_take (i := 8) (v := ?_) rfl (by kernel_rfl) (by kernel_rfl) (by kernel_rfl) (by rfl) ?_ (by assumption) ?_; rotate_left 1; (· (intro w hSw; (try dsimp only at hSw); go_simp; all_goals with_reducible rfl)); (try simp only [Act.put, List.setIfInBounds_toArray, List.set_cons_zero, List.set_cons_succ]))
      refine wpAnyH_done (by kernel_rfl) ?_ _
      refine NoPanic.normal ?_
      go_wp2
      go_roundw
      case rel => exact ⟨k + 1, by go_num, by omega, HB.out⟩
      case measure => simp [intOf]; omega
    · go_wp2
      go_returns
      exact ⟨rfl, hB⟩

def itemL (c : CallV) : List Value := [.int .u8 c.ik, .int .i64 c.ifrom, .int .i64 c.ito, .slice c.da c.ps.length c.dc]
set_option maxRecDepth 100000 in
set_option maxHeartbeats 1000000 in
theorem eqitem_same (c d : CallV) (w : World) (h : c.pure = d.pure) (hc : DAt w c) (hd : DAt w d) : Calls Try.prog 64 #[.agg (itemL c).toArray, .agg (itemL d).toArray] w fun e w' => e = .returned (.bool true) ∧ Below w.heap.size w w' := by
  have e1 : c.ik = d.ik := (congrArg CallV.ik h : c.pure.ik = d.pure.ik)
  have e2 : c.ifrom = d.ifrom := (congrArg CallV.ifrom h : c.pure.ifrom = d.pure.ifrom)
  have e3 : c.ito = d.ito := (congrArg CallV.ito h : c.pure.ito = d.pure.ito)
  have e4 : c.ps = d.ps := (congrArg CallV.ps h : c.pure.ps = d.pure.ps)
  have hcp := hc.pat
  have hdp := hd.pat
  have hl := hd.1
  unfold itemL
  rw [e1, e2, e3, e4]
  rw [e4] at hcp
  clear e1 e2 e3 e4 hc hd h
  have cl := fun W hb => eqp_same c.da d.da c.dc d.dc d.ps W hl (hcp.on hb) (hdp.on hb)
  have Cl := Lib.hid cl
  clear cl hcp hdp
  go_enter Try.func64, Try.ntmps64
  go_wp2_with fail
  have hbb := below2 w (.cells #[.int .u8 d.ik, .int .i64 d.ifrom, .int .i64 d.ito, .slice c.da d.ps.length c.dc] 30) (.cells #[.int .u8 d.ik, .int .i64 d.ifrom, .int .i64 d.ito, .slice d.da d.ps.length d.dc] 30)
  refine (Cl.out _ hbb).mono ?_
  rintro e w3 ⟨rfl, hb⟩
  go_wp2
  go_returns
  exact ⟨rfl, hbb.trans (hb.mono (by simp; omega))⟩

def loadItem (v : Value) : Sem Value := Instr.loadAt 30 v
theorem loadItem_eq (v : Value) : Instr.loadAt 30 v = loadItem v := rfl
attribute [local go_sem ↓] loadItem_eq
theorem ld_item {W : World} {b : Nat} (c : CallV) {t : TypeId} (h : W.heap[b]? = some (.cells (resL c).toArray t (0, 0))) : (loadItem (.pointer (some ⟨b, 9, none⟩))).run Try.prog W = .ok (.agg (itemL c).toArray) W :=
  run_loadAt_mid W b 9 30 (itemL c) _ (fun j v hv => by
    rw [blk_cell h]
    have : (itemL c)[j]? = (resL c)[9 + j]? := by
      rw [show itemL c = (resL c).drop 9 from rfl, List.getElem?_drop]
    rw [← this]
    exact hv) Try.underlying30 rfl (by kernel_rfl)
theorem pure_split {c d : CallV} (h : c.pure = d.pure) : ∃ a n, c = { d with da := a, dc := n } := by
  refine ⟨c.da, c.dc, ?_⟩
  cases c; cases d
  simp only [CallV.pure, CallV.mk.injEq] at h
  simp only [CallV.mk.injEq]
  simp [h]
set_option maxRecDepth 100000 in
set_option maxHeartbeats 1000000 in
theorem eqres_same (c d : CallV) (w : World) (h : c.pure = d.pure) (hc : DAt w c) (hd : DAt w d) : Calls Try.prog 52 #[.agg (resL c).toArray, .agg (resL d).toArray] w fun e w' => e = .returned (.bool true) ∧ Below w.heap.size w w' := by
  have hbb := below2 w (.cells (resL c).toArray 32) (.cells (resL d).toArray 32)
  have cl := eqitem_same c d _ h (hc.on hbb) (hd.on hbb)
  have l1 := ld_item c (blk_old (blk_new w (resL c) 32) (.cells (resL d).toArray 32))
  have l2 : (loadItem (.pointer (some ⟨w.heap.size + 1, 9, none⟩))).run Try.prog ((w.alloc (.cells (resL c).toArray 32)).alloc (.cells (resL d).toArray 32)) = .ok (.agg (itemL d).toArray) ((w.alloc (.cells (resL c).toArray 32)).alloc (.cells (resL d).toArray 32)) :=
    ld_item d (by have := blk_new (w.alloc (.cells (resL c).toArray 32)) (resL d) 32; rwa [World.size_alloc] at this)
  obtain ⟨a, n, rfl⟩ := pure_split h
  have Hbb := Lib.hid hbb
  clear hbb hc hd h
  go_enter Try.func52, Try.ntmps52
  go_wp2_with fail
  refine cl.mono ?_
  rintro e w3 ⟨rfl, hb⟩
  go_wp2
  go_returns
  exact ⟨rfl, Hbb.out.trans (hb.mono (by simp; omega))⟩
set_option maxRecDepth 100000 in
set_option maxHeartbeats 1000000 in
theorem eqcall_same (c d : CallV) (w : World) (h : c.pure = d.pure) (hc : DAt w c) (hd : DAt w d) : Calls Try.prog 43 #[.agg (callL c).toArray, .agg (callL d).toArray] w fun e w' => e = .returned (.bool true) ∧ Below w.heap.size w w' := by
  have hbb := below2 w (.cells (callL c).toArray 34) (.cells (callL d).toArray 34)
  have cl := eqres_same c d _ h (hc.on hbb) (hd.on hbb)
  have l1 := ldr_call c (blk_old (blk_new w (callL c) 34) (.cells (callL d).toArray 34))
  have l2 : (loadRes (.pointer (some ⟨w.heap.size + 1, 14, none⟩))).run Try.prog ((w.alloc (.cells (callL c).toArray 34)).alloc (.cells (callL d).toArray 34)) = .ok (.agg (resL d).toArray) ((w.alloc (.cells (callL c).toArray 34)).alloc (.cells (callL d).toArray 34)) :=
    ldr_call d (by have := blk_new (w.alloc (.cells (callL c).toArray 34)) (callL d) 34; rwa [World.size_alloc] at this)
  obtain ⟨a, n, rfl⟩ := pure_split h
  have Hbb := Lib.hid hbb
  clear hbb hc hd h
  go_enter Try.func43, Try.ntmps43
  go_wp2_with fail
  refine cl.mono ?_
  rintro e w3 ⟨rfl, hb⟩
  go_wp2
  go_returns
  exact ⟨rfl, Hbb.out.trans (hb.mono (by simp; omega))⟩
set_option maxRecDepth 100000 in
set_option maxHeartbeats 1000000 in
/-- **EqualCalls: two rows that say the same are equal.** -/
theorem eqcalls_same (p1 p2 : Option Addr) (c1 c2 : Nat) (l1 l2 : List CallV) (w : World) (h : l1.map CallV.pure = l2.map CallV.pure) (hs : l1.length ≤ 1000000) (h1 : CRow w p1 c1 l1) (h2 : CRow w p2 c2 l2) (hd1 : ∀ c ∈ l1, DAt w c) (hd2 : ∀ c ∈ l2, DAt w c) :
    Calls Try.prog 24 #[.slice p1 l1.length c1, .slice p2 l2.length c2] w fun e w' => e = .returned (.bool true) ∧ Below w.heap.size w w' := by
  have hl : l2.length = l1.length := by have := congrArg List.length h; simpa using this.symm
  rw [hl]
  go_enter Try.func24, Try.ntmps24
  go_wp2
  go_loopw [5] (fun i wr => EpRel w l1.length i wr) (fun i wr => l1.length - (intOf i).toNat)
  case atStart => exact ⟨0, rfl, by omega, Below.refl _ _⟩
  case round =>
    obtain ⟨k, rfl, hk, hB⟩ := hrel
    by_cases hlt : k < l1.length
    · obtain ⟨c, hc⟩ : ∃ c, l1[k]? = some c := ⟨_, List.getElem?_eq_getElem hlt⟩
      obtain ⟨d, hd⟩ : ∃ d, l2[k]? = some d := ⟨_, List.getElem?_eq_getElem (by omega)⟩
      have hcd : c.pure = d.pure := by
        have e1 : (l1.map CallV.pure)[k]? = some c.pure := by rw [List.getElem?_map, hc]; rfl
        rw [h, List.getElem?_map, hd] at e1
        simpa using e1.symm
      obtain ⟨b1, o1, rfl, _, _, g1⟩ : ∃ b off, p1 = some ⟨b, off, none⟩ ∧ l1.length ≤ c1 ∧ b < w.heap.size ∧ CAt w b off l1 := by
        rcases h1 with ⟨_, _, h⟩ | h
        · rw [h] at hlt; simp at hlt
        · exact h
      obtain ⟨b2, o2, rfl, _, _, g2⟩ : ∃ b off, p2 = some ⟨b, off, none⟩ ∧ l2.length ≤ c2 ∧ b < w.heap.size ∧ CAt w b off l2 := by
        rcases h2 with ⟨_, _, h⟩ | h
        · rw [h] at hd; simp at hd
        · exact h
      have kx : ∀ W, Below w.heap.size w W → ((loadCall (.pointer (some ⟨b1, o1 + k * 27, none⟩))).run Try.prog W = .ok (.agg (callL c).toArray) W ∧ (loadCall (.pointer (some ⟨b2, o2 + k * 27, none⟩))).run Try.prog W = .ok (.agg (callL d).toArray) W) ∧ Below w.heap.size w W := fun W hb => ⟨⟨(g1.on hb).load hc, (g2.on hb).load hd⟩, hb⟩
      have Kx := Lib.hid kx
      have eqc := fun W (hb : Below w.heap.size w W) => eqcall_same c d W hcd ((hd1 c (List.mem_of_getElem? hc)).on hb) ((hd2 d (List.mem_of_getElem? hd)).on hb)
      have Eqc := Lib.hid eqc
      have hx0 := hB.drew
      clear kx eqc g1 g2 h1 h2 hc hd hcd hB
      go_wp2
      refine wp_region_noPanic ?_
      refine wp_region_held_drew (S := fun W => ((loadCall (.pointer (some ⟨b1, o1 + k * 27, none⟩))).run Try.prog W = .ok (.agg (callL c).toArray) W ∧ (loadCall (.pointer (some ⟨b2, o2 + k * 27, none⟩))).run Try.prog W = .ok (.agg (callL d).toArray) W) ∧ Below w.heap.size w W) (by kernel_rfl) ?_ (fun hHeld => ?_)
      · first | exact Kx.out _ hx1 | exact Kx.out _ hx0
      first | (refine np_skip (i := 0) rfl (by kernel_rfl) (by kernel_rfl) (by kernel_rfl) (by rfl) (by assumption) ?_; (try simp only [Act.put, List.setIfInBounds_toArray, List.set_cons_zero, List.set_cons_succ])) | (refine np_take (i := 0) (v := ?_) rfl (by kernel_rfl) (by kernel_rfl) (by kernel_rfl) (by rfl) ?_ (by assumption) ?_; rotate_left 1; (· (intro w hSw; (try dsimp only at hSw); go_simp; all_goals with_reducible rfl)); (try simp only [Act.put, List.setIfInBounds_toArray, List.set_cons_zero, List.set_cons_succ]))
      first | (refine np_skip (i := 1) rfl (by kernel_rfl) (by kernel_rfl) (by kernel_rfl) (by rfl) (by assumption) ?_; (try simp only [Act.put, List.setIfInBounds_toArray, List.set_cons_zero, List.set_cons_succ])) | (refine np_take (i := 1) (v := ?_) rfl (by kernel_rfl) (by kernel_rfl) (by kernel_rfl) (by rfl) ?_ (by assumption) ?_; rotate_left 1; (· (intro w hSw; (try dsimp only at hSw); go_simp; all_goals with_reducible rfl)); (try simp only [Act.put, List.setIfInBounds_toArray, List.set_cons_zero, List.set_cons_succ]))
      first | (refine np_skip (i := 2) rfl (by kernel_rfl) (by kernel_rfl) (by kernel_rfl) (by rfl) (by assumption) ?_; (try simp only [Act.put, List.setIfInBounds_toArray, List.set_cons_zero, List.set_cons_succ])) | (refine np_take (i := 2) (v := ?_) rfl (by kernel_rfl) (by kernel_rfl) (by kernel_rfl) (by rfl) ?_ (by assumption) ?_; rotate_left 1; (· (intro w hSw; (try dsimp only at hSw); go_simp; all_goals with_reducible rfl)); (try simp only [Act.put, List.setIfInBounds_toArray, List.set_cons_zero, List.set_cons_succ]))
      first | (refine np_skip (i := 3) rfl (by kernel_rfl) (by kernel_rfl) (by kernel_rfl) (by rfl) (by assumption) ?_; (try simp only [Act.put, List.setIfInBounds_toArray, List.set_cons_zero, List.set_cons_succ])) | (refine np_take (i := 3) (v := ?_) rfl (by kernel_rfl) (by kernel_rfl) (by kernel_rfl) (by rfl) ?_ (by assumption) ?_; rotate_left 1; (· (intro w hSw; (try dsimp only at hSw); go_simp; all_goals with_reducible rfl)); (try simp only [Act.put, List.setIfInBounds_toArray, List.set_cons_zero, List.set_cons_succ]))
      first | (refine np_skip (i := 4) rfl (by kernel_rfl) (by kernel_rfl) (by kernel_rfl) (by rfl) (by assumption) ?_; (try simp only [Act.put, List.setIfInBounds_toArray, List.set_cons_zero, List.set_cons_succ])) | (refine np_take (i := 4) (v := ?_) rfl (by kernel_rfl) (by kernel_rfl) (by kernel_rfl) (by rfl) ?_ (by assumption) ?_; rotate_left 1; (· (intro w hSw; (try dsimp only at hSw); go_simp; all_goals with_reducible rfl)); (try simp only [Act.put, List.setIfInBounds_toArray, List.set_cons_zero, List.set_cons_succ]))
      first | (refine np_skip (i := 5) rfl (by kernel_rfl) (by kernel_rfl) (by kernel_rfl) (by rfl) (by assumption) ?_; (try simp only [Act.put, List.setIfInBounds_toArray, List.set_cons_zero, List.set_cons_succ])) | (refine np_take (i := 5) (v := ?_) rfl (by kernel_rfl) (by kernel_rfl) (by kernel_rfl) (by rfl) ?_ (by assumption) ?_; rotate_left 1; (· (intro w hSw; (try dsimp only at hSw); go_simp; all_goals with_reducible rfl)); (try simp only [Act.put, List.setIfInBounds_toArray, List.set_cons_zero, List.set_cons_succ]))
      first | (refine np_skip (i := 6) rfl (by kernel_rfl) (by kernel_rfl) (by kernel_rfl) (by rfl) (by assumption) ?_; (try simp only [Act.put, List.setIfInBounds_toArray, List.set_cons_zero, List.set_cons_succ])) | (refine np_take (i := 6) (v := ?_) rfl (by kernel_rfl) (by kernel_rfl) (by kernel_rfl) (by rfl) ?_ (by assumption) ?_; rotate_left 1; (· (intro w hSw; (try dsimp only at hSw); go_simp; all_goals with_reducible rfl)); (try simp only [Act.put, List.setIfInBounds_toArray, List.set_cons_zero, List.set_cons_succ]))
      first | (refine np_skip (i := 7) rfl (by kernel_rfl) (by kernel_rfl) (by kernel_rfl) (by rfl) (by assumption) ?_; (try simp only [Act.put, List.setIfInBounds_toArray, List.set_cons_zero, List.set_cons_succ])) | (refine np_take (i := 7) (v := ?_) rfl (by kernel_rfl) (by kernel_rfl) (by kernel_rfl) (by rfl) ?_ (by assumption) ?_; rotate_left 1; (· (intro w hSw; (try dsimp only at hSw); go_simp; all_goals with_reducible rfl)); (try simp only [Act.put, List.setIfInBounds_toArray, List.set_cons_zero, List.set_cons_succ]))
      first | (refine np_skip (i := 8) rfl (by kernel_rfl) (by kernel_rfl) (by kernel_rfl) (by rfl) (by assumption) ?_; (try simp only [Act.put, List.setIfInBounds_toArray, List.set_cons_zero, List.set_cons_succ])) | (refine np_step (i := 8) rfl (by kernel_rfl) (fun K hK => ?_); rw [if_pos (by rfl)]; go_simp; ((go_at_call 43; refine (Eqc.out _ hHeld.2).mono ?_; rintro e w9 ⟨rfl, hbc⟩; have hx1 := hHeld.2.trans (hbc.mono hHeld.2.size))); (try go_wp2_with fail); refine hK.out _ _ ?_ (fun hHeld => ?_); (· (first | exact Kx.out _ hx1 | exact Kx.out _ hx0)); clear hK K; (try simp only [Act.put, List.setIfInBounds_toArray, List.set_cons_zero, List.set_cons_succ]))
      first | (refine np_skip (i := 9) rfl (by kernel_rfl) (by kernel_rfl) (by kernel_rfl) (by rfl) (by assumption) ?_; (try simp only [Act.put, List.setIfInBounds_toArray, List.set_cons_zero, List.set_cons_succ])) | (refine np_take (i := 9) (v := ?_) rfl (by kernel_rfl) (by kernel_rfl) (by kernel_rfl) (by rfl) ?_ (by assumption) ?_; rotate_left 1; (· (intro w hSw; (try dsimp only at hSw); go_simp; all_goals with_reducible rfl)); (try simp only [Act.put, List.setIfInBounds_toArray, List.set_cons_zero, List.set_cons_succ]))
      refine wpAnyH_done (by kernel_rfl) ?_ _
      refine NoPanic.normal ?_
      have HB := Lib.hid hHeld.2
      go_wp2
      go_roundw
      case rel => exact ⟨k + 1, by go_num, by omega, HB.out⟩
      case measure => simp [intOf]; omega
    · go_wp2
      go_returns
      exact ⟨rfl, hB⟩
end Go.Proofs.Ytjinnlmmlbmodaa
