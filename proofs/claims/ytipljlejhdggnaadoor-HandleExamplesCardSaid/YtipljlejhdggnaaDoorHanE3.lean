/- HandleExamples. -/
import Derived.Test.YtipljlejhdggnaaDoorHanE2
import Derived.OpenShut
namespace Go.Proofs.YtipljlejhdggnaaDoor
open Go.RowKit Go.Lib

def slotsL : List Int := [-9223372036854775808, -1, 0, 1, 2, 16382, 16383, 16384, 65535, 65536, 9223372036854775807]
def gensL : List Int := [0, 1, 2, 3, 4294967294, 4294967295, 4294967296, 281474976710655, 281474976710656, 18446744073709551615]
def ERow (w : World) (b : Nat) (k : IntKind) (zs : List Int) : Prop := ∀ j x, zs[j]? = some x → w.cell? ⟨b, j, none⟩ = some (.int k x)
theorem ERow.on {w w' : World} {b : Nat} {k : IntKind} {zs : List Int} (h : ERow w b k zs) (hb : Below w.heap.size w w') : ERow w' b k zs := fun j x hj => by
  rw [hb.cell (cell_size (h j x hj))]; exact h j x hj
theorem ERow.new (w : World) (T : TypeId) (k : IntKind) (zs : List Int) (cs : Array Value) (hc : cs = (zs.map (Value.int k)).toArray) : ERow (w.alloc (.cells cs T)) w.heap.size k zs := fun j x hj => by
  subst hc
  rw [World.cell?_alloc_new]
  simp [hj]

theorem slots_wf : ∀ x ∈ slotsL, (Lit.int .i64 x).wf = true := by decide +kernel
theorem gens_wf : ∀ x ∈ gensL, (Lit.int .u64 x).wf = true := by decide +kernel
theorem get_mem {zs : List Int} {j : Nat} {x : Int} (h : zs[j]? = some x) : x ∈ zs := by
  exact List.mem_of_getElem? h

/-- What holds of the world from the first round on. -/
structure Inv (w W : World) : Prop where
  r1 : ERow W w.heap.size .i64 slotsL
  r2 : ERow W (w.heap.size + 1) .u64 gensL
  bl : Below w.heap.size w W
theorem Inv.on {w W W' : World} (h : Inv w W) (hb : Below W.heap.size W W') : Inv w W' := ⟨h.r1.on hb, h.r2.on hb, h.bl.trans (hb.mono h.bl.size)⟩
theorem Inv.drewN {w W : World} (h : Inv w W) (n : Nat) : Inv w (W.drewN n) := h.on (below_drewN' _ _)
theorem Inv.drew {w W : World} (h : Inv w W) : Inv w W.drew := h.on (Below.refl _ _).drew
theorem mt (w : World) (ht : Tab w) (x y z : Int) (hx : (Lit.int .i64 x).wf = true) (hy : (Lit.int .u64 y).wf = true) (hz : (Lit.int .u64 z).wf = true) (W : World) (hI : Inv w W) :
    Calls Tryd.prog 4 #[.int .i64 x, .int .u64 y, .int .u64 z] W fun e w' => e = .returned (.bool true) ∧ Inv w w' :=
  (walkHandleMatches x y z hx hy hz W (ht.on hI.bl)).mono fun _ _ ⟨he, hb⟩ => ⟨he, hI.on hb⟩

def textsL : List (List UInt8) := [[], [46], [48], [48, 46], [46, 49], [48, 46, 48], [48, 46, 49], [48, 48, 46, 49], [48, 46, 48, 49], [43, 48, 46, 49], [45, 48, 46, 49], [48, 46, 49, 46], [48, 46, 49, 46, 49], [49, 46, 49, 32], [32, 49, 46, 49], [49, 54, 51, 56, 51, 46, 49], [49, 54, 51, 56, 52, 46, 49], [49, 54, 51, 56, 51, 46, 52, 50, 57, 52, 57, 54, 55, 50, 57, 53], [49, 54, 51, 56, 51, 46, 52, 50, 57, 52, 57, 54, 55, 50, 57, 54], [49, 46, 49, 56, 52, 52, 54, 55, 52, 52, 48, 55, 51, 55, 48, 57, 53, 53, 49, 54, 49, 53], [49, 46, 49, 56, 52, 52, 54, 55, 52, 52, 48, 55, 51, 55, 48, 57, 53, 53, 49, 54, 49, 54], [49, 46, 49, 56, 52, 52, 54, 55, 52, 52, 48, 55, 51, 55, 48, 57, 53, 53, 49, 54, 49, 55], [49, 46, 57, 57, 57, 57, 57, 57, 57, 57, 57, 57, 57, 57, 57, 57, 57, 57, 57, 57, 57, 57], [49, 46, 49, 48, 48, 48, 48, 48, 48, 48, 48, 48, 48, 48, 48, 48, 48, 48, 48, 48, 48, 48, 48], [57, 57, 57, 57, 57, 57, 57, 57, 57, 57, 57, 57, 57, 57, 57, 57, 57, 57, 57, 57, 46, 49], [49, 56, 52, 52, 54, 55, 52, 52, 48, 55, 51, 55, 48, 57, 53, 53, 49, 54, 49, 55, 46, 49], [49, 48, 48, 48, 48, 48, 48, 48, 48, 48, 48, 48, 48, 48, 48, 48, 48, 48, 48, 48, 48, 46, 49], [49, 44, 49], [97, 46, 49], [49, 46, 49, 10]]
def strV (l : List UInt8) : Value := .string ⟨l.toArray⟩
theorem texts_short : ∀ l ∈ textsL, l.length ≤ 100 := by decide +kernel
def TRow (w : World) (b : Nat) (zs : List (List UInt8)) : Prop := ∀ j x, zs[j]? = some x → w.cell? ⟨b, j, none⟩ = some (strV x)
theorem TRow.on {w w' : World} {b : Nat} {zs : List (List UInt8)} (h : TRow w b zs) (hb : Below w.heap.size w w') : TRow w' b zs := fun j x hj => by
  rw [hb.cell (cell_size (h j x hj))]; exact h j x hj
theorem TRow.new (w : World) (T : TypeId) (zs : List (List UInt8)) (cs : Array Value) (hc : cs = (zs.map strV).toArray) : TRow (w.alloc (.cells cs T)) w.heap.size zs := fun j x hj => by
  subst hc
  rw [World.cell?_alloc_new]
  simp [hj]
def TxtR (w : World) (b : Nat) (i : Value) (wr : World) : Prop := ∃ k : Nat, i = .int .i64 k ∧ k ≤ 30 ∧ TRow wr b textsL ∧ Below w.heap.size w wr
theorem parses_any (l : List UInt8) (hl : l.length ≤ 100) (w : World) (ht : Tab w) : Calls Tryd.prog 3 #[strV l] w fun e w' => e = .returned (.bool true) ∧ Below w.heap.size w w' :=
  walkHandleParses ⟨l.toArray⟩ (by unfold maxLen; simp [ByteArray.size]; omega) (by simp [ByteArray.size]; omega) w ht
def eight : List UInt64 := [0, 65536, 1, 65536, 0, 18446744073709551615, 131072, 65537]
theorem sorts_eight (cs : Array Value) (T : TypeId) (hc : cs = (eight.map hv).toArray) (W : World) (ht : Tab W) :
    Calls Tryd.prog 24 #[.slice (some ⟨W.heap.size, 0, none⟩) 8 8] (W.alloc (.cells cs T)) fun e w' => e = .returned (.bool true) ∧ Below W.heap.size W w' := by
  subst hc
  have hb := (Below.refl W.heap.size W).alloc (Nat.le_refl _) (.cells (eight.map hv).toArray T)
  have h := sorts_some W.heap.size 0 8 eight (W.alloc (.cells (eight.map hv).toArray T)) (ht.on hb) (by decide) (by decide) (by decide) sv2 (by decide +kernel) (lits eight)
  exact h.mono fun _ _ ⟨he, hB⟩ => ⟨he, hb.trans (hB.mono hb.size)⟩

def OutR (w : World) (i : Value) (wr : World) : Prop := ∃ k : Nat, i = .int .i64 k ∧ k ≤ 11 ∧ Inv w wr
def InR (w : World) (i : Value) (wr : World) : Prop := ∃ k : Nat, i = .int .i64 k ∧ k ≤ 10 ∧ Inv w wr

set_option maxRecDepth 100000 in
set_option maxHeartbeats 2000000 in
theorem walkHandleExamples (w : World) (ht : Tab w) : Calls Tryd.prog 5 #[] w fun e w' => e = .returned (.bool true) ∧ Below w.heap.size w w' := by
  have r1 := ERow.new w 3 .i64 slotsL (slotsL.map (Value.int .i64)).toArray rfl
  have r2 := ERow.new (w.alloc (.cells (slotsL.map (Value.int .i64)).toArray 3)) 22 .u64 gensL (gensL.map (Value.int .u64)).toArray rfl
  have r1' := r1.on ((Below.refl _ _).alloc (Nat.le_refl _) (.cells (gensL.map (Value.int .u64)).toArray 22))
  rw [World.size_alloc] at r2
  have hb : Below w.heap.size w ((w.alloc (.cells (slotsL.map (Value.int .i64)).toArray 3)).alloc (.cells (gensL.map (Value.int .u64)).toArray 22)) := ((Below.refl _ _).alloc (Nat.le_refl _) _).alloc (by simp) _
  have hI0 : Inv w ((w.alloc (.cells (slotsL.map (Value.int .i64)).toArray 3)).alloc (.cells (gensL.map (Value.int .u64)).toArray 22)) := ⟨r1', r2, hb⟩
  clear r1 r1' r2 hb
  have mt := mt w ht
  go_enter Tryd.func5, Tryd.ntmps5
  go_wp2
  go_loopw [3] (fun i wr => OutR w i wr) (fun i wr => 11 - (intOf i).toNat)
  case atStart => exact ⟨0, rfl, by omega, hI0⟩
  case round =>
    clear hI0
    obtain ⟨i, rfl, hi, hI⟩ := hrel
    by_cases hlt : i < 11
    · obtain ⟨wo, rfl⟩ : ∃ wo : World, wo = wr := ⟨_, rfl⟩
      have hd : decide ((i : Int) < 11) = true := by simp; omega
      go_wp2
      clear hd
      go_loopw [4] (fun i wr => InR w i wr) (fun i wr => 10 - (intOf i).toNat)
      case atStart => exact ⟨0, rfl, by omega, hI⟩
      case round =>
        clear hI
        obtain ⟨j, rfl, hj, hI⟩ := hrel
        by_cases hlt2 : j < 10
        · obtain ⟨x, hx⟩ : ∃ x, slotsL[i]? = some x := ⟨_, List.getElem?_eq_getElem (by exact hlt)⟩
          obtain ⟨y, hy⟩ : ∃ y, gensL[j]? = some y := ⟨_, List.getElem?_eq_getElem (by exact hlt2)⟩
          have wx := slots_wf x (get_mem hx)
          have wy := gens_wf y (get_mem hy)
          have kx : ∀ W, Inv w W → W.cell? ⟨w.heap.size, i, none⟩ = some (.int .i64 x) ∧ W.cell? ⟨w.heap.size + 1, j, none⟩ = some (.int .u64 y) ∧ Inv w W := fun W h => ⟨h.r1 i x hx, h.r2 j y hy, h⟩
          obtain ⟨hcx, hcy, _⟩ := kx _ hI
          have Kx := Lib.hid kx
          have Wx := Lib.hid wx
          have Wy := Lib.hid wy
          have i0 : (0 : Int) ≤ (i : Int) := by omega
          have i1 : (i : Int) < 11 := by omega
          have j0 : (0 : Int) ≤ (j : Int) := by omega
          have j1 : (j : Int) < 10 := by omega
          clear hx hy wx wy kx
          go_wp2
          go_region_held3 (fun W => W.cell? ⟨w.heap.size, i, none⟩ = some (.int .i64 x) ∧ W.cell? ⟨w.heap.size + 1, j, none⟩ = some (.int .u64 y) ∧ Inv w W)
            (first | exact Kx.out _ hI | exact Kx.out _ (Inv.drew hI) | exact Kx.out _ (by assumption) | exact Kx.out _ (Inv.drew (by assumption)) | exact Kx.out _ (Inv.drewN (by assumption) _) | go_keep)
            ((go_at_call 4; refine (mt _ _ _ (by exact Wx.out) (by exact Wy.out) (by first | exact Wy.out | exact wf_wrap _ _) _ (by first | assumption | (go_split_ands; assumption))).mono ?_; rintro e w1 ⟨rfl, hI⟩))
          go_wp2
          go_roundw
          case rel => exact ⟨j + 1, by go_num, by omega, by first | assumption | (go_split_ands; assumption)⟩
          case measure => simp [intOf]; omega
        · go_wp2
          go_roundw
          case rel => exact ⟨i + 1, by go_num, by omega, hI⟩
          case measure => simp [intOf]; omega
    · clear mt
      obtain ⟨wo, rfl⟩ : ∃ wo : World, wo = wr := ⟨_, rfl⟩
      have hB := hI.bl
      have r1 := TRow.new wo 9 textsL (textsL.map strV).toArray rfl
      have hb1 := hB.alloc hB.size (.cells (textsL.map strV).toArray 9)
      clear hI
      go_wp2
      go_loopw [6] (fun i wr => TxtR w wo.heap.size i wr) (fun i wr => 30 - (intOf i).toNat)
      case atStart => exact ⟨0, rfl, by omega, r1, hb1⟩
      case round =>
        clear r1 hb1 hB
        obtain ⟨k, rfl, hk, r1, hB⟩ := hrel
        by_cases hlt2 : k < 30
        · obtain ⟨x, hx⟩ : ∃ x, textsL[k]? = some x := ⟨_, List.getElem?_eq_getElem (by exact hlt2)⟩
          have cx := r1 k x hx
          have wx := texts_short x (List.mem_of_getElem? hx)
          have cp := parses_any x wx wr (ht.on hB)
          clear hx wx
          generalize strV x = sx at *
          go_wp2_with fail
          refine cp.mono ?_
          rintro e w1 ⟨rfl, hB1⟩
          go_wp2
          go_roundw
          case rel => exact ⟨k + 1, by go_num, by omega, r1.on hB1, hB.trans (hB1.mono hB.size)⟩
          case measure => simp [intOf]; omega
        · clear r1
          go_wp2_with fail
          refine (sorts_nil _ (ht.on hB)).mono ?_
          rintro e w1 ⟨rfl, hB1⟩
          have hC1 := hB.trans (hB1.mono hB.size)
          go_wp2_with fail
          refine (sorts_eight #[.int .u64 0, .int .u64 65536, .int .u64 1, .int .u64 65536, .int .u64 0, .int .u64 18446744073709551615, .int .u64 131072, .int .u64 65537] 23 (by kernel_rfl) w1 (ht.on hC1)).mono ?_
          rintro e w2 ⟨rfl, hB2⟩
          have hC2 := hC1.trans (hB2.mono hC1.size)
          go_wp2_with fail
          refine (awake_any _ (ht.on hC2)).mono ?_
          rintro e w9 ⟨rfl, hB9⟩
          go_wp2_with fail
          go_returns
          exact ⟨rfl, hC2.trans (hB9.mono hC2.size)⟩
end Go.Proofs.YtipljlejhdggnaaDoor
