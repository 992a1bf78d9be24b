/- Pending of history. -/
import Derived.Test.YtjinnlmmlbmodaaHisC
import Derived.Test.YtjinnlmmlbmodaaKitI
namespace Go.Proofs.Ytjinnlmmlbmodaa
open Go.RowKit Go.Lib
open KitI (iv IRow own_below infoI)
attribute [local go_sem, local simp] callL_0 callL_1 callL_2 callL_3 callL_4 callL_5 callL_6 callL_7 callL_8 callL_9 callL_10 callL_11 callL_12 callL_13 callL_14 callL_15 callL_16 callL_17 callL_18 callL_19 callL_20 callL_21 callL_22 callL_23 callL_24 callL_25 callL_26 resL_0 resL_1 resL_2 resL_3 resL_4 resL_5 resL_6 resL_7 resL_8 resL_9 resL_10 resL_11 resL_12 callG_0 callG_1 callG_2 callG_3 callG_4 callG_5 callG_6 callG_7 callG_8 callG_9 callG_10 callG_11 callG_12 callG_13 callG_14 callG_15 callG_16 callG_17 callG_18 callG_19 callG_20 callG_21 callG_22 callG_23 callG_24 callG_25 callG_26 resG_0 resG_1 resG_2 resG_3 resG_4 resG_5 resG_6 resG_7 resG_8 resG_9 resG_10 resG_11 resG_12 callL_len resL_len
attribute [local go_sem ↓] loadCall_eq loadRes_eq
attribute [local go_sem] ld_new ld_first ld_second ldr_new st_new

/-- The places of the calls of which q holds. -/
def places (q : CallV → Bool) : List CallV → Nat → List Nat
  | [], _ => []
  | c :: cs, k => if q c then k :: places q cs (k + 1) else places q cs (k + 1)
theorem places_len {q : CallV → Bool} : ∀ {cs : List CallV} {k : Nat}, (places q cs k).length ≤ cs.length
  | [], _ => by simp [places]
  | c :: cs, k => by
    unfold places
    have := places_len (q := q) (cs := cs) (k := k + 1)
    split <;> simp <;> omega
theorem places_snoc {q : CallV → Bool} {c : CallV} : ∀ {cs : List CallV} {k : Nat}, places q (cs ++ [c]) k = places q cs k ++ if q c then [k + cs.length] else []
  | [], k => by simp [places]
  | a :: cs, k => by
    have ih := places_snoc (q := q) (c := c) (cs := cs) (k := k + 1)
    rw [List.cons_append]
    unfold places
    rw [ih, show k + 1 + cs.length = k + (a :: cs).length from by simp; omega]
    split <;> simp
theorem places_step {q : CallV → Bool} {cs : List CallV} {k : Nat} {c : CallV} (h : cs[k]? = some c) : places q (cs.take (k + 1)) 0 = places q (cs.take k) 0 ++ if q c then [k] else [] := by
  have hlt := (List.getElem?_eq_some_iff.1 h).1
  rw [List.take_add_one, h, Option.toList_some, places_snoc, List.length_take, Nat.min_eq_left (by omega), Nat.zero_add]
def nv (n : Nat) : Value := .int .i64 (n : Int)
theorem nv_iv (l : List Nat) : l.map nv = (l.map fun (n : Nat) => (n : Int)).map iv := by simp [nv, iv]
theorem cell_one_new1 (W : World) (o : Obj) (v : Value) (T : TypeId) : ∀ (j : Nat) (u : Value), [v][j]? = some u → ((W.alloc o).alloc (.cells #[v] T)).cell? ((⟨W.heap.size + 1, 0, none⟩ : Addr).add j) = some u := by
  have h := cell_one_new (W.alloc o) v T
  rw [World.size_alloc] at h
  exact h
def pendQ (c : CallV) : Bool := decide (c.answered < 0)
def PRel (w : World) (cs : List CallV) (q : CallV → Bool) (o i : Value) (wr : World) : Prop :=
  ∃ k : Nat, i = .int .i64 k ∧ k ≤ cs.length ∧ wr.ownsRow w.heap.size 3 1 o (places q (cs.take k) 0).length ((places q (cs.take k) 0).map nv) ∧ Below w.heap.size w wr

set_option maxRecDepth 100000 in
set_option maxHeartbeats 1000000 in
theorem pending_some (b off cap : Nat) (cs : List CallV) (w : World) (hb : b < w.heap.size) (hC : CAt w b off cs) (hs : cs.length ≤ 1000000) :
    Calls Try.prog 27 #[.slice (some ⟨b, off, none⟩) cs.length cap] w fun e w' => ∃ v, e = .returned v ∧ w'.ownsRow w.heap.size 3 1 v (places pendQ cs 0).length ((places pendQ cs 0).map nv) ∧ Below w.heap.size w w' := by
  obtain ⟨i0, hi, hz0, hz1, hz2⟩ := info_parts infoI
  go_enter Try.func27, Try.ntmps27
  go_wp2
  go_loopw [3, 8] (fun o i wr => PRel w cs pendQ o i wr) (fun o i wr => cs.length - (intOf i).toNat)
  case atStart => exact ⟨0, rfl, by omega, World.ownsRow_nil _ _ _ _, Below.refl _ _⟩
  case round =>
    obtain ⟨k, rfl, hk, hown, hB⟩ := hrel
    by_cases hlt : k < cs.length
    · obtain ⟨c, hc⟩ : ∃ c, cs[k]? = some c := ⟨_, List.getElem?_eq_getElem hlt⟩
      have hld := (hC.below hB hb).load hc
      have hst := places_step (q := pendQ) hc
      have hle := places_len (q := pendQ) (cs := cs.take k) (k := 0)
      rw [List.length_take, Nat.min_eq_left hk] at hle
      generalize places pendQ (cs.take k) 0 = pl at *
      have Hst := Lib.hid hst
      clear hst hc
      have hBa := hB.alloc hB.size (.cells (callL c).toArray 34)
      have hown2 := hown.alloc (.cells (callL c).toArray 34)
      by_cases hq : c.answered < 0
      · have hq' : pendQ c = true := by simpa [pendQ] using hq
        have Hq := Lib.hid hq'
        clear hq'
        go_wp2_with (at_builtin; refine wpList_append_own _ rfl _ _ 40 rfl w.heap.size 3 i0 (.int .i64 0) 1 8 Try.underlying40 hi hz0 hz1 hz2 rfl (by decide) _ _ _ rfl (hown2.alloc _) ⟨_, 0, none⟩ 1 1 [.int .i64 (k : Int)] rfl rfl (cell_one_new1 _ _ _ _) (by simp [Value.oneCell']) (by unfold maxLen; omega) (by omega) (by have := hBa.size; simp at *; omega) ?_; intro v' w3 hown' hgrow _)
        have hB3 := (hBa.alloc hBa.size (.cells #[.int .i64 (k : Int)] 3)).grown hgrow (by have := hBa.size; simp at *; omega) fun k hk => (hown2.lt k hk).1
        go_roundw
        case rel => exact ⟨k + 1, by go_num, by omega, by rw [Hst.out, Hq.out]; simpa [nv] using hown', hB3⟩
        case measure => simp [intOf]; omega
      · have hq' : pendQ c = false := by simpa [pendQ] using hq
        have Hq := Lib.hid hq'
        clear hq'
        go_wp2
        go_roundw
        case rel => exact ⟨k + 1, by go_num, by omega, by rw [Hst.out, Hq.out]; simpa [nv] using hown2, hBa⟩
        case measure => simp [intOf]; omega
    · go_wp2
      go_returns
      have hkk : k = cs.length := by omega
      subst hkk
      rw [List.take_length] at hown
      exact ⟨_, rfl, hown, hB⟩
theorem pending_any (p : Option Addr) (cap : Nat) (cs : List CallV) (w : World) (hC : CRow w p cap cs) (hs : cs.length ≤ 1000000) :
    Calls Try.prog 27 #[.slice p cs.length cap] w fun e w' => ∃ v, e = .returned v ∧ w'.ownsRow w.heap.size 3 1 v (places pendQ cs 0).length ((places pendQ cs 0).map nv) ∧ Below w.heap.size w w' := by
  rcases hC with ⟨rfl, rfl, rfl⟩ | ⟨b, off, rfl, h1, h2, h3⟩
  · go_enter Try.func27, Try.ntmps27
    go_wp2
    refine wp_loop_rounds 1 ?_
    rw [rounds_succ]
    go_wp2
    go_returns
    exact ⟨_, rfl, World.ownsRow_nil _ _ _ _, Below.refl _ _⟩
  · exact pending_some b off cap cs w h2 h3 hs
end Go.Proofs.Ytjinnlmmlbmodaa
