/- example and awake of the history laws. -/
import Derived.Test.YtjinnlmmlbmodaaHisK
namespace Go.Proofs.Ytjinnlmmlbmodaa
open Go.RowKit Go.Lib Go.Shelf
open KitI (iv IRow own_below infoI)
attribute [local go_sem, local simp] callL_0 callL_1 callL_2 callL_3 callL_4 callL_5 callL_6 callL_7 callL_8 callL_9 callL_10 callL_11 callL_12 callL_13 callL_14 callL_15 callL_16 callL_17 callL_18 callL_19 callL_20 callL_21 callL_22 callL_23 callL_24 callL_25 callL_26 resL_0 resL_1 resL_2 resL_3 resL_4 resL_5 resL_6 resL_7 resL_8 resL_9 resL_10 resL_11 resL_12 callG_0 callG_1 callG_2 callG_3 callG_4 callG_5 callG_6 callG_7 callG_8 callG_9 callG_10 callG_11 callG_12 callG_13 callG_14 callG_15 callG_16 callG_17 callG_18 callG_19 callG_20 callG_21 callG_22 callG_23 callG_24 callG_25 callG_26 resG_0 resG_1 resG_2 resG_3 resG_4 resG_5 resG_6 resG_7 resG_8 resG_9 resG_10 resG_11 resG_12 callL_len resL_len
attribute [local go_sem ↓] loadCall_eq loadRes_eq
attribute [local go_sem] ld_new ld_first ld_second ldr_new st_new

def zeroV : CallV := { thread := 0, index := 0, okind := 0, oslot := 0, oat := 0, on := 0, oid := 0, ograv := 0, otext := ⟨#[]⟩, invoked := 0, took := 0, rank := 0, answered := 0, steps := 0, err := 0, rev := 0, rslot := 0, rat := 0, rgrav := 0, rtext := ⟨#[]⟩, mb := 0, mr := 0, ml := 0, ik := 0, ifrom := 0, ito := 0, ps := [], da := none, dc := 0 }
def ex0 : CallV := { zeroV with took := 5, answered := 7, steps := 3 }
def ex1 : CallV := { zeroV with thread := 1, invoked := 1, took := 5, rank := 1, answered := 9, steps := 4 }
def ex2 : CallV := { zeroV with index := 1, invoked := 8, took := -1, answered := -1 }
def exL : List CallV := [ex0, ex1, ex2]

theorem cat_new (w : World) (cs : List CallV) (A : Array Value) (h : A = (callsL cs).toArray) : CAt (w.alloc (.cells A 34)) w.heap.size 0 cs := by
  subst h
  intro j u hj
  rw [Nat.zero_add, blk_cell (blk_new w (callsL cs) 34) j]
  exact hj
set_option maxRecDepth 100000 in
set_option maxHeartbeats 1000000 in
theorem example_any (w : World) : Calls Try.prog 15 #[] w fun e w' => e = .returned (.slice (some ⟨w.heap.size, 0, none⟩) 3 3) ∧ CAt w' w.heap.size 0 exL ∧ Below w.heap.size w w' ∧ w.heap.size < w'.heap.size := by
  go_enter Try.func15, Try.ntmps15
  go_wp2
  go_returns
  exact ⟨rfl, cat_new _ _ _ (by kernel_rfl), (Below.refl _ _).alloc (Nat.le_refl _) _, by simp⟩
theorem ck_ex : checkP exL = (0, 0) := by decide +kernel
theorem ck_ex1 : checkP [ex1, ex2] = (1, 22) := by decide +kernel
theorem ag_1 : agreesP [1, 0] exL = (true, 0) := by decide +kernel
theorem ag_2 : agreesP [2, 0] exL = (false, 0) := by decide +kernel
theorem ag_3 : agreesP [3] exL = (false, 3) := by decide +kernel
theorem ag_4 : agreesP [1, 1] exL = (false, 9) := by decide +kernel
theorem bf_1 : befB ex0 ex2 = true := by decide +kernel
theorem bf_2 : befB ex0 ex1 = false := by decide +kernel
theorem th_ex : (thIdx 0 exL 0) = [0, 2] := by decide +kernel
theorem pd_ex : places pendQ exL 0 = [2] := by decide +kernel
theorem tk_ex : places tookQ exL 0 = [0, 1] := by decide +kernel
theorem pf_5 : (prefS 5 exL).length = 2 := by decide +kernel

theorem ok_ex : ∀ c ∈ exL, c.Ok := by
  intro c hc
  simp only [exL, List.mem_cons, List.not_mem_nil, or_false] at hc
  rcases hc with rfl | rfl | rfl <;> constructor <;> decide
theorem ok_ex1 : ∀ c ∈ [ex1, ex2], c.Ok := fun c hc => ok_ex c (List.mem_cons_of_mem _ hc)
theorem da_ex (W : World) : ∀ c ∈ exL, DAt W c := by
  intro c hc
  simp only [exL, List.mem_cons, List.not_mem_nil, or_false] at hc
  rcases hc with rfl | rfl | rfl <;> exact ⟨by decide, .inl ⟨rfl, rfl, rfl⟩⟩
/-- The calls of the example, where example laid them. -/
structure ExAt (W : World) (B : Nat) : Prop where
  lt : B < W.heap.size
  row : CAt W B 0 exL
theorem ExAt.on {W W' : World} {B : Nat} (h : ExAt W B) (hb : Below W.heap.size W W') : ExAt W' B := ⟨Nat.lt_of_lt_of_le h.lt hb.size, h.row.on hb⟩
theorem ExAt.crow {W : World} {B : Nat} (h : ExAt W B) : CRow W (some ⟨B, 0, none⟩) 3 exL := .inr ⟨B, 0, rfl, by decide, h.lt, h.row⟩
theorem ExAt.crow1 {W : World} {B : Nat} (h : ExAt W B) : CRow W (some ⟨B, 27, none⟩) 2 [ex1, ex2] := .inr ⟨B, 27, rfl, by decide, h.lt, fun j u hj => by
  have h2 := h.row (27 + j) u (by
    show (callL ex0 ++ callsL [ex1, ex2])[27 + j]? = some u
    rw [List.getElem?_append_right (by rw [callL_len]; omega), callL_len, Nat.add_sub_cancel_left]
    exact hj)
  rwa [Nat.zero_add] at h2⟩
theorem exCheck {W : World} {B : Nat} (h : ExAt W B) : Calls Try.prog 20 #[.slice (some ⟨B, 0, none⟩) 3 3] W fun e w' => e = .returned (.tuple #[.int .i64 0, .int .i64 0]) ∧ Below W.heap.size W w' := by
  have ck := check_any _ _ _ _ h.crow (by decide) ok_ex
  rw [ck_ex] at ck
  exact ck
theorem exCheck1 {W : World} {B : Nat} (h : ExAt W B) : Calls Try.prog 20 #[.slice (some ⟨B, 27, none⟩) 2 2] W fun e w' => e = .returned (.tuple #[.int .i64 1, .int .i64 22]) ∧ Below W.heap.size W w' := by
  have ck := check_any _ _ _ _ h.crow1 (by decide) ok_ex1
  rw [ck_ex1] at ck
  exact ck
theorem eff_01 {L : List Nat} (h : EffIs exL L) : L = [0, 1] := by
  obtain ⟨hp, hw⟩ := h
  rw [tk_ex] at hp
  have hl := hp.length_eq
  match L, hl with
  | [a, b], _ =>
    have hn : [a, b].Nodup := hp.nodup_iff.2 (by decide)
    have ha : a ∈ [0, 1] := hp.subset (by simp)
    have hb : b ∈ [0, 1] := hp.subset (by simp)
    have hx : lexB exL a b = true := by simpa using hw
    simp at ha hb hn
    rcases ha with rfl | rfl <;> rcases hb with rfl | rfl
    · exact absurd rfl hn
    · rfl
    · exact absurd hx (by decide +kernel)
    · exact absurd rfl hn
theorem exEffects {W : World} {B : Nat} (h : ExAt W B) : Calls Try.prog 21 #[.slice (some ⟨B, 0, none⟩) 3 3] W fun e w' => ∃ v, e = .returned (.tuple #[v, .int .i64 0]) ∧ IRow w' v [0, 1] ∧ Below W.heap.size W w' := by
  refine (effects_any _ _ _ _ h.crow (by decide) ok_ex).mono ?_
  rintro e w' (⟨h1, _⟩ | ⟨_, v, L, hL, rfl, hrow, hb⟩)
  · rw [ck_ex] at h1
    exact absurd h1 (by decide)
  · obtain rfl := eff_01 hL
    exact ⟨v, rfl, IRow.own (zs := [0, 1]) hrow rfl, hb⟩
theorem exAgrees {W : World} {B : Nat} (h : ExAt W B) (po : Option Addr) (order : List Int) (r : Bool) (e0 : Int) (hO : IRow W (.slice po order.length order.length) order) (hl : order.length ≤ 1000000) (hr : agreesP order exL = (r, e0)) :
    Calls Try.prog 22 #[.slice po order.length order.length, .slice (some ⟨B, 0, none⟩) 3 3] W fun e w' => e = .returned (.tuple #[.bool r, .int .i64 e0]) ∧ Below W.heap.size W w' := by
  have ag := agrees_any _ po _ _ _ order _ h.crow hO (by decide) hl ok_ex
  rw [hr] at ag
  exact ag
theorem exOf {W : World} {B : Nat} (h : ExAt W B) : Calls Try.prog 26 #[.int .i64 0, .slice (some ⟨B, 0, none⟩) 3 3] W fun e w' => ∃ p cap, e = .returned (.slice p 2 cap) ∧ Below W.heap.size W w' := by
  refine (of_call _ _ 0 _ _ h.crow (by decide) (da_ex _)).mono ?_
  rintro e w' ⟨v, rfl, hO, hb⟩
  obtain ⟨p, cap, rfl⟩ := hO.len
  rw [th_ex]
  exact ⟨p, cap, rfl, hb⟩
theorem exPending {W : World} {B : Nat} (h : ExAt W B) : Calls Try.prog 27 #[.slice (some ⟨B, 0, none⟩) 3 3] W fun e w' => ∃ v, e = .returned v ∧ IRow w' v [2] ∧ Below W.heap.size W w' := by
  refine (pending_any _ _ _ _ h.crow (by decide)).mono ?_
  rintro e w' ⟨v, rfl, hrow, hb⟩
  rw [pd_ex] at hrow
  exact ⟨v, rfl, IRow.own (zs := [2]) hrow rfl, hb⟩
/-- What the rows of Prefix hold. -/
theorem orow_cell {w W : World} {base : Nat} {v : Value} {L : List CallV} (h : ORow w base W v L) (hn : 0 < L.length) : ∃ g cap, v = .slice (some ⟨g, 0, none⟩) L.length cap ∧ ∀ (k : Nat) (x : CallV), L[k]? = some x → ∃ c : CallV, c.pure = x ∧ ∀ j, j < 27 → W.cell? ⟨g, k * 27 + j, none⟩ = (callL c)[j]? := by
  obtain ⟨cs, h1, h2, h3⟩ := h
  have hl : L.length = cs.length := by rw [← h1]; simp
  rcases h2.2 with ⟨_, h5⟩ | ⟨g, cap, cur, h4, _⟩
  · omega
  · subst h4
    rw [hl]
    refine ⟨g, cap, rfl, fun k x hx => ?_⟩
    rw [← h1, List.getElem?_map] at hx
    obtain ⟨c, hc, hp⟩ := Option.map_eq_some_iff.1 hx
    have hk := (List.getElem?_eq_some_iff.1 hc).1
    exact ⟨c, hp, fun j hj => by rw [h2.cellAt (k * 27 + j) (by omega)]; exact callsL_get cs k j c hc hj⟩
theorem exPrefix {W : World} {B : Nat} (h : ExAt W B) (s : Int) (hs : -1 ≤ s) (hn : 0 < (prefS s exL).length) : Calls Try.prog 23 #[.int .i64 s, .slice (some ⟨B, 0, none⟩) 3 3] W fun e w' => ∃ g cap, e = .returned (.tuple #[.slice (some ⟨g, 0, none⟩) (prefS s exL).length cap, .int .i64 0]) ∧
    (∀ (k : Nat) (x : CallV), (prefS s exL)[k]? = some x → ∃ c : CallV, c.pure = x ∧ ∀ j, j < 27 → w'.cell? ⟨g, k * 27 + j, none⟩ = (callL c)[j]?) ∧ Below W.heap.size W w' := by
  refine (prefix_any _ _ s _ _ h.crow (by decide) ok_ex (da_ex _)).mono ?_
  rintro e w' (⟨h1, _⟩ | ⟨_, h1, _⟩ | ⟨_, _, v, rfl, hO, hb⟩)
  · rw [ck_ex] at h1
    exact absurd h1 (by decide)
  · omega
  · obtain ⟨g, cap, rfl, hc⟩ := orow_cell hO hn
    exact ⟨g, cap, rfl, hc, hb⟩
theorem exPrefixM {W : World} {B : Nat} (h : ExAt W B) : Calls Try.prog 23 #[.int .i64 (-2), .slice (some ⟨B, 0, none⟩) 3 3] W fun e w' => e = .returned (.tuple #[.slice none 0 0, .int .i64 3]) ∧ Below W.heap.size W w' := by
  refine (prefix_any _ _ (-2) _ _ h.crow (by decide) ok_ex (da_ex _)).mono ?_
  rintro e w' (⟨h1, _⟩ | ⟨_, _, h1, hb⟩ | ⟨_, h1, _⟩)
  · rw [ck_ex] at h1
    exact absurd h1 (by decide)
  · exact ⟨h1, hb⟩
  · omega
end Go.Proofs.Ytjinnlmmlbmodaa
