/- The texts RaC RaD RaE RaV RaU. -/
import Derived.Test.YtlealeecmmpckaaGreatKug
import Derived.Test.YtlealeecmmpckaaGreatKxb
import Derived.Test.YtlealeecmmpckaaGreatKui
namespace Go.Proofs.YtlealeecmmpckaaGreat
set_option linter.unusedVariables false
set_option linter.unusedSimpArgs false
set_option maxRecDepth 100000
set_option maxHeartbeats 8000000
open Go.RowKit Go.Lib Go.Shelf
section
variable {P : Program}
theorem run_append_str (w : World) (base : Nat) (t u ty e : TypeId) (i : TypeInfo) (ht : P.underlying t = some (.slice e)) (hu : P.underlying u = some .string) (hi : P.info? e = some i) (hz : i.zero = some (.int .u8 0))
    (hsize : i.size = 1) (hby : i.bytes = 1) (v : Value) (n : Nat) (xs : List Value) (hown : w.ownsRow base e 1 v n xs) (s : ByteArray) (h63 : n + s.size ≤ maxLen) (hbytes : n + s.size ≤ 140737488355328) (hbase : base ≤ w.heap.size) :
    ∃ v' w', (Builtin.append_ #[t, u] ty #[v, .string s]).run P w = .ok v' w' ∧ w'.ownsRow base e 1 v' (n + s.size) (xs ++ strCells s) ∧ w.grownBy w' v.ownBlock ∧ (v'.ownBlock = v.ownBlock ∨ v'.ownBlock = some w.heap.size) := by
  obtain ⟨v', w', h1, h2, h3, h4⟩ := Lib.run_append_own_string (P := P) w base t u ty e i ht hu hi hz hsize hby v n xs hown s h63 hbytes hbase
  refine ⟨v', w', h1, h2, h3, ?_⟩
  have hxl : xs.length = n := by simpa using hown.1
  rcases hown.2 with ⟨rfl, rfl⟩ | ⟨g, cap, cur, rfl, hbg, hg, hnc, hcm, hcs, htake⟩
  · by_cases hm : s.size = 0
    · exact .inl (by rw [h4.2 ⟨rfl, hm⟩])
    · have hr := run_append_nil_string (P := P) w t u ty e i (.int .u8 0) ht hu hi hz s (by omega) (by unfold maxLen at h63; omega) (by rw [hby]; omega)
      rw [h1] at hr
      injection hr with hr _
      exact .inr (by rw [hr]; rfl)
  · by_cases hroom : n + s.size ≤ cap
    · have hr := Lib.run_append_room_string (P := P) w t u ty e i ht hu hi hsize g n cap cur hg s hroom (by rw [show cur.size = cap by simpa using hcs]; exact hroom)
      rw [h1] at hr
      injection hr with hr _
      exact .inl (by rw [hr]; rfl)
    · have holds : ∀ j u, xs[j]? = some u → w.cell? ((⟨g, 0, none⟩ : Addr).add j) = some u := hown.cells (g := g) rfl
      have hr := Lib.run_append_grow_string (P := P) w t u ty e i (.int .u8 0) ht hu hi hz ⟨g, 0, none⟩ n cap xs (by rw [hsize]; simpa using hxl) holds s (by omega) (by unfold maxLen at h63; omega) (by rw [hby]; exact growslice_fits (by omega) (by omega))
      rw [h1] at hr
      injection hr with hr _
      exact .inr (by rw [hr]; rfl)
theorem wpList_append_str (w : World) {ops : Array Oper} {rest : List Oper} {o : Oper} {a : Act} {Q : Exit → Act → World → Prop} (hgd : o.guard = none) (sl x : Operand) (t u : TypeId)
    (ho : o.op = .call { callee := .builtin .append, args := #[sl, x], argTypes := #[t, u] })
    (base : Nat) (e : TypeId) (i : TypeInfo) (ht : P.underlying t = some (.slice e)) (hu : P.underlying u = some .string) (hi : P.info? e = some i) (hz : i.zero = some (.int .u8 0))
    (hsize : i.size = 1) (hby : i.bytes = 1)
    (v : Value) (n : Nat) (xs : List Value) (hs : a.eval sl = v) (hown : w.ownsRow base e 1 v n xs) (s : ByteArray) (hx : a.eval x = .string s)
    (h63 : n + s.size ≤ maxLen) (hbytes : n + s.size ≤ 140737488355328) (hbase : base ≤ w.heap.size)
    (h : ∀ v' w', w'.ownsRow base e 1 v' (n + s.size) (xs ++ strCells s) → w.grownBy w' v.ownBlock → (v'.ownBlock = v.ownBlock ∨ v'.ownBlock = some w.heap.size) → wpList P ops Q rest (a.put o.dst v') w') : wpList P ops Q (o :: rest) a w := by
  refine wpList_plain hgd fun K hK => ?_
  obtain ⟨v', w', hr, h2, h3, h4⟩ := run_append_str (P := P) w base t u o.type e i ht hu hi hz hsize hby v n xs hown s h63 hbytes hbase
  unfold Oper.wp execOp
  simp only [ho, resolve, invoke, builtin, Sem.run_bind, Sem.run_pure, Result.andThen_ok, List.map_toArray, List.map_cons, List.map_nil, hs, hx, hr]
  exact hK _ _ (h v' w' h2 h3 h4)
end
abbrev BOwn (W : World) (B : Nat) (v : Value) (l : List UInt8) : Prop := W.ownsRow B 5 1 v l.length (Lib.byteCells l)
def Apart (v v2 : Value) : Prop := ∀ g, v2.ownBlock = some g → v.ownBlock ≠ some g
theorem own_ltR {w : World} {B s n : Nat} {e : TypeId} {v : Value} {xs : List Value} (h : w.ownsRow B e s v n xs) : ∀ k, v.ownBlock = some k → k < w.heap.size := fun k hk => (h.lt k hk).2
theorem own_keepB {w w' : World} {B s n : Nat} {e : TypeId} {v : Value} {xs : List Value} (h : w.ownsRow B e s v n xs) (hk : ∀ k, k < w.heap.size → v.ownBlock = some k → w'.heap[k]? = w.heap[k]?) : w'.ownsRow B e s v n xs := by
  refine ⟨h.1, ?_⟩
  rcases h.2 with hn | ⟨g, cap, cur, rfl, hB, hg, rest⟩
  · exact .inl hn
  · exact .inr ⟨g, cap, cur, rfl, hB, (hk g (Array.getElem?_eq_some_iff.1 hg).1 rfl).trans hg, rest⟩
theorem app_two {w w' : World} {B : Nat} {v v' v2 : Value} {l l2 : List UInt8} {s : ByteArray} (h : BOwn w B v l) (h2 : BOwn w B v2 l2) (ha : Apart v v2) (hB : B ≤ w.heap.size) (ho : w'.ownsRow B 5 1 v' (l.length + s.size) (Lib.byteCells l ++ strCells s)) (hg : w.grownBy w' v.ownBlock) (hv : v'.ownBlock = v.ownBlock ∨ v'.ownBlock = some w.heap.size) :
    BOwn w' B v' (l ++ s.data.toList) ∧ BOwn w' B v2 l2 ∧ Apart v' v2 ∧ Below B w w' := by
  refine ⟨?_, own_keepB h2 (fun k hk1 hk2 => hg.block k hk1 (fun e => ha k hk2 e.symm)), ?_, (Below.refl B w).grown hg hB (fun k hk => (h.lt k hk).1)⟩
  · show w'.ownsRow B 5 1 v' (l ++ s.data.toList).length (Lib.byteCells (l ++ s.data.toList))
    rw [Lib.byteCells_append, List.length_append, show s.data.toList.length = s.size from Array.length_toList]
    exact ho
  · intro g hg2
    rcases hv with e | e
    · rw [e]; exact ha g hg2
    · rw [e]; intro e2; injection e2 with e2
      have := own_ltR h2 g hg2; omega
theorem Apart.symm {v v2 : Value} (h : Apart v v2) : Apart v2 v := fun g hg hg2 => h g hg2 hg
theorem BOwn.f {W : World} {B : Nat} {v : Value} {l : List UInt8} (h : BOwn W B v l) : W.ownsRowF B 5 1 v l.length (Lib.byteCells l) := World.ownsRowF_of h
theorem sumN_mono {d : List PcV} (h : DOK d) (k : Nat) : ∀ j, k + j ≤ d.length → sumN (d.take k) ≤ sumN (d.take (k + j))
  | 0, _ => Int.le_refl _
  | j + 1, hj => by
    have hx := List.getElem?_eq_getElem (show k + j < d.length by omega)
    generalize d[k + j] = p at hx
    have := (pc_bounds (h.2 p (List.mem_of_getElem? hx)).1).1
    rw [show k + (j + 1) = k + j + 1 by omega, sumN_take hx]
    have := sumN_mono h k j (by omega)
    omega
theorem sumN_le {d : List PcV} (h : DOK d) {k : Nat} (hk : k ≤ d.length) : sumN (d.take k) ≤ sumN d := by
  have := sumN_mono h k (d.length - k) (by omega)
  rwa [show k + (d.length - k) = d.length by omega, List.take_length] at this
theorem parts_step {s : List UInt8} {d : List PcV} (h : DOK d) {k : Nat} {p : PcV} (hx : d[k]? = some p) (hr : (paF s (d.take k)).rest = s.drop (sumN (d.take k)).toNat) :
    (paF s (d.take (k + 1))).rest = s.drop (sumN (d.take (k + 1))).toNat ∧
    (p.kind = 1 → (paF s (d.take (k + 1))).out = (paF s (d.take k)).out ++ p.text.data.toList ++ (s.drop (sumN (d.take k)).toNat).take p.n.toNat ∧ (paF s (d.take (k + 1))).gone = (paF s (d.take k)).gone) ∧
    (p.kind ≠ 1 → (paF s (d.take (k + 1))).out = (paF s (d.take k)).out ++ p.text.data.toList ∧ (paF s (d.take (k + 1))).gone = (paF s (d.take k)).gone ++ (s.drop (sumN (d.take k)).toNat).take p.n.toNat) := by
  have hp := (h.2 p (List.mem_of_getElem? hx)).1
  have hb := (sum_bounds h k (Nat.le_of_lt (List.getElem?_eq_some_iff.1 hx).1)).1.1
  have hn := (pc_bounds hp).1
  have hnil : p.text.size = 0 → p.text.data.toList = [] := fun h0 => List.eq_nil_of_length_eq_zero (by rw [Array.length_toList]; exact h0)
  rw [paF_take hx, sumN_take hx]
  have hsum : (sumN (d.take k) + p.n).toNat = (sumN (d.take k)).toNat + p.n.toNat := by omega
  rw [hsum, ← List.drop_drop, ← hr]
  unfold pcP at hp
  rcases hp with ⟨h1 | h1, h2, h3⟩ | ⟨h1, h2, h3⟩
  · unfold paStep
    rw [if_pos h1]
    exact ⟨rfl, fun _ => ⟨by rw [hnil h3, List.append_nil], rfl⟩, fun h => absurd h1 h⟩
  · unfold paStep
    rw [if_neg (by omega), if_neg (by omega)]
    exact ⟨rfl, fun h => by omega, fun _ => ⟨by rw [hnil h3, List.append_nil], rfl⟩⟩
  · unfold paStep
    rw [if_neg (by omega), if_pos h1, h2]
    exact ⟨rfl, fun h => by omega, fun _ => ⟨rfl, by simp⟩⟩
def RpI (w : World) (s : ByteArray) (ad : Option Addr) (d : List PcV) (c : Nat) (a : Act) (wr : World) : Prop :=
  ∃ (k : Nat) (vo vg : Value) (u : Nat → Value), a = { tmps := #[.string s, .slice ad d.length c, u 2, u 3, u 4, u 5, vo, vg, .int .i64 (sumN (d.take k)), .int .i64 k, u 10, u 11, u 12, u 13, u 14, u 15, u 16, u 17, u 18, u 19, u 20, u 21, u 22, u 23, u 24, u 25, u 26, u 27, u 28, u 29, u 30, u 31, u 32, u 33, u 34, u 35, u 36, u 37, u 38, u 39, u 40, u 41, u 42, u 43, u 44, u 45, u 46, u 47, u 48, u 49, u 50, u 51, u 52, u 53, u 54, u 55, u 56, u 57, u 58, u 59, u 60, u 61, u 62, u 63], defers := [] } ∧ k ≤ d.length ∧ BOwn wr w.heap.size vo (paF s.data.toList (d.take k)).out ∧ BOwn wr w.heap.size vg (paF s.data.toList (d.take k)).gone ∧ Apart vo vg ∧ (paF s.data.toList (d.take k)).rest = s.data.toList.drop (sumN (d.take k)).toNat ∧ ((paF s.data.toList (d.take k)).out.length ≤ k * 200000 ∧ (paF s.data.toList (d.take k)).gone.length ≤ k * 200000) ∧ Below w.heap.size w wr
theorem RpI.intro {w : World} {s : ByteArray} {ad : Option Addr} {d : List PcV} {c : Nat} {a : Act} {wr : World} (k : Nat) (vo vg : Value) (h : a = { tmps := #[.string s, .slice ad d.length c, a.tmps.getD 2 undef, a.tmps.getD 3 undef, a.tmps.getD 4 undef, a.tmps.getD 5 undef, vo, vg, .int .i64 (sumN (d.take k)), .int .i64 k, a.tmps.getD 10 undef, a.tmps.getD 11 undef, a.tmps.getD 12 undef, a.tmps.getD 13 undef, a.tmps.getD 14 undef, a.tmps.getD 15 undef, a.tmps.getD 16 undef, a.tmps.getD 17 undef, a.tmps.getD 18 undef, a.tmps.getD 19 undef, a.tmps.getD 20 undef, a.tmps.getD 21 undef, a.tmps.getD 22 undef, a.tmps.getD 23 undef, a.tmps.getD 24 undef, a.tmps.getD 25 undef, a.tmps.getD 26 undef, a.tmps.getD 27 undef, a.tmps.getD 28 undef, a.tmps.getD 29 undef, a.tmps.getD 30 undef, a.tmps.getD 31 undef, a.tmps.getD 32 undef, a.tmps.getD 33 undef, a.tmps.getD 34 undef, a.tmps.getD 35 undef, a.tmps.getD 36 undef, a.tmps.getD 37 undef, a.tmps.getD 38 undef, a.tmps.getD 39 undef, a.tmps.getD 40 undef, a.tmps.getD 41 undef, a.tmps.getD 42 undef, a.tmps.getD 43 undef, a.tmps.getD 44 undef, a.tmps.getD 45 undef, a.tmps.getD 46 undef, a.tmps.getD 47 undef, a.tmps.getD 48 undef, a.tmps.getD 49 undef, a.tmps.getD 50 undef, a.tmps.getD 51 undef, a.tmps.getD 52 undef, a.tmps.getD 53 undef, a.tmps.getD 54 undef, a.tmps.getD 55 undef, a.tmps.getD 56 undef, a.tmps.getD 57 undef, a.tmps.getD 58 undef, a.tmps.getD 59 undef, a.tmps.getD 60 undef, a.tmps.getD 61 undef, a.tmps.getD 62 undef, a.tmps.getD 63 undef], defers := [] }) (hk : k ≤ d.length) (h1 : BOwn wr w.heap.size vo (paF s.data.toList (d.take k)).out) (h2 : BOwn wr w.heap.size vg (paF s.data.toList (d.take k)).gone) (h3 : Apart vo vg) (h4 : (paF s.data.toList (d.take k)).rest = s.data.toList.drop (sumN (d.take k)).toNat) (h5 : (paF s.data.toList (d.take k)).out.length ≤ k * 200000 ∧ (paF s.data.toList (d.take k)).gone.length ≤ k * 200000) (hB : Below w.heap.size w wr) : RpI w s ad d c a wr := ⟨k, vo, vg, fun i => a.tmps.getD i undef, h, hk, h1, h2, h3, h4, h5, hB⟩
theorem pcs_of {W : World} {b off : Nat} {d : List PcV} (h : PRow W (some ⟨b, off, none⟩) d) : PCs W b off d := by
  rcases h with ⟨h1, _⟩ | ⟨b', off', h1, _, h3⟩
  · cases h1
  · injection h1 with h1; injection h1 with e1 e2 _; subst e1; subst e2; exact h3
theorem ext_cut (s : ByteArray) (a n : Int) (ha : 0 ≤ a) (hn : 0 ≤ n) : (s.extract a.toNat (a + n).toNat).data.toList = (s.data.toList.drop a.toNat).take n.toNat := by
  rw [show (a + n).toNat = a.toNat + n.toNat by omega]
  simp [ByteArray.data_extract]
theorem refParts_ok (s : ByteArray) (ad : Option Addr) (c : Nat) (d : List PcV) (w : World) (hr : PRow w ad d) (hd : DOK d) (hc : d.length ≤ c) (hs : s.size ≤ 100000) (hfit : sumN d ≤ s.size) :
    Calls Tryz.prog 135 #[.string s, .slice ad d.length c] w fun e w' => ∃ x, e = .returned (.tuple #[.string ⟨(paF s.data.toList d).out.toArray⟩, .string x]) ∧ Below w.heap.size w w' := by
  obtain ⟨j0, hj, jz0, jz1, jz2⟩ := info_parts infoBy
  have h4 := hd.1
  go_enter Tryz.func135, Tryz.ntmps135
  go_wp2
  refine wp_loop (RpI w s ad d c) (fun a _ => d.length - (intOf (a.tmps.getD 9 undef)).toNat) ?_ ?_
  · exact RpI.intro 0 (.slice none 0 0) (.slice none 0 0) rfl (by omega) (World.ownsRow_nil _ _ _ _) (World.ownsRow_nil _ _ _ _) (fun g hg => by cases hg) rfl (by simp [paF]) (Below.refl _ _)
  · rintro a wr ⟨k, vo, vg, u, rfl, hk, hvo, hvg, hap, hrest, ⟨hlo, hlg⟩, hB⟩
    obtain ⟨⟨x0, x1⟩, _⟩ := sum_bounds hd k hk
    by_cases hlt : k < d.length
    · have hg := List.getElem?_eq_getElem hlt
      generalize d[k] = p at hg
      obtain ⟨hp1, hp2, hp3⟩ := hd.2 p (List.mem_of_getElem? hg)
      obtain ⟨hn0, hkd⟩ := pc_bounds hp1
      obtain ⟨st1, st2, st3⟩ := parts_step hd hg hrest
      have hle := sumN_le hd (show k + 1 ≤ d.length by omega)
      have hsn := sumN_take hg
      have hcut := ext_cut s (sumN (d.take k)) p.n x0 hn0
      rw [hsn] at hle
      have HSN := Lib.hid hsn
      have HR5 : ∀ W, Below w.heap.size w W → PRow W ad d := fun W hW => hr.on hW
      rcases hr.on hB with ⟨_, h2⟩ | ⟨b, off, rfl, hb, hcell⟩
      · rw [h2] at hlt; simp at hlt
      obtain ⟨c0, c1, c2⟩ := pc_at hcell hg
      have hpcs : PCs wr b off d := hcell
      generalize hS : sumN (d.take k) = S at *
      generalize hX : paF s.data.toList (d.take k) = X at *
      have hwr : IntKind.i64.wrap (S + p.n) = S + p.n := IntWalk.i64_in _ (by omega)
      have hsp : 0 ≤ S + p.n := by omega
      have hcl : (s.extract S.toNat (S + p.n).toNat).size ≤ 100000 := by rw [ByteArray.size_extract]; omega
      have hrl : (s.extract S.toNat (S + p.n).toNat).size = (s.extract S.toNat (S + p.n).toNat).data.toList.length := Array.length_toList.symm
      have hBz := hB.size
      have HG := Lib.hid hg
      have hpt : p.text.data.toList.length = p.text.size := Array.length_toList
      have HCUT := Lib.hid hcut
      have HL1 := Lib.hid (show (X.out ++ p.text.data.toList).length + (s.extract S.toNat (S + p.n).toNat).size ≤ 2000000 ∧ X.gone.length + (s.extract S.toNat (S + p.n).toNat).size ≤ 2000000 by rw [List.length_append, hpt]; omega)
      have HRL := Lib.hid hrl
      have HPT := Lib.hid hpt
      have HX := Lib.hid hX
      have HS := Lib.hid hS
      clear hcut hrl hpt hX hS hsn hg hpcs hcell hr hp1 hrest
      by_cases e : p.kind = 1
      · have e1 : (p.kind == 1) = true := by simpa using e
        obtain ⟨s1, s2⟩ := st2 e
        have HS1 := Lib.hid s1; have HS2 := Lib.hid s2; have HS3 := Lib.hid st1
        clear s1 s2 st1 st2 st3 e
        go_wp2_with (first | (at_builtin; refine wpList_append_str _ rfl _ _ 98 9 rfl w.heap.size 5 j0 Tryz.underlying98 Tryz.underlying9 hj jz0 jz1 jz2 _ _ _ rfl hvo1 (s.extract S.toNat (S + p.n).toNat) rfl (by have := HL1.out; unfold maxLen; omega) (by have := HL1.out; omega) hBz1 ?_; intro v2 w2 ho2 hg2 hv2; obtain ⟨hvo2, hvg2, hap2, hb2⟩ := app_two hvo1 hvg1 hap1 hBz1 ho2 hg2 hv2; have hB2 := hB1.trans hb2; obtain ⟨r0, r1, r2⟩ := pc_at (pcs_of (HR5 _ hB2)) HG.out) | (at_builtin; refine wpList_append_str _ rfl _ _ 98 9 rfl w.heap.size 5 j0 Tryz.underlying98 Tryz.underlying9 hj jz0 jz1 jz2 _ _ _ rfl hvo p.text rfl (by unfold maxLen; omega) (by omega) hBz ?_; intro v1 w1 ho1 hg1 hv1; obtain ⟨hvo1, hvg1, hap1, hb1⟩ := app_two hvo hvg hap hBz ho1 hg1 hv1; have hB1 := hB.trans hb1; have hBz1 := hB1.size; obtain ⟨q0, q1, q2⟩ := pc_at (pcs_of (HR5 _ hB1)) HG.out))
        exact ⟨RpI.intro (k + 1) v2 vg (by rw [HSN.out]; rfl) (by omega) (by rw [HS1.out, ← HCUT.out]; exact hvo2) (by rw [HS2.out]; exact hvg2) hap2 HS3.out (by
          rw [HS1.out, HS2.out, ← HCUT.out, List.length_append, List.length_append, HPT.out, ← HRL.out]; omega) hB2, by simp [intOf]; omega⟩
      · have e1 : (p.kind == 1) = false := by simpa using e
        obtain ⟨s1, s2⟩ := st3 e
        have HS1 := Lib.hid s1; have HS2 := Lib.hid s2; have HS3 := Lib.hid st1
        clear s1 s2 st1 st2 st3 e
        go_wp2_with (first | (at_builtin; refine wpList_append_str _ rfl _ _ 98 9 rfl w.heap.size 5 j0 Tryz.underlying98 Tryz.underlying9 hj jz0 jz1 jz2 _ _ _ rfl hvg1 (s.extract S.toNat (S + p.n).toNat) rfl (by have := HL1.out; unfold maxLen; omega) (by have := HL1.out; omega) hBz1 ?_; intro v2 w2 ho2 hg2 hv2; obtain ⟨hvg2, hvo2, hap2, hb2⟩ := app_two hvg1 hvo1 hap1.symm hBz1 ho2 hg2 hv2; have hB2 := hB1.trans hb2; obtain ⟨r0, r1, r2⟩ := pc_at (pcs_of (HR5 _ hB2)) HG.out) | (at_builtin; refine wpList_append_str _ rfl _ _ 98 9 rfl w.heap.size 5 j0 Tryz.underlying98 Tryz.underlying9 hj jz0 jz1 jz2 _ _ _ rfl hvo p.text rfl (by unfold maxLen; omega) (by omega) hBz ?_; intro v1 w1 ho1 hg1 hv1; obtain ⟨hvo1, hvg1, hap1, hb1⟩ := app_two hvo hvg hap hBz ho1 hg1 hv1; have hB1 := hB.trans hb1; have hBz1 := hB1.size; obtain ⟨q0, q1, q2⟩ := pc_at (pcs_of (HR5 _ hB1)) HG.out))
        exact ⟨RpI.intro (k + 1) v1 v2 (by rw [HSN.out]; rfl) (by omega) (by rw [HS1.out]; exact hvo2) (by rw [HS2.out, ← HCUT.out]; exact hvg2) hap2.symm HS3.out (by
          rw [HS1.out, HS2.out, ← HCUT.out, List.length_append, List.length_append, HPT.out, ← HRL.out]; omega) hB2, by simp [intOf]; omega⟩
    · obtain rfl : k = d.length := by omega
      rw [List.take_length] at hvo hvg hrest
      obtain ⟨ao, co, rfl⟩ := own_slice hvo
      obtain ⟨ag, cg, rfl⟩ := own_slice hvg
      have k1 : (convert 98 9 (.slice ao (paF s.data.toList d).out.length co)).run Tryz.prog wr.drew = .ok (.string ⟨(paF s.data.toList d).out.toArray⟩) wr.drew := conv_bytes (World.ownsRowF_of (own_below6 hvo (Below.refl _ _).drew))
      have k2 : (convert 98 9 (.slice ag (paF s.data.toList d).gone.length cg)).run Tryz.prog wr.drew = .ok (.string ⟨(paF s.data.toList d).gone.toArray⟩) wr.drew := conv_bytes (World.ownsRowF_of (own_below6 hvg (Below.refl _ _).drew))
      have hB2 := hB.drew
      clear hvo hvg hrest hr
      obtain ⟨xo, hXo⟩ : ∃ xo, (paF s.data.toList d).out = xo := ⟨_, rfl⟩
      obtain ⟨xg, hXg⟩ : ∃ xg, (paF s.data.toList d).gone = xg := ⟨_, rfl⟩
      rw [hXo] at k1 ⊢
      rw [hXg] at k2 ⊢
      have HXO := Lib.hid hXo
      clear hXo hXg
      go_wp2
      refine wp_region_noPanic ?_
      refine wp_region_held_drew (S := fun W => (convert 98 9 (.slice ao xo.length co)).run Tryz.prog W = .ok (.string ⟨xo.toArray⟩) W ∧ (convert 98 9 (.slice ag xg.length cg)).run Tryz.prog W = .ok (.string ⟨xg.toArray⟩) W) (by kernel_rfl) ?_ (fun hHeld => ?_)
      · exact ⟨k1, k2⟩
      iterate 6 (first | (refine np_sn ?_; (try simp only [nSO])) | ((first | refine np_n ?_ ?_ ?_ | refine np_t 0 ?_ ?_ ?_); rotate_left 1; (· (intro w hSw; (try dsimp only at hSw); go_simp; all_goals with_reducible rfl)); (try simp only [nSO])))
      refine wpAnyH_done (by kernel_rfl) ?_ _
      refine NoPanic.normal ?_
      go_wp2
      go_returns
      exact ⟨⟨xg.toArray⟩, by rw [HXO.out]; rfl, hB2⟩
theorem refFits_ok (s : ByteArray) (a : Option Addr) (c : Nat) (d : List PcV) (w : World) (hr : PRow w a d) (hd : DOK d) (hc : d.length ≤ c) (hs : sumN d = s.size) :
    Calls Tryz.prog 134 #[.string s, .slice a d.length c] w fun e w' => e = .returned (.int .i64 0) ∧ Below w.heap.size w w' := by
  have h1 := refLengths_ok a c d w hr hd hc
  rw [hs] at h1
  have H1 := Lib.hid h1
  clear h1 hs
  go_enter Tryz.func134, Tryz.ntmps134
  go_wp2_with (first | (go_at_call 131; refine H1.out.mono ?_; rintro e w1 ⟨rfl, hB1⟩))
  go_returns
  exact ⟨rfl, hB1⟩
theorem refApply_ok (s : ByteArray) (at_ n : Int) (x : ByteArray) (a : Option Addr) (c : Nat) (w : World) (hrep : RepOK s.size at_ n x) (hr : PRow w a (repD s.size at_ n x)) (hc : (repD s.size at_ n x).length ≤ c) :
    Calls Tryz.prog 100 #[.string s, .slice a (repD s.size at_ n x).length c] w fun e w' => e = .returned (.tuple #[.string (repT s at_ n x), .int .i64 0]) ∧ Below w.heap.size w w' := by
  obtain ⟨_, hout⟩ := rep_pa s at_ n x hrep
  obtain ⟨hd, hsn, _⟩ := rep_dok hrep
  have hsz : s.size ≤ 100000 := by have := hrep.2.2.2.1; omega
  have hf := refFits_ok s a c (repD s.size at_ n x) w hr hd hc hsn
  have hp := fun W (hW : PRow W a (repD s.size at_ n x)) => refParts_ok s a c (repD s.size at_ n x) W hW hd hc hsz (by omega)
  have he : (⟨(paF s.data.toList (repD s.size at_ n x)).out.toArray⟩ : ByteArray) = repT s at_ n x := by rw [hout]
  rw [he] at hp
  have HF := Lib.hid hf; have HP := Lib.hid hp
  clear hf hp he hout hsn hd
  generalize repD s.size at_ n x = D at *
  go_enter Tryz.func100, Tryz.ntmps100
  go_wp2_with (first | (go_at_call 134; refine HF.out.mono ?_; rintro e w1 ⟨rfl, hB1⟩) | (go_at_call 135; refine (HP.out _ (hr.on hB1)).mono ?_; rintro e w2 ⟨x1, rfl, hB2⟩))
  go_returns
  exact ⟨rfl, hB1.trans (hB2.mono hB1.size)⟩
theorem rep_alt {n at_ k : Int} {t : ByteArray} (h : RepOK n at_ k t) : Alt (repD n at_ k t) := by
  obtain ⟨h1, h2, h3, h4, h5, h6⟩ := h
  unfold repD
  rcases h6 with ⟨rfl, hx⟩ | ⟨hk, hx⟩
  · by_cases ha : 0 < at_ <;> by_cases hr : 0 < n - at_ - 0 <;> rw [if_pos hx, if_neg (show ¬ (0 : Int) < 0 by omega)] <;> simp only [ha, hr, if_true, if_false, List.append_nil, List.nil_append, List.cons_append, List.append_assoc]
    all_goals
      refine ⟨fun j p q hp hq => ?_, fun j p hp hne => ?_⟩
      · rcases j with _ | _ | _ | j <;> simp at hp hq <;> subst hp <;> subst hq <;> simp
      · rcases j with _ | _ | _ | j <;> simp at hp <;> subst hp <;> simp at hne ⊢
  · by_cases ha : 0 < at_ <;> by_cases hr : 0 < n - at_ - k <;> rw [if_neg (show ¬ t.size ≠ 0 by omega), if_pos hk] <;> simp only [ha, hr, if_true, if_false, List.append_nil, List.nil_append, List.cons_append, List.append_assoc]
    all_goals
      refine ⟨fun j p q hp hq => ?_, fun j p hp hne => ?_⟩
      · rcases j with _ | _ | _ | j <;> simp at hp hq <;> subst hp <;> subst hq <;> simp
      · rcases j with _ | _ | _ | j <;> simp at hp <;> subst hp <;> simp at hne ⊢
end Go.Proofs.YtlealeecmmpckaaGreat
namespace Go.Proofs.YtlealeecmmpckaaGreat
set_option linter.unusedVariables false
set_option linter.unusedSimpArgs false
set_option maxRecDepth 100000
set_option maxHeartbeats 8000000
open Go.RowKit Go.Lib Go.Shelf
theorem refReplace_ok (n at_ k : Int) (t : ByteArray) (w : World) (h : RepOK n at_ k t) :
    Calls Tryz.prog 98 #[.int .i64 n, .int .i64 at_, .int .i64 k, .string t] w fun e w' => ∃ v, e = .returned (.tuple #[v, .int .i64 0]) ∧ POwn w' w.heap.size v (repD n at_ k t) ∧ Below w.heap.size w w' := by
  obtain ⟨i0, hi, hz0, hz1, hz2⟩ := info_parts infoP
  obtain ⟨hd, _, _⟩ := rep_dok h
  have ha := rep_alt h
  have fo := fun (W : World) (ad : Option Addr) (c : Nat) (hr : PRow W ad (repD n at_ k t)) (hc : (repD n at_ k t).length ≤ c) => refForm_ok ad c (repD n at_ k t) W hr hd ha hc
  obtain ⟨h1, h2, h3, h4, h5, h6⟩ := h
  have w1 : IntKind.i64.wrap (n - at_) = n - at_ := IntWalk.i64_in _ (by omega)
  have w2 : IntKind.i64.wrap (n - k) = n - k := IntWalk.i64_in _ (by omega)
  have w3 : IntKind.i64.wrap (1048576 - (n - k)) = 1048576 - (n - k) := IntWalk.i64_in _ (by omega)
  have w4 : IntKind.i64.wrap (n - at_ - k) = n - at_ - k := IntWalk.i64_in _ (by omega)
  have w5 : IntKind.i64.wrap (at_ + k) = at_ + k := IntWalk.i64_in _ (by omega)
  have b1 : decide (at_ < 0) = false := by simp; omega
  have b2 : decide (n < at_) = false := by simp; omega
  have b3 : decide (k < 0) = false := by simp; omega
  have b4 : decide (n - at_ < k) = false := by simp; omega
  have b5 : decide (1048576 < n) = false := by simp; omega
  have b6 : decide (1048576 - (n - k) < (t.size : Int)) = false := by simp; omega

  by_cases hm : k = 0
  · have ht : t.size ≠ 0 := by omega
    have hm2 : decide (0 < k) = false := by simp; omega
    have e1 : t.toList.isEmpty = false := by rw [te3]; omega
    by_cases ha0 : 0 < at_
    · have d1 : decide (0 < at_) = true := by simpa using ha0
      by_cases hr0 : at_ + k < n
      · have d2 : decide (at_ + k < n) = true := by simpa using hr0
        have hD : repD n at_ k t = [] ++ [(⟨1, at_, ⟨#[]⟩⟩ : PcV)] ++ [(⟨2, 0, t⟩ : PcV)] ++ [(⟨1, n - at_ - k, ⟨#[]⟩⟩ : PcV)] := by
          unfold repD
          rw [if_pos ha0, if_pos (show t.size ≠ 0 by omega), if_neg (show ¬ 0 < k by omega), if_pos (show 0 < n - at_ - k by omega)]; rfl
        rw [hD] at fo
        have HD := Lib.hid hD; have FO := Lib.hid fo
        clear hD fo hd ha h1 h2 h3 h4 h5 h6 ha0 hr0 hm ht
        go_enter Tryz.func98, Tryz.ntmps98
        go_wp2_with (first | (go_at_call 130; obtain ⟨af, cf, hvf⟩ := own_slice hv3; subst hvf; refine (FO.out _ af cf (prow_own rfl hv3).1 (prow_own rfl hv3).2).mono ?_; rintro e wf ⟨vf, rfl, hof, hBf⟩; obtain ⟨aof, cof, rfl⟩ := own_slice hof; have hBF := hB3.trans (hBf.mono hB3.size)) | (at_builtin; refine wpList_append_own _ rfl _ _ 32 rfl w.heap.size 132 i0 _ 3 32 Tryz.underlying32 hi hz0 hz1 hz2 rfl (by decide) _ _ _ rfl ((hv2.alloc _)) ⟨_, 0, none⟩ 1 1 (pcL ⟨1, n - at_ - k, ⟨#[]⟩⟩) rfl rfl (pieces_new _ _ _) (pcL_ones _) (by unfold maxLen; first | omega | (simp only [List.length_append, List.length_cons, List.length_nil]; done) | (simp only [List.length_append, List.length_cons, List.length_nil]; omega)) (by first | omega | (simp only [List.length_append, List.length_cons, List.length_nil]; done) | (simp only [List.length_append, List.length_cons, List.length_nil]; omega)) (by have := hB2.size; simp; try omega) ?_; intro v3 w30 hw3 hg3 _; have hB3 := (hB2.alloc hB2.size (.cells (pcL ⟨1, n - at_ - k, ⟨#[]⟩⟩).toArray 132)).grown hg3 (by have := hB2.size; simp; try omega) (fun k hk => (hv2.lt k hk).1); have hv3 := POwn.snoc hw3) | (at_builtin; refine wpList_append_own _ rfl _ _ 32 rfl w.heap.size 132 i0 _ 3 32 Tryz.underlying32 hi hz0 hz1 hz2 rfl (by decide) _ _ _ rfl ((hv1.alloc _)) ⟨_, 0, none⟩ 1 1 (pcL ⟨2, 0, t⟩) rfl rfl (pieces_new _ _ _) (pcL_ones _) (by unfold maxLen; first | omega | (simp only [List.length_append, List.length_cons, List.length_nil]; done) | (simp only [List.length_append, List.length_cons, List.length_nil]; omega)) (by first | omega | (simp only [List.length_append, List.length_cons, List.length_nil]; done) | (simp only [List.length_append, List.length_cons, List.length_nil]; omega)) (by have := hB1.size; simp; try omega) ?_; intro v2 w20 hw2 hg2 _; have hB2 := (hB1.alloc hB1.size (.cells (pcL ⟨2, 0, t⟩).toArray 132)).grown hg2 (by have := hB1.size; simp; try omega) (fun k hk => (hv1.lt k hk).1); have hv2 := POwn.snoc hw2) | (at_builtin; refine wpList_append_own _ rfl _ _ 32 rfl w.heap.size 132 i0 _ 3 32 Tryz.underlying32 hi hz0 hz1 hz2 rfl (by decide) _ _ _ rfl ((World.ownsRow_nil _ _ _ _)) ⟨_, 0, none⟩ 1 1 (pcL ⟨1, at_, ⟨#[]⟩⟩) rfl rfl (pieces_new _ _ _) (pcL_ones _) (by unfold maxLen; first | omega | (simp only [List.length_append, List.length_cons, List.length_nil]; done) | (simp only [List.length_append, List.length_cons, List.length_nil]; omega)) (by first | omega | (simp only [List.length_append, List.length_cons, List.length_nil]; done) | (simp only [List.length_append, List.length_cons, List.length_nil]; omega)) (by have := (Below.refl w.heap.size w).size; simp; try omega) ?_; intro v1 w10 hw1 hg1 _; have hB1 := ((Below.refl w.heap.size w).alloc (Below.refl w.heap.size w).size (.cells (pcL ⟨1, at_, ⟨#[]⟩⟩).toArray 132)).grown hg1 (by have := (Below.refl w.heap.size w).size; simp; try omega) (fun k hk => by cases hk); have hv1 := POwn.snoc (d := []) hw1))
        go_returns
        exact ⟨_, rfl, by rw [HD.out]; exact own_mono hB3.size hof, hBF⟩
      · have d2 : decide (at_ + k < n) = false := by simpa using hr0
        have hD : repD n at_ k t = [] ++ [(⟨1, at_, ⟨#[]⟩⟩ : PcV)] ++ [(⟨2, 0, t⟩ : PcV)] := by
          unfold repD
          rw [if_pos ha0, if_pos (show t.size ≠ 0 by omega), if_neg (show ¬ 0 < k by omega), if_neg (show ¬ 0 < n - at_ - k by omega)]; rfl
        rw [hD] at fo
        have HD := Lib.hid hD; have FO := Lib.hid fo
        clear hD fo hd ha h1 h2 h3 h4 h5 h6 ha0 hr0 hm ht
        go_enter Tryz.func98, Tryz.ntmps98
        go_wp2_with (first | (go_at_call 130; obtain ⟨af, cf, hvf⟩ := own_slice hv2; subst hvf; refine (FO.out _ af cf (prow_own rfl hv2).1 (prow_own rfl hv2).2).mono ?_; rintro e wf ⟨vf, rfl, hof, hBf⟩; obtain ⟨aof, cof, rfl⟩ := own_slice hof; have hBF := hB2.trans (hBf.mono hB2.size)) | (at_builtin; refine wpList_append_own _ rfl _ _ 32 rfl w.heap.size 132 i0 _ 3 32 Tryz.underlying32 hi hz0 hz1 hz2 rfl (by decide) _ _ _ rfl ((hv1.alloc _)) ⟨_, 0, none⟩ 1 1 (pcL ⟨2, 0, t⟩) rfl rfl (pieces_new _ _ _) (pcL_ones _) (by unfold maxLen; first | omega | (simp only [List.length_append, List.length_cons, List.length_nil]; done) | (simp only [List.length_append, List.length_cons, List.length_nil]; omega)) (by first | omega | (simp only [List.length_append, List.length_cons, List.length_nil]; done) | (simp only [List.length_append, List.length_cons, List.length_nil]; omega)) (by have := hB1.size; simp; try omega) ?_; intro v2 w20 hw2 hg2 _; have hB2 := (hB1.alloc hB1.size (.cells (pcL ⟨2, 0, t⟩).toArray 132)).grown hg2 (by have := hB1.size; simp; try omega) (fun k hk => (hv1.lt k hk).1); have hv2 := POwn.snoc hw2) | (at_builtin; refine wpList_append_own _ rfl _ _ 32 rfl w.heap.size 132 i0 _ 3 32 Tryz.underlying32 hi hz0 hz1 hz2 rfl (by decide) _ _ _ rfl ((World.ownsRow_nil _ _ _ _)) ⟨_, 0, none⟩ 1 1 (pcL ⟨1, at_, ⟨#[]⟩⟩) rfl rfl (pieces_new _ _ _) (pcL_ones _) (by unfold maxLen; first | omega | (simp only [List.length_append, List.length_cons, List.length_nil]; done) | (simp only [List.length_append, List.length_cons, List.length_nil]; omega)) (by first | omega | (simp only [List.length_append, List.length_cons, List.length_nil]; done) | (simp only [List.length_append, List.length_cons, List.length_nil]; omega)) (by have := (Below.refl w.heap.size w).size; simp; try omega) ?_; intro v1 w10 hw1 hg1 _; have hB1 := ((Below.refl w.heap.size w).alloc (Below.refl w.heap.size w).size (.cells (pcL ⟨1, at_, ⟨#[]⟩⟩).toArray 132)).grown hg1 (by have := (Below.refl w.heap.size w).size; simp; try omega) (fun k hk => by cases hk); have hv1 := POwn.snoc (d := []) hw1))
        go_returns
        exact ⟨_, rfl, by rw [HD.out]; exact own_mono hB2.size hof, hBF⟩
    · have d1 : decide (0 < at_) = false := by simpa using ha0
      by_cases hr0 : at_ + k < n
      · have d2 : decide (at_ + k < n) = true := by simpa using hr0
        have hD : repD n at_ k t = [] ++ [(⟨2, 0, t⟩ : PcV)] ++ [(⟨1, n - at_ - k, ⟨#[]⟩⟩ : PcV)] := by
          unfold repD
          rw [if_neg ha0, if_pos (show t.size ≠ 0 by omega), if_neg (show ¬ 0 < k by omega), if_pos (show 0 < n - at_ - k by omega)]; rfl
        rw [hD] at fo
        have HD := Lib.hid hD; have FO := Lib.hid fo
        clear hD fo hd ha h1 h2 h3 h4 h5 h6 ha0 hr0 hm ht
        go_enter Tryz.func98, Tryz.ntmps98
        go_wp2_with (first | (go_at_call 130; obtain ⟨af, cf, hvf⟩ := own_slice hv2; subst hvf; refine (FO.out _ af cf (prow_own rfl hv2).1 (prow_own rfl hv2).2).mono ?_; rintro e wf ⟨vf, rfl, hof, hBf⟩; obtain ⟨aof, cof, rfl⟩ := own_slice hof; have hBF := hB2.trans (hBf.mono hB2.size)) | (at_builtin; refine wpList_append_own _ rfl _ _ 32 rfl w.heap.size 132 i0 _ 3 32 Tryz.underlying32 hi hz0 hz1 hz2 rfl (by decide) _ _ _ rfl ((hv1.alloc _)) ⟨_, 0, none⟩ 1 1 (pcL ⟨1, n - at_ - k, ⟨#[]⟩⟩) rfl rfl (pieces_new _ _ _) (pcL_ones _) (by unfold maxLen; first | omega | (simp only [List.length_append, List.length_cons, List.length_nil]; done) | (simp only [List.length_append, List.length_cons, List.length_nil]; omega)) (by first | omega | (simp only [List.length_append, List.length_cons, List.length_nil]; done) | (simp only [List.length_append, List.length_cons, List.length_nil]; omega)) (by have := hB1.size; simp; try omega) ?_; intro v2 w20 hw2 hg2 _; have hB2 := (hB1.alloc hB1.size (.cells (pcL ⟨1, n - at_ - k, ⟨#[]⟩⟩).toArray 132)).grown hg2 (by have := hB1.size; simp; try omega) (fun k hk => (hv1.lt k hk).1); have hv2 := POwn.snoc hw2) | (at_builtin; refine wpList_append_own _ rfl _ _ 32 rfl w.heap.size 132 i0 _ 3 32 Tryz.underlying32 hi hz0 hz1 hz2 rfl (by decide) _ _ _ rfl ((World.ownsRow_nil _ _ _ _)) ⟨_, 0, none⟩ 1 1 (pcL ⟨2, 0, t⟩) rfl rfl (pieces_new _ _ _) (pcL_ones _) (by unfold maxLen; first | omega | (simp only [List.length_append, List.length_cons, List.length_nil]; done) | (simp only [List.length_append, List.length_cons, List.length_nil]; omega)) (by first | omega | (simp only [List.length_append, List.length_cons, List.length_nil]; done) | (simp only [List.length_append, List.length_cons, List.length_nil]; omega)) (by have := (Below.refl w.heap.size w).size; simp; try omega) ?_; intro v1 w10 hw1 hg1 _; have hB1 := ((Below.refl w.heap.size w).alloc (Below.refl w.heap.size w).size (.cells (pcL ⟨2, 0, t⟩).toArray 132)).grown hg1 (by have := (Below.refl w.heap.size w).size; simp; try omega) (fun k hk => by cases hk); have hv1 := POwn.snoc (d := []) hw1))
        go_returns
        exact ⟨_, rfl, by rw [HD.out]; exact own_mono hB2.size hof, hBF⟩
      · have d2 : decide (at_ + k < n) = false := by simpa using hr0
        have hD : repD n at_ k t = [] ++ [(⟨2, 0, t⟩ : PcV)] := by
          unfold repD
          rw [if_neg ha0, if_pos (show t.size ≠ 0 by omega), if_neg (show ¬ 0 < k by omega), if_neg (show ¬ 0 < n - at_ - k by omega)]; rfl
        rw [hD] at fo
        have HD := Lib.hid hD; have FO := Lib.hid fo
        clear hD fo hd ha h1 h2 h3 h4 h5 h6 ha0 hr0 hm ht
        go_enter Tryz.func98, Tryz.ntmps98
        go_wp2_with (first | (go_at_call 130; obtain ⟨af, cf, hvf⟩ := own_slice hv1; subst hvf; refine (FO.out _ af cf (prow_own rfl hv1).1 (prow_own rfl hv1).2).mono ?_; rintro e wf ⟨vf, rfl, hof, hBf⟩; obtain ⟨aof, cof, rfl⟩ := own_slice hof; have hBF := hB1.trans (hBf.mono hB1.size)) | (at_builtin; refine wpList_append_own _ rfl _ _ 32 rfl w.heap.size 132 i0 _ 3 32 Tryz.underlying32 hi hz0 hz1 hz2 rfl (by decide) _ _ _ rfl ((World.ownsRow_nil _ _ _ _)) ⟨_, 0, none⟩ 1 1 (pcL ⟨2, 0, t⟩) rfl rfl (pieces_new _ _ _) (pcL_ones _) (by unfold maxLen; first | omega | (simp only [List.length_append, List.length_cons, List.length_nil]; done) | (simp only [List.length_append, List.length_cons, List.length_nil]; omega)) (by first | omega | (simp only [List.length_append, List.length_cons, List.length_nil]; done) | (simp only [List.length_append, List.length_cons, List.length_nil]; omega)) (by have := (Below.refl w.heap.size w).size; simp; try omega) ?_; intro v1 w10 hw1 hg1 _; have hB1 := ((Below.refl w.heap.size w).alloc (Below.refl w.heap.size w).size (.cells (pcL ⟨2, 0, t⟩).toArray 132)).grown hg1 (by have := (Below.refl w.heap.size w).size; simp; try omega) (fun k hk => by cases hk); have hv1 := POwn.snoc (d := []) hw1))
        go_returns
        exact ⟨_, rfl, by rw [HD.out]; exact own_mono hB1.size hof, hBF⟩
  · have ht : t.size = 0 := by omega
    have hm2 : decide (0 < k) = true := by simp; omega
    have e1 : t.toList.isEmpty = true := by rw [te2]; omega
    have e2 : t.toList = [] := List.isEmpty_iff.1 e1
    by_cases ha0 : 0 < at_
    · have d1 : decide (0 < at_) = true := by simpa using ha0
      by_cases hr0 : at_ + k < n
      · have d2 : decide (at_ + k < n) = true := by simpa using hr0
        have hD : repD n at_ k t = [] ++ [(⟨1, at_, ⟨#[]⟩⟩ : PcV)] ++ [(⟨3, k, ⟨#[]⟩⟩ : PcV)] ++ [(⟨1, n - at_ - k, ⟨#[]⟩⟩ : PcV)] := by
          unfold repD
          rw [if_pos ha0, if_neg (show ¬ t.size ≠ 0 by omega), if_pos (show 0 < k by omega), if_pos (show 0 < n - at_ - k by omega)]; rfl
        rw [hD] at fo
        have HD := Lib.hid hD; have FO := Lib.hid fo
        clear hD fo hd ha h1 h2 h3 h4 h5 h6 ha0 hr0 hm ht
        go_enter Tryz.func98, Tryz.ntmps98
        go_wp2_with (first | (go_at_call 130; obtain ⟨af, cf, hvf⟩ := own_slice hv3; subst hvf; refine (FO.out _ af cf (prow_own rfl hv3).1 (prow_own rfl hv3).2).mono ?_; rintro e wf ⟨vf, rfl, hof, hBf⟩; obtain ⟨aof, cof, rfl⟩ := own_slice hof; have hBF := hB3.trans (hBf.mono hB3.size)) | (at_builtin; refine wpList_append_own _ rfl _ _ 32 rfl w.heap.size 132 i0 _ 3 32 Tryz.underlying32 hi hz0 hz1 hz2 rfl (by decide) _ _ _ rfl ((hv2.alloc _)) ⟨_, 0, none⟩ 1 1 (pcL ⟨1, n - at_ - k, ⟨#[]⟩⟩) rfl rfl (pieces_new _ _ _) (pcL_ones _) (by unfold maxLen; first | omega | (simp only [List.length_append, List.length_cons, List.length_nil]; done) | (simp only [List.length_append, List.length_cons, List.length_nil]; omega)) (by first | omega | (simp only [List.length_append, List.length_cons, List.length_nil]; done) | (simp only [List.length_append, List.length_cons, List.length_nil]; omega)) (by have := hB2.size; simp; try omega) ?_; intro v3 w30 hw3 hg3 _; have hB3 := (hB2.alloc hB2.size (.cells (pcL ⟨1, n - at_ - k, ⟨#[]⟩⟩).toArray 132)).grown hg3 (by have := hB2.size; simp; try omega) (fun k hk => (hv2.lt k hk).1); have hv3 := POwn.snoc hw3) | (at_builtin; refine wpList_append_own _ rfl _ _ 32 rfl w.heap.size 132 i0 _ 3 32 Tryz.underlying32 hi hz0 hz1 hz2 rfl (by decide) _ _ _ rfl ((hv1.alloc _)) ⟨_, 0, none⟩ 1 1 (pcL ⟨3, k, ⟨#[]⟩⟩) rfl rfl (pieces_new _ _ _) (pcL_ones _) (by unfold maxLen; first | omega | (simp only [List.length_append, List.length_cons, List.length_nil]; done) | (simp only [List.length_append, List.length_cons, List.length_nil]; omega)) (by first | omega | (simp only [List.length_append, List.length_cons, List.length_nil]; done) | (simp only [List.length_append, List.length_cons, List.length_nil]; omega)) (by have := hB1.size; simp; try omega) ?_; intro v2 w20 hw2 hg2 _; have hB2 := (hB1.alloc hB1.size (.cells (pcL ⟨3, k, ⟨#[]⟩⟩).toArray 132)).grown hg2 (by have := hB1.size; simp; try omega) (fun k hk => (hv1.lt k hk).1); have hv2 := POwn.snoc hw2) | (at_builtin; refine wpList_append_own _ rfl _ _ 32 rfl w.heap.size 132 i0 _ 3 32 Tryz.underlying32 hi hz0 hz1 hz2 rfl (by decide) _ _ _ rfl ((World.ownsRow_nil _ _ _ _)) ⟨_, 0, none⟩ 1 1 (pcL ⟨1, at_, ⟨#[]⟩⟩) rfl rfl (pieces_new _ _ _) (pcL_ones _) (by unfold maxLen; first | omega | (simp only [List.length_append, List.length_cons, List.length_nil]; done) | (simp only [List.length_append, List.length_cons, List.length_nil]; omega)) (by first | omega | (simp only [List.length_append, List.length_cons, List.length_nil]; done) | (simp only [List.length_append, List.length_cons, List.length_nil]; omega)) (by have := (Below.refl w.heap.size w).size; simp; try omega) ?_; intro v1 w10 hw1 hg1 _; have hB1 := ((Below.refl w.heap.size w).alloc (Below.refl w.heap.size w).size (.cells (pcL ⟨1, at_, ⟨#[]⟩⟩).toArray 132)).grown hg1 (by have := (Below.refl w.heap.size w).size; simp; try omega) (fun k hk => by cases hk); have hv1 := POwn.snoc (d := []) hw1))
        go_returns
        exact ⟨_, rfl, by rw [HD.out]; exact own_mono hB3.size hof, hBF⟩
      · have d2 : decide (at_ + k < n) = false := by simpa using hr0
        have hD : repD n at_ k t = [] ++ [(⟨1, at_, ⟨#[]⟩⟩ : PcV)] ++ [(⟨3, k, ⟨#[]⟩⟩ : PcV)] := by
          unfold repD
          rw [if_pos ha0, if_neg (show ¬ t.size ≠ 0 by omega), if_pos (show 0 < k by omega), if_neg (show ¬ 0 < n - at_ - k by omega)]; rfl
        rw [hD] at fo
        have HD := Lib.hid hD; have FO := Lib.hid fo
        clear hD fo hd ha h1 h2 h3 h4 h5 h6 ha0 hr0 hm ht
        go_enter Tryz.func98, Tryz.ntmps98
        go_wp2_with (first | (go_at_call 130; obtain ⟨af, cf, hvf⟩ := own_slice hv2; subst hvf; refine (FO.out _ af cf (prow_own rfl hv2).1 (prow_own rfl hv2).2).mono ?_; rintro e wf ⟨vf, rfl, hof, hBf⟩; obtain ⟨aof, cof, rfl⟩ := own_slice hof; have hBF := hB2.trans (hBf.mono hB2.size)) | (at_builtin; refine wpList_append_own _ rfl _ _ 32 rfl w.heap.size 132 i0 _ 3 32 Tryz.underlying32 hi hz0 hz1 hz2 rfl (by decide) _ _ _ rfl ((hv1.alloc _)) ⟨_, 0, none⟩ 1 1 (pcL ⟨3, k, ⟨#[]⟩⟩) rfl rfl (pieces_new _ _ _) (pcL_ones _) (by unfold maxLen; first | omega | (simp only [List.length_append, List.length_cons, List.length_nil]; done) | (simp only [List.length_append, List.length_cons, List.length_nil]; omega)) (by first | omega | (simp only [List.length_append, List.length_cons, List.length_nil]; done) | (simp only [List.length_append, List.length_cons, List.length_nil]; omega)) (by have := hB1.size; simp; try omega) ?_; intro v2 w20 hw2 hg2 _; have hB2 := (hB1.alloc hB1.size (.cells (pcL ⟨3, k, ⟨#[]⟩⟩).toArray 132)).grown hg2 (by have := hB1.size; simp; try omega) (fun k hk => (hv1.lt k hk).1); have hv2 := POwn.snoc hw2) | (at_builtin; refine wpList_append_own _ rfl _ _ 32 rfl w.heap.size 132 i0 _ 3 32 Tryz.underlying32 hi hz0 hz1 hz2 rfl (by decide) _ _ _ rfl ((World.ownsRow_nil _ _ _ _)) ⟨_, 0, none⟩ 1 1 (pcL ⟨1, at_, ⟨#[]⟩⟩) rfl rfl (pieces_new _ _ _) (pcL_ones _) (by unfold maxLen; first | omega | (simp only [List.length_append, List.length_cons, List.length_nil]; done) | (simp only [List.length_append, List.length_cons, List.length_nil]; omega)) (by first | omega | (simp only [List.length_append, List.length_cons, List.length_nil]; done) | (simp only [List.length_append, List.length_cons, List.length_nil]; omega)) (by have := (Below.refl w.heap.size w).size; simp; try omega) ?_; intro v1 w10 hw1 hg1 _; have hB1 := ((Below.refl w.heap.size w).alloc (Below.refl w.heap.size w).size (.cells (pcL ⟨1, at_, ⟨#[]⟩⟩).toArray 132)).grown hg1 (by have := (Below.refl w.heap.size w).size; simp; try omega) (fun k hk => by cases hk); have hv1 := POwn.snoc (d := []) hw1))
        go_returns
        exact ⟨_, rfl, by rw [HD.out]; exact own_mono hB2.size hof, hBF⟩
    · have d1 : decide (0 < at_) = false := by simpa using ha0
      by_cases hr0 : at_ + k < n
      · have d2 : decide (at_ + k < n) = true := by simpa using hr0
        have hD : repD n at_ k t = [] ++ [(⟨3, k, ⟨#[]⟩⟩ : PcV)] ++ [(⟨1, n - at_ - k, ⟨#[]⟩⟩ : PcV)] := by
          unfold repD
          rw [if_neg ha0, if_neg (show ¬ t.size ≠ 0 by omega), if_pos (show 0 < k by omega), if_pos (show 0 < n - at_ - k by omega)]; rfl
        rw [hD] at fo
        have HD := Lib.hid hD; have FO := Lib.hid fo
        clear hD fo hd ha h1 h2 h3 h4 h5 h6 ha0 hr0 hm ht
        go_enter Tryz.func98, Tryz.ntmps98
        go_wp2_with (first | (go_at_call 130; obtain ⟨af, cf, hvf⟩ := own_slice hv2; subst hvf; refine (FO.out _ af cf (prow_own rfl hv2).1 (prow_own rfl hv2).2).mono ?_; rintro e wf ⟨vf, rfl, hof, hBf⟩; obtain ⟨aof, cof, rfl⟩ := own_slice hof; have hBF := hB2.trans (hBf.mono hB2.size)) | (at_builtin; refine wpList_append_own _ rfl _ _ 32 rfl w.heap.size 132 i0 _ 3 32 Tryz.underlying32 hi hz0 hz1 hz2 rfl (by decide) _ _ _ rfl ((hv1.alloc _)) ⟨_, 0, none⟩ 1 1 (pcL ⟨1, n - at_ - k, ⟨#[]⟩⟩) rfl rfl (pieces_new _ _ _) (pcL_ones _) (by unfold maxLen; first | omega | (simp only [List.length_append, List.length_cons, List.length_nil]; done) | (simp only [List.length_append, List.length_cons, List.length_nil]; omega)) (by first | omega | (simp only [List.length_append, List.length_cons, List.length_nil]; done) | (simp only [List.length_append, List.length_cons, List.length_nil]; omega)) (by have := hB1.size; simp; try omega) ?_; intro v2 w20 hw2 hg2 _; have hB2 := (hB1.alloc hB1.size (.cells (pcL ⟨1, n - at_ - k, ⟨#[]⟩⟩).toArray 132)).grown hg2 (by have := hB1.size; simp; try omega) (fun k hk => (hv1.lt k hk).1); have hv2 := POwn.snoc hw2) | (at_builtin; refine wpList_append_own _ rfl _ _ 32 rfl w.heap.size 132 i0 _ 3 32 Tryz.underlying32 hi hz0 hz1 hz2 rfl (by decide) _ _ _ rfl ((World.ownsRow_nil _ _ _ _)) ⟨_, 0, none⟩ 1 1 (pcL ⟨3, k, ⟨#[]⟩⟩) rfl rfl (pieces_new _ _ _) (pcL_ones _) (by unfold maxLen; first | omega | (simp only [List.length_append, List.length_cons, List.length_nil]; done) | (simp only [List.length_append, List.length_cons, List.length_nil]; omega)) (by first | omega | (simp only [List.length_append, List.length_cons, List.length_nil]; done) | (simp only [List.length_append, List.length_cons, List.length_nil]; omega)) (by have := (Below.refl w.heap.size w).size; simp; try omega) ?_; intro v1 w10 hw1 hg1 _; have hB1 := ((Below.refl w.heap.size w).alloc (Below.refl w.heap.size w).size (.cells (pcL ⟨3, k, ⟨#[]⟩⟩).toArray 132)).grown hg1 (by have := (Below.refl w.heap.size w).size; simp; try omega) (fun k hk => by cases hk); have hv1 := POwn.snoc (d := []) hw1))
        go_returns
        exact ⟨_, rfl, by rw [HD.out]; exact own_mono hB2.size hof, hBF⟩
      · have d2 : decide (at_ + k < n) = false := by simpa using hr0
        have hD : repD n at_ k t = [] ++ [(⟨3, k, ⟨#[]⟩⟩ : PcV)] := by
          unfold repD
          rw [if_neg ha0, if_neg (show ¬ t.size ≠ 0 by omega), if_pos (show 0 < k by omega), if_neg (show ¬ 0 < n - at_ - k by omega)]; rfl
        rw [hD] at fo
        have HD := Lib.hid hD; have FO := Lib.hid fo
        clear hD fo hd ha h1 h2 h3 h4 h5 h6 ha0 hr0 hm ht
        go_enter Tryz.func98, Tryz.ntmps98
        go_wp2_with (first | (go_at_call 130; obtain ⟨af, cf, hvf⟩ := own_slice hv1; subst hvf; refine (FO.out _ af cf (prow_own rfl hv1).1 (prow_own rfl hv1).2).mono ?_; rintro e wf ⟨vf, rfl, hof, hBf⟩; obtain ⟨aof, cof, rfl⟩ := own_slice hof; have hBF := hB1.trans (hBf.mono hB1.size)) | (at_builtin; refine wpList_append_own _ rfl _ _ 32 rfl w.heap.size 132 i0 _ 3 32 Tryz.underlying32 hi hz0 hz1 hz2 rfl (by decide) _ _ _ rfl ((World.ownsRow_nil _ _ _ _)) ⟨_, 0, none⟩ 1 1 (pcL ⟨3, k, ⟨#[]⟩⟩) rfl rfl (pieces_new _ _ _) (pcL_ones _) (by unfold maxLen; first | omega | (simp only [List.length_append, List.length_cons, List.length_nil]; done) | (simp only [List.length_append, List.length_cons, List.length_nil]; omega)) (by first | omega | (simp only [List.length_append, List.length_cons, List.length_nil]; done) | (simp only [List.length_append, List.length_cons, List.length_nil]; omega)) (by have := (Below.refl w.heap.size w).size; simp; try omega) ?_; intro v1 w10 hw1 hg1 _; have hB1 := ((Below.refl w.heap.size w).alloc (Below.refl w.heap.size w).size (.cells (pcL ⟨3, k, ⟨#[]⟩⟩).toArray 132)).grown hg1 (by have := (Below.refl w.heap.size w).size; simp; try omega) (fun k hk => by cases hk); have hv1 := POwn.snoc (d := []) hw1))
        go_returns
        exact ⟨_, rfl, by rw [HD.out]; exact own_mono hB1.size hof, hBF⟩
end Go.Proofs.YtlealeecmmpckaaGreat
namespace Go.Proofs.YtlealeecmmpckaaGreat
set_option linter.unusedVariables false
set_option linter.unusedSimpArgs false
set_option maxRecDepth 100000
set_option maxHeartbeats 8000000
open Go.RowKit Go.Lib Go.Shelf
structure RunV where
  i : Int
  o : Int
  n : Int
structure RnS where
  l : List RunV
  i : Int
  o : Int
def rnStep (s : RnS) (p : PcV) : RnS := ⟨if p.kind = 1 then s.l ++ [⟨s.i, s.o, p.n⟩] else s.l, s.i + p.n, s.o + p.text.size + if p.kind = 1 then p.n else 0⟩
def rnS (d : List PcV) : RnS := d.foldl rnStep ⟨[], 0, 0⟩
theorem rnS_take {d : List PcV} {k : Nat} {p : PcV} (h : d[k]? = some p) : rnS (d.take (k + 1)) = rnStep (rnS (d.take k)) p := by
  unfold rnS; rw [List.take_add_one, h, Option.toList_some, List.foldl_append]; rfl
def RunOK (r : RunV) : Prop := (0 ≤ r.i ∧ r.i ≤ 1000000) ∧ (0 ≤ r.o ∧ r.o ≤ 1000000) ∧ 0 ≤ r.n ∧ r.n ≤ 1000000
theorem rnS_ok {d : List PcV} (h : DOK d) : ∀ k, k ≤ d.length → (0 ≤ (rnS (d.take k)).i ∧ (rnS (d.take k)).i ≤ k * 100000) ∧ (0 ≤ (rnS (d.take k)).o ∧ (rnS (d.take k)).o ≤ k * 200000) ∧ (rnS (d.take k)).l.length ≤ k ∧ ∀ r ∈ (rnS (d.take k)).l, RunOK r
  | 0, _ => by simp [rnS]
  | k + 1, hk => by
    have hx := List.getElem?_eq_getElem (show k < d.length by omega)
    generalize d[k] = p at hx
    obtain ⟨h1, h2, h3⟩ := h.2 p (List.mem_of_getElem? hx)
    obtain ⟨h4, h5⟩ := pc_bounds h1
    obtain ⟨i1, i2, i3, i4⟩ := rnS_ok h k (by omega)
    have h6 := h.1
    rw [rnS_take hx]
    unfold rnStep
    refine ⟨by dsimp only; omega, by dsimp only; split <;> omega, ?_, ?_⟩
    · dsimp only; split
      · rw [List.length_append, List.length_singleton]; omega
      · omega
    · dsimp only; split
      · intro r hr
        rcases List.mem_append.1 hr with hr | hr
        · exact i4 r hr
        · rw [List.mem_singleton] at hr; subst hr
          exact ⟨by dsimp only; omega, by dsimp only; omega, by dsimp only; omega⟩
      · exact i4
def rnL (r : RunV) : List Value := [.int .i64 r.i, .int .i64 r.o, .int .i64 r.n]
def rnsL (l : List RunV) : List Value := l.flatMap rnL
theorem rnL_len (r : RunV) : (rnL r).length = 3 := rfl
abbrev RnOwn (W : World) (B : Nat) (v : Value) (l : List RunV) : Prop := W.ownsRow B 211 3 v l.length (rnsL l)
theorem RnOwn.snoc {W : World} {B : Nat} {v : Value} {l : List RunV} {r : RunV} (h : W.ownsRow B 211 3 v (l.length + 1) (rnsL l ++ rnL r)) : RnOwn W B v (l ++ [r]) := by
  show W.ownsRow B 211 3 v (l ++ [r]).length (rnsL (l ++ [r]))
  rw [List.length_append]; unfold rnsL at *; rw [List.flatMap_append]; simpa using h
theorem infoRn : (Tryz.prog.info? 211).map (fun i => (i.zero, i.size, i.bytes)) = some (some (.agg #[.int .i64 0, .int .i64 0, .int .i64 0]), 3, 24) := by kernel_rfl
theorem rnL_ones (r : RunV) : ∀ u ∈ rnL r, u.oneCell' = true := by
  intro u hu
  unfold rnL at hu
  simp only [List.mem_cons, List.not_mem_nil, or_false] at hu
  rcases hu with rfl | rfl | rfl <;> rfl
theorem flat_getR (s : Nat) (hs : s < 3) : ∀ (l : List RunV) (k : Nat) (r : RunV), l[k]? = some r → (rnsL l)[k * 3 + s]? = (rnL r)[s]?
  | [], k, _, h => by simp at h
  | y :: l, 0, r, h => by
    simp at h; subst h
    show (rnL y ++ rnsL l)[0 * 3 + s]? = _
    rw [List.getElem?_append_left (by rw [rnL_len]; omega)]; simp
  | y :: l, k + 1, r, h => by
    show (rnL y ++ rnsL l)[(k + 1) * 3 + s]? = _
    rw [List.getElem?_append_right (by rw [rnL_len]; omega), rnL_len, show (k + 1) * 3 + s - 3 = k * 3 + s by omega]
    exact flat_getR s hs l k r (by simpa using h)
theorem rn_at {W : World} {B g c k : Nat} {l : List RunV} {r : RunV} (h : RnOwn W B (.slice (some ⟨g, 0, none⟩) l.length c) l) (hk : l[k]? = some r) :
    W.cell? ⟨g, k * 3, none⟩ = some (.int .i64 r.i) ∧ W.cell? ⟨g, k * 3 + 1, none⟩ = some (.int .i64 r.o) ∧ W.cell? ⟨g, k * 3 + 2, none⟩ = some (.int .i64 r.n) := by
  have hl := (List.getElem?_eq_some_iff.1 hk).1
  have e : ∀ j, j < 3 → W.cell? ⟨g, k * 3 + j, none⟩ = (rnL r)[j]? := fun j hj => by
    rw [h.cellAt (k * 3 + j) (by omega)]
    exact flat_getR j hj l k r hk
  exact ⟨e 0 (by omega), e 1 (by omega), e 2 (by omega)⟩
def RnI (w : World) (ad : Option Addr) (d : List PcV) (c : Nat) (a : Act) (wr : World) : Prop :=
  ∃ (k : Nat) (v : Value) (u : Nat → Value), a = { tmps := #[.slice ad d.length c, u 1, u 2, v, .int .i64 (rnS (d.take k)).i, .int .i64 (rnS (d.take k)).o, .int .i64 k, u 7, u 8, u 9, u 10, u 11, u 12, u 13, u 14, u 15, u 16, u 17, u 18, u 19, u 20, u 21, u 22, u 23, u 24, u 25, u 26, u 27, u 28, u 29, u 30, u 31, u 32, u 33, u 34, u 35, u 36, u 37, u 38, u 39, u 40, u 41, u 42, u 43, u 44, u 45, u 46, u 47, u 48, u 49, u 50, u 51, u 52], defers := [] } ∧ k ≤ d.length ∧ RnOwn wr w.heap.size v (rnS (d.take k)).l ∧ Below w.heap.size w wr
theorem RnI.intro {w : World} {ad : Option Addr} {d : List PcV} {c : Nat} {a : Act} {wr : World} (k : Nat) (v : Value) (h : a = { tmps := #[.slice ad d.length c, a.tmps.getD 1 undef, a.tmps.getD 2 undef, v, .int .i64 (rnS (d.take k)).i, .int .i64 (rnS (d.take k)).o, .int .i64 k, a.tmps.getD 7 undef, a.tmps.getD 8 undef, a.tmps.getD 9 undef, a.tmps.getD 10 undef, a.tmps.getD 11 undef, a.tmps.getD 12 undef, a.tmps.getD 13 undef, a.tmps.getD 14 undef, a.tmps.getD 15 undef, a.tmps.getD 16 undef, a.tmps.getD 17 undef, a.tmps.getD 18 undef, a.tmps.getD 19 undef, a.tmps.getD 20 undef, a.tmps.getD 21 undef, a.tmps.getD 22 undef, a.tmps.getD 23 undef, a.tmps.getD 24 undef, a.tmps.getD 25 undef, a.tmps.getD 26 undef, a.tmps.getD 27 undef, a.tmps.getD 28 undef, a.tmps.getD 29 undef, a.tmps.getD 30 undef, a.tmps.getD 31 undef, a.tmps.getD 32 undef, a.tmps.getD 33 undef, a.tmps.getD 34 undef, a.tmps.getD 35 undef, a.tmps.getD 36 undef, a.tmps.getD 37 undef, a.tmps.getD 38 undef, a.tmps.getD 39 undef, a.tmps.getD 40 undef, a.tmps.getD 41 undef, a.tmps.getD 42 undef, a.tmps.getD 43 undef, a.tmps.getD 44 undef, a.tmps.getD 45 undef, a.tmps.getD 46 undef, a.tmps.getD 47 undef, a.tmps.getD 48 undef, a.tmps.getD 49 undef, a.tmps.getD 50 undef, a.tmps.getD 51 undef, a.tmps.getD 52 undef], defers := [] }) (hk : k ≤ d.length) (h1 : RnOwn wr w.heap.size v (rnS (d.take k)).l) (hB : Below w.heap.size w wr) : RnI w ad d c a wr := ⟨k, v, fun i => a.tmps.getD i undef, h, hk, h1, hB⟩
theorem refRuns_ok (ad : Option Addr) (c : Nat) (d : List PcV) (w : World) (hr : PRow w ad d) (hd : DOK d) (hc : d.length ≤ c) : Calls Tryz.prog 166 #[.slice ad d.length c] w fun e w' => ∃ v, e = .returned v ∧ RnOwn w' w.heap.size v (rnS d).l ∧ Below w.heap.size w w' := by
  obtain ⟨i0, hi, hz0, hz1, hz2⟩ := info_parts infoRn
  have h4 := hd.1
  go_enter Tryz.func166, Tryz.ntmps166
  go_wp2
  refine wp_loop (RnI w ad d c) (fun a _ => d.length - (intOf (a.tmps.getD 6 undef)).toNat) ?_ ?_
  · exact RnI.intro 0 (.slice none 0 0) rfl (by omega) (World.ownsRow_nil _ _ _ _) (Below.refl _ _)
  · rintro a wr ⟨k, v, u, rfl, hk, hv, hB⟩
    obtain ⟨⟨x0, x1⟩, ⟨y0, y1⟩, hll, _⟩ := rnS_ok hd k hk
    by_cases hlt : k < d.length
    · have hg := List.getElem?_eq_getElem hlt
      generalize d[k] = p at hg
      obtain ⟨hp1, hp2, hp3⟩ := hd.2 p (List.mem_of_getElem? hg)
      obtain ⟨hn0, hkd⟩ := pc_bounds hp1
      have hst := rnS_take hg
      have HR5 : ∀ W, Below w.heap.size w W → PRow W ad d := fun W hW => hr.on hW
      rcases hr.on hB with ⟨_, h2⟩ | ⟨b, off, rfl, hb, hcell⟩
      · rw [h2] at hlt; simp at hlt
      obtain ⟨c0, c1, c2⟩ := pc_at hcell hg
      generalize hX : rnS (d.take k) = X at *
      have hts : (p.text.size : Int) ≤ 100000 := by omega
      have HG := Lib.hid hg
      have HST := Lib.hid hst
      have hBz := hB.size
      clear hX hst hg hcell hr hp1
      by_cases e : p.kind = 1
      · have e1 : (p.kind == 1) = true := by simpa using e
        have hs : rnStep X p = ⟨X.l ++ [⟨X.i, X.o, p.n⟩], X.i + p.n, X.o + p.text.size + p.n⟩ := by unfold rnStep; rw [if_pos e, if_pos e]
        have HS := Lib.hid hs
        have e2 : X.o + p.n + (p.text.size : Int) = X.o + p.text.size + p.n := by omega
        have HE := Lib.hid e2
        clear e e2 hs
        go_wp2_with (at_builtin; refine wpList_append_own _ rfl _ _ 205 rfl w.heap.size 211 i0 _ 3 24 Tryz.underlying205 hi hz0 hz1 hz2 rfl (by decide) _ _ _ rfl (hv.alloc _) ⟨_, 0, none⟩ 1 1 (rnL ⟨X.i, X.o, p.n⟩) rfl rfl (pieces_new _ _ _) (rnL_ones _) (by unfold maxLen; omega) (by omega) (by simp; omega) ?_; intro v1 w1 hw1 hg1 _; have hB1 := (hB.alloc hB.size (.cells (rnL ⟨X.i, X.o, p.n⟩).toArray 211)).grown hg1 (by simp; omega) (fun k hk => (hv.lt k hk).1); have hv1 := RnOwn.snoc hw1; obtain ⟨q0, q1, q2⟩ := pc_at (pcs_of (HR5 _ hB1)) HG.out)
        exact ⟨RnI.intro (k + 1) v1 (by rw [HST.out, HS.out]; dsimp only; rw [← HE.out]; rfl) (by omega) (by rw [HST.out, HS.out]; exact hv1) hB1, by simp [intOf]; omega⟩
      · have e1 : (p.kind == 1) = false := by simpa using e
        have hs : rnStep X p = ⟨X.l, X.i + p.n, X.o + p.text.size⟩ := by unfold rnStep; rw [if_neg e, if_neg e, Int.add_zero]
        have HS := Lib.hid hs
        clear e hs
        go_wp2
        exact ⟨RnI.intro (k + 1) v (by rw [HST.out, HS.out]; rfl) (by omega) (by rw [HST.out, HS.out]; exact hv) hB, by simp [intOf]; omega⟩
    · obtain rfl : k = d.length := by omega
      rw [List.take_length] at hv
      obtain ⟨av, cv, rfl⟩ := own_slice hv
      go_wp2
      go_returns
      exact ⟨_, rfl, hv, hB⟩
def lefR (p : Int) (l : List RunV) : Int := l.foldl (fun to r => if r.i < p then r.o + min (p - r.i) r.n else to) 0
theorem lefR_take {p : Int} {l : List RunV} {k : Nat} {r : RunV} (h : l[k]? = some r) : lefR p (l.take (k + 1)) = if r.i < p then r.o + min (p - r.i) r.n else lefR p (l.take k) := by
  unfold lefR; rw [List.take_add_one, h, Option.toList_some, List.foldl_append]; rfl
def rigR (p e : Int) : List RunV → Int
  | [] => e
  | r :: l => if p < r.i + r.n then r.o + max (p - r.i) 0 else rigR p e l
def LfI (w : World) (g c : Nat) (l : List RunV) (p : Int) (a : Act) (wr : World) : Prop :=
  ∃ (k : Nat) (u : Nat → Value), a = { tmps := #[.slice (some ⟨g, 0, none⟩) l.length c, .int .i64 p, u 2, u 3, u 4, .int .i64 (lefR p (l.take k)), .int .i64 k, u 7, u 8, u 9, u 10, u 11, u 12, u 13, u 14, u 15, u 16, u 17, u 18, u 19, u 20, u 21, u 22, u 23, u 24, u 25, u 26, u 27, u 28, u 29, u 30, u 31, u 32, u 33, u 34, u 35, u 36, u 37, u 38, u 39], defers := [] } ∧ k ≤ l.length ∧ Below w.heap.size w wr
theorem LfI.intro {w : World} {g c : Nat} {l : List RunV} {p : Int} {a : Act} {wr : World} (k : Nat) (h : a = { tmps := #[.slice (some ⟨g, 0, none⟩) l.length c, .int .i64 p, a.tmps.getD 2 undef, a.tmps.getD 3 undef, a.tmps.getD 4 undef, .int .i64 (lefR p (l.take k)), .int .i64 k, a.tmps.getD 7 undef, a.tmps.getD 8 undef, a.tmps.getD 9 undef, a.tmps.getD 10 undef, a.tmps.getD 11 undef, a.tmps.getD 12 undef, a.tmps.getD 13 undef, a.tmps.getD 14 undef, a.tmps.getD 15 undef, a.tmps.getD 16 undef, a.tmps.getD 17 undef, a.tmps.getD 18 undef, a.tmps.getD 19 undef, a.tmps.getD 20 undef, a.tmps.getD 21 undef, a.tmps.getD 22 undef, a.tmps.getD 23 undef, a.tmps.getD 24 undef, a.tmps.getD 25 undef, a.tmps.getD 26 undef, a.tmps.getD 27 undef, a.tmps.getD 28 undef, a.tmps.getD 29 undef, a.tmps.getD 30 undef, a.tmps.getD 31 undef, a.tmps.getD 32 undef, a.tmps.getD 33 undef, a.tmps.getD 34 undef, a.tmps.getD 35 undef, a.tmps.getD 36 undef, a.tmps.getD 37 undef, a.tmps.getD 38 undef, a.tmps.getD 39 undef], defers := [] }) (hk : k ≤ l.length) (hB : Below w.heap.size w wr) : LfI w g c l p a wr := ⟨k, fun i => a.tmps.getD i undef, h, hk, hB⟩
theorem rn_slice {W : World} {B : Nat} {v : Value} {l : List RunV} (h : RnOwn W B v l) : (v = .slice none 0 0 ∧ l = []) ∨ ∃ g c, v = .slice (some ⟨g, 0, none⟩) l.length c := by
  rcases h.2 with ⟨h1, h2⟩ | ⟨g, cap, cur, rfl, _⟩
  · exact .inl ⟨h1, List.eq_nil_of_length_eq_zero h2⟩
  · exact .inr ⟨g, cap, rfl⟩
theorem refLeft_ok (B : Nat) (v : Value) (l : List RunV) (p : Int) (w : World) (hv : RnOwn w B v l) (hl : l.length ≤ 1000) (ho : ∀ r ∈ l, RunOK r) (hp : 0 ≤ p ∧ p ≤ 1000000) : Calls Tryz.prog 165 #[v, .int .i64 p] w fun e w' => e = .returned (.int .i64 (lefR p l)) ∧ Below w.heap.size w w' := by
  obtain ⟨hp0, hp1⟩ := hp
  rcases rn_slice hv with ⟨rfl, rfl⟩ | ⟨g, c, rfl⟩
  · go_enter Tryz.func165, Tryz.ntmps165
    go_wp2
    refine wp_loop_rounds 1 ?_
    rw [rounds_succ]
    go_wp2
    go_returns
    exact ⟨rfl, Below.refl _ _⟩
  · go_enter Tryz.func165, Tryz.ntmps165
    go_wp2
    refine wp_loop (LfI w g c l p) (fun a _ => l.length - (intOf (a.tmps.getD 6 undef)).toNat) ?_ ?_
    · exact LfI.intro 0 rfl (by omega) (Below.refl _ _)
    · rintro a wr ⟨k, u, rfl, hk, hB⟩
      by_cases hlt : k < l.length
      · have hx := List.getElem?_eq_getElem hlt
        generalize l[k] = r at hx
        obtain ⟨⟨a0, a1⟩, ⟨b0, b1⟩, n0, n1⟩ := ho r (List.mem_of_getElem? hx)
        have hst := lefR_take (p := p) hx
        have hvr := own_below6 hv hB
        have hvd := own_below6 hvr (Below.refl _ _).drew
        obtain ⟨c0, c1, c2⟩ := rn_at hvr hx
        have K1 := rn_at hvd hx
        have HST := Lib.hid hst
        clear hst
        by_cases e : r.i < p
        · have d1 : decide (r.i < p) = true := by simpa using e
          have w1 : IntKind.i64.wrap (p - r.i) = p - r.i := IntWalk.i64_in _ (by omega)
          obtain ⟨m, hm⟩ : ∃ m, min (p - r.i) r.n = m := ⟨_, rfl⟩
          have m0 : 0 ≤ m ∧ m ≤ 1000000 := by omega
          have w3 : IntKind.i64.wrap (r.o + m) = r.o + m := IntWalk.i64_in _ (by omega)
          have hB2 := hB.drew
          have HS : lefR p (l.take (k + 1)) = r.o + m := by rw [HST.out, if_pos e, hm]
          have HS2 := Lib.hid HS
          clear HS e
          go_wp2
          refine wp_region_noPanic ?_
          refine wp_region_held_drew (S := fun W => W.cell? ⟨g, k * 3, none⟩ = some (.int .i64 r.i) ∧ W.cell? ⟨g, k * 3 + 1, none⟩ = some (.int .i64 r.o) ∧ W.cell? ⟨g, k * 3 + 2, none⟩ = some (.int .i64 r.n)) (by kernel_rfl) ?_ (fun hHeld => ?_)
          · exact K1
          iterate 20 (first | (refine np_sn ?_; (try simp only [nSO])) | ((first | refine np_n ?_ ?_ ?_ | refine np_t 0 ?_ ?_ ?_); rotate_left 1; (· (intro w hSw; (try dsimp only at hSw); go_simp; all_goals with_reducible rfl)); (try simp only [nSO])))
          refine wpAnyH_done (by kernel_rfl) ?_ _
          refine NoPanic.normal ?_
          go_wp2
          exact ⟨LfI.intro (k + 1) (by rw [HS2.out]; rfl) (by omega) hB2, by simp [intOf]; omega⟩
        · have d1 : decide (r.i < p) = false := by simpa using e
          have HS : lefR p (l.take (k + 1)) = lefR p (l.take k) := by rw [HST.out, if_neg e]
          have HS2 := Lib.hid HS
          clear HS e
          go_wp2
          exact ⟨LfI.intro (k + 1) (by rw [HS2.out]; rfl) (by omega) hB, by simp [intOf]; omega⟩
      · obtain rfl : k = l.length := by omega
        rw [List.take_length]
        go_wp2
        go_returns
        exact ⟨rfl, hB⟩
def RgI (w : World) (g c : Nat) (l : List RunV) (p e : Int) (a : Act) (wr : World) : Prop :=
  ∃ (k : Nat) (u : Nat → Value), a = { tmps := #[.slice (some ⟨g, 0, none⟩) l.length c, .int .i64 p, .int .i64 e, u 3, u 4, u 5, u 6, .int .i64 k, u 8, u 9, u 10, u 11, u 12, u 13, u 14, u 15, u 16, u 17, u 18, u 19, u 20, u 21, u 22, u 23, u 24, u 25, u 26, u 27, u 28, u 29, u 30, u 31, u 32, u 33, u 34, u 35, u 36, u 37, u 38, u 39, u 40, u 41], defers := [] } ∧ k ≤ l.length ∧ rigR p e l = rigR p e (l.drop k) ∧ Below w.heap.size w wr
theorem RgI.intro {w : World} {g c : Nat} {l : List RunV} {p e : Int} {a : Act} {wr : World} (k : Nat) (h : a = { tmps := #[.slice (some ⟨g, 0, none⟩) l.length c, .int .i64 p, .int .i64 e, a.tmps.getD 3 undef, a.tmps.getD 4 undef, a.tmps.getD 5 undef, a.tmps.getD 6 undef, .int .i64 k, a.tmps.getD 8 undef, a.tmps.getD 9 undef, a.tmps.getD 10 undef, a.tmps.getD 11 undef, a.tmps.getD 12 undef, a.tmps.getD 13 undef, a.tmps.getD 14 undef, a.tmps.getD 15 undef, a.tmps.getD 16 undef, a.tmps.getD 17 undef, a.tmps.getD 18 undef, a.tmps.getD 19 undef, a.tmps.getD 20 undef, a.tmps.getD 21 undef, a.tmps.getD 22 undef, a.tmps.getD 23 undef, a.tmps.getD 24 undef, a.tmps.getD 25 undef, a.tmps.getD 26 undef, a.tmps.getD 27 undef, a.tmps.getD 28 undef, a.tmps.getD 29 undef, a.tmps.getD 30 undef, a.tmps.getD 31 undef, a.tmps.getD 32 undef, a.tmps.getD 33 undef, a.tmps.getD 34 undef, a.tmps.getD 35 undef, a.tmps.getD 36 undef, a.tmps.getD 37 undef, a.tmps.getD 38 undef, a.tmps.getD 39 undef, a.tmps.getD 40 undef, a.tmps.getD 41 undef], defers := [] }) (hk : k ≤ l.length) (hr : rigR p e l = rigR p e (l.drop k)) (hB : Below w.heap.size w wr) : RgI w g c l p e a wr := ⟨k, fun i => a.tmps.getD i undef, h, hk, hr, hB⟩
theorem refRight_ok (B : Nat) (v : Value) (l : List RunV) (p e : Int) (w : World) (hv : RnOwn w B v l) (hl : l.length ≤ 1000) (ho : ∀ r ∈ l, RunOK r) (hp : 0 ≤ p ∧ p ≤ 1000000) : Calls Tryz.prog 167 #[v, .int .i64 p, .int .i64 e] w fun x w' => x = .returned (.int .i64 (rigR p e l)) ∧ Below w.heap.size w w' := by
  obtain ⟨hp0, hp1⟩ := hp
  rcases rn_slice hv with ⟨rfl, rfl⟩ | ⟨g, c, rfl⟩
  · go_enter Tryz.func167, Tryz.ntmps167
    go_wp2
    refine wp_loop_rounds 1 ?_
    rw [rounds_succ]
    go_wp2
    go_returns
    exact ⟨rfl, Below.refl _ _⟩
  · go_enter Tryz.func167, Tryz.ntmps167
    go_wp2
    refine wp_loop (RgI w g c l p e) (fun a _ => l.length - (intOf (a.tmps.getD 7 undef)).toNat) ?_ ?_
    · exact RgI.intro 0 rfl (by omega) rfl (Below.refl _ _)
    · rintro a wr ⟨k, u, rfl, hk, hr, hB⟩
      by_cases hlt : k < l.length
      · have hx := List.getElem?_eq_getElem hlt
        have hdr := List.drop_eq_getElem_cons hlt
        generalize l[k] = r at hx hdr
        obtain ⟨⟨a0, a1⟩, ⟨b0, b1⟩, n0, n1⟩ := ho r (List.mem_of_getElem? hx)
        have hvr := own_below6 hv hB
        have hvd := own_below6 hvr (Below.refl _ _).drew
        have hve := own_below6 hvd (Below.refl _ _).drew
        have K1 := rn_at hvd hx
        have K2 := rn_at hve hx
        have K0 := rn_at hvr hx
        have hr2 : rigR p e (r :: l.drop (k + 1)) = if p < r.i + r.n then r.o + max (p - r.i) 0 else rigR p e (l.drop (k + 1)) := rfl
        rw [hdr, hr2] at hr
        clear hr2
        have w1 : IntKind.i64.wrap (r.i + r.n) = r.i + r.n := IntWalk.i64_in _ (by omega)
        have w2 : IntKind.i64.wrap (p - r.i) = p - r.i := IntWalk.i64_in _ (by omega)
        by_cases q : p < r.i + r.n
        · have d1 : decide (p < r.i + r.n) = true := by simpa using q
          rw [if_pos q] at hr
          obtain ⟨m, hm⟩ : ∃ m, max (p - r.i) 0 = m := ⟨_, rfl⟩
          have m0 : 0 ≤ m ∧ m ≤ 1000000 := by omega
          have w3 : IntKind.i64.wrap (r.o + m) = r.o + m := IntWalk.i64_in _ (by omega)
          have hB2 := hB.drew.drew
          have HS : rigR p e l = r.o + m := by rw [hr, hm]
          have HS2 := Lib.hid HS
          clear HS q hr hdr
          go_wp2
          refine wp_region_noPanic ?_
          refine wp_region_held_drew (S := fun W => W.cell? ⟨g, k * 3, none⟩ = some (.int .i64 r.i) ∧ W.cell? ⟨g, k * 3 + 1, none⟩ = some (.int .i64 r.o) ∧ W.cell? ⟨g, k * 3 + 2, none⟩ = some (.int .i64 r.n)) (by kernel_rfl) ?_ (fun hHeld => ?_)
          · exact K1
          iterate 13 (first | (refine np_sn ?_; (try simp only [nSO])) | ((first | refine np_n ?_ ?_ ?_ | refine np_t 0 ?_ ?_ ?_); rotate_left 1; (· (intro w hSw; (try dsimp only at hSw); go_simp; all_goals with_reducible rfl)); (try simp only [nSO])))
          refine wpAnyH_done (by kernel_rfl) ?_ _
          refine NoPanic.normal ?_
          go_wp2
          refine wp_region_noPanic ?_
          refine wp_region_held_drew (S := fun W => W.cell? ⟨g, k * 3, none⟩ = some (.int .i64 r.i) ∧ W.cell? ⟨g, k * 3 + 1, none⟩ = some (.int .i64 r.o) ∧ W.cell? ⟨g, k * 3 + 2, none⟩ = some (.int .i64 r.n)) (by kernel_rfl) ?_ (fun hHeld => ?_)
          · exact K2
          iterate 15 (first | (refine np_sn ?_; (try simp only [nSO])) | ((first | refine np_n ?_ ?_ ?_ | refine np_t 0 ?_ ?_ ?_); rotate_left 1; (· (intro w hSw; (try dsimp only at hSw); go_simp; all_goals with_reducible rfl)); (try simp only [nSO])))
          refine wpAnyH_done (by kernel_rfl) ?_ _
          refine NoPanic.normal ?_
          go_wp2
          go_returns
          exact ⟨by rw [HS2.out]; rfl, hB2⟩
        · have d1 : decide (p < r.i + r.n) = false := by simpa using q
          rw [if_neg q] at hr
          have hB2 := hB.drew
          clear q hdr
          go_wp2
          refine wp_region_noPanic ?_
          refine wp_region_held_drew (S := fun W => W.cell? ⟨g, k * 3, none⟩ = some (.int .i64 r.i) ∧ W.cell? ⟨g, k * 3 + 1, none⟩ = some (.int .i64 r.o) ∧ W.cell? ⟨g, k * 3 + 2, none⟩ = some (.int .i64 r.n)) (by kernel_rfl) ?_ (fun hHeld => ?_)
          · exact K1
          iterate 13 (first | (refine np_sn ?_; (try simp only [nSO])) | ((first | refine np_n ?_ ?_ ?_ | refine np_t 0 ?_ ?_ ?_); rotate_left 1; (· (intro w hSw; (try dsimp only at hSw); go_simp; all_goals with_reducible rfl)); (try simp only [nSO])))
          refine wpAnyH_done (by kernel_rfl) ?_ _
          refine NoPanic.normal ?_
          go_wp2
          exact ⟨RgI.intro (k + 1) rfl (by omega) hr hB2, by simp [intOf]; omega⟩
      · obtain rfl : k = l.length := by omega
        rw [List.drop_length] at hr
        have hr2 : rigR p e l = e := hr
        have HR := Lib.hid hr2
        clear hr hr2
        go_wp2
        go_returns
        exact ⟨by rw [HR.out]; rfl, hB⟩
theorem rep_left {n a k p : Int} {t : ByteArray} (h : RepOK n a k t) (hp : 0 ≤ p ∧ p ≤ n) : lefR p (rnS (repD n a k t)).l = leftF p (repD n a k t) 0 0 0 := by
  obtain ⟨h1, h2, h3, h4, h5, h6⟩ := h
  have e0 : (⟨#[]⟩ : ByteArray).size = 0 := rfl
  rw [pos_left n a k t p h1 h2 h3 hp.1 hp.2]
  unfold repD rnS lefR
  (repeat' split) <;> simp [rnStep, e0] <;> (repeat' split) <;> omega
theorem rep_right {n a k p : Int} {t : ByteArray} (h : RepOK n a k t) (hp : 0 ≤ p ∧ p ≤ n) : rigR p (sumO (repD n a k t)) (rnS (repD n a k t)).l = rightF p (repD n a k t) 0 0 (lenS (repD n a k t)).2.1 := by
  obtain ⟨_, _, hso⟩ := rep_dok h
  obtain ⟨_, _, _, hlen⟩ := rep_ok h
  obtain ⟨h1, h2, h3, h4, h5, h6⟩ := h
  have e0 : (⟨#[]⟩ : ByteArray).size = 0 := rfl
  rw [hlen, hso, pos_right n a k t p _ h1 h2 h3 hp.1 hp.2 rfl]
  unfold repD rnS
  (repeat' split) <;> simp [rnStep, e0, rigR] <;> (repeat' split) <;> omega
theorem refMove_ok (n a k p g : Int) (t : ByteArray) (ad : Option Addr) (c : Nat) (w : World) (h : RepOK n a k t) (hr : PRow w ad (repD n a k t)) (hc : (repD n a k t).length ≤ c) (hp : 0 ≤ p ∧ p ≤ n) (hg : g = 0 ∨ g = 1) :
    Calls Tryz.prog 133 #[.slice ad (repD n a k t).length c, .int .i64 p, .int .u8 g] w fun e w' => e = .returned (.int .i64 (posS (repD n a k t) p g)) ∧ Below w.heap.size w w' := by
  obtain ⟨hd, _, hso⟩ := rep_dok h
  have hn : n ≤ 100000 := h.2.2.2.1
  have hl := rep_left h hp
  have hr2 := rep_right h hp
  have ru := fun W (hW : Below w.heap.size w W) => refRuns_ok ad c (repD n a k t) W (hr.on hW) hd hc
  have si := refSizes_ok ad c (repD n a k t) w hr hd hc
  have ok := rnS_ok hd (repD n a k t).length (Nat.le_refl _)
  rw [List.take_length] at ok
  obtain ⟨_, _, ok1, ok2⟩ := ok
  have h4 := hd.1
  have le := fun B v W (hv : RnOwn W B v (rnS (repD n a k t)).l) => refLeft_ok B v (rnS (repD n a k t)).l p W hv (by omega) ok2 (by omega)
  have ri := fun B v W (hv : RnOwn W B v (rnS (repD n a k t)).l) => refRight_ok B v (rnS (repD n a k t)).l p (sumO (repD n a k t)) W hv (by omega) ok2 (by omega)
  have hpos : posS (repD n a k t) p 0 = lefR p (rnS (repD n a k t)).l ∧ posS (repD n a k t) p 1 = rigR p (sumO (repD n a k t)) (rnS (repD n a k t)).l := by rw [hl, hr2]; exact ⟨rfl, rfl⟩
  have HP := Lib.hid hpos; have RU := Lib.hid ru; have SI := Lib.hid si; have LE := Lib.hid le; have RI2 := Lib.hid ri
  clear hpos ru si le ri hl hr2 hso ok2 ok1 h4 hd
  generalize sumO (repD n a k t) = so at *
  generalize (rnS (repD n a k t)).l = rl at *
  generalize repD n a k t = D at *
  rcases hg with rfl | rfl
  · go_enter Tryz.func133, Tryz.ntmps133
    go_wp2_with (first | (go_at_call 166; refine (RU.out _ (Below.refl _ _)).mono ?_; rintro e w1 ⟨v1, rfl, hv1, hb1⟩) | (go_at_call 165; refine (LE.out _ _ _ hv1).mono ?_; rintro e w2 ⟨rfl, hb2⟩))
    go_returns
    exact ⟨by rw [HP.out.1]; rfl, hb1.trans (hb2.mono hb1.size)⟩
  · go_enter Tryz.func133, Tryz.ntmps133
    go_wp2_with (first | (go_at_call 164; refine SI.out.mono ?_; rintro e w0 ⟨rfl, rfl⟩) | (go_at_call 166; refine (RU.out _ (Below.refl _ _)).mono ?_; rintro e w1 ⟨v1, rfl, hv1, hb1⟩) | (go_at_call 167; refine (RI2.out _ _ _ hv1).mono ?_; rintro e w2 ⟨rfl, hb2⟩))
    go_returns
    exact ⟨by rw [HP.out.2]; rfl, hb1.trans (hb2.mono hb1.size)⟩
end Go.Proofs.YtlealeecmmpckaaGreat
namespace Go.Proofs.YtlealeecmmpckaaGreat
set_option linter.unusedVariables false
set_option linter.unusedSimpArgs false
set_option maxRecDepth 100000
set_option maxHeartbeats 8000000
open Go.RowKit Go.Lib Go.Shelf
theorem mk_at {w : World} {b off k : Nat} {l : List MkV} {m : MkV} (h : ∀ (k : Nat) (m : MkV), l[k]? = some m → ∀ (i : Nat) (u : Value), (mkL m)[i]? = some u → w.cell? ⟨b, off + (k * 3 + i), none⟩ = some u) (hx : l[k]? = some m) :
    w.cell? ⟨b, off + k * 3, none⟩ = some (.int .u32 m.id) ∧ w.cell? ⟨b, off + k * 3 + 1, none⟩ = some (.int .i64 m.at_) ∧ w.cell? ⟨b, off + k * 3 + 2, none⟩ = some (.int .u8 m.grav) :=
  ⟨h k m hx 0 _ rfl, h k m hx 1 _ rfl, h k m hx 2 _ rfl⟩
def MCs (w : World) (b off : Nat) (l : List MkV) : Prop := ∀ (k : Nat) (m : MkV), l[k]? = some m → ∀ (i : Nat) (u : Value), (mkL m)[i]? = some u → w.cell? ⟨b, off + (k * 3 + i), none⟩ = some u
theorem mcs_of {W : World} {b off : Nat} {l : List MkV} (h : MRow W (some ⟨b, off, none⟩) l) : MCs W b off l := by
  rcases h with ⟨h1, _⟩ | ⟨b', off', h1, _, h3⟩
  · cases h1
  · injection h1 with h1; injection h1 with e1 e2 _; subst e1; subst e2; exact h3
theorem mrow_some {W : World} {a : Option Addr} {l : List MkV} (h : MRow W a l) (hl : l ≠ []) : ∃ b off, a = some ⟨b, off, none⟩ ∧ b < W.heap.size := by
  rcases h with ⟨_, h2⟩ | ⟨b, off, h1, h2, _⟩
  · exact absurd h2 hl
  · exact ⟨b, off, h1, h2⟩
theorem mkL_one (m : MkV) : ∀ u ∈ mkL m, u.oneCell' = true := by
  intro u hu
  unfold mkL at hu
  simp only [List.mem_cons, List.not_mem_nil, or_false] at hu
  rcases hu with rfl | rfl | rfl <;> rfl
theorem own_someR {W : World} {B n s c : Nat} {e : TypeId} {a : Option Addr} {xs : List Value} (h : W.ownsRow B e s (.slice a n c) n xs) (hn : n ≠ 0) : ∃ g, a = some ⟨g, 0, none⟩ := by
  rcases h.2 with ⟨_, e2⟩ | ⟨g, cap, cur, e1, _⟩
  · exact absurd e2 hn
  · injection e1 with e1 _ _; exact ⟨g, e1⟩
theorem own_caseR {W : World} {B n s c : Nat} {e : TypeId} {a : Option Addr} {xs : List Value} (h : W.ownsRow B e s (.slice a n c) n xs) : (a = none ∧ n = 0 ∧ c = 0) ∨ ∃ g, a = some ⟨g, 0, none⟩ ∧ n ≤ c := by
  rcases h.2 with ⟨e1, e2⟩ | ⟨g, cap, cur, e1, _, _, h3, _⟩
  · injection e1 with e1 _ e3; exact .inl ⟨e1, e2, e3⟩
  · injection e1 with e1 _ e3; exact .inr ⟨g, e1, by omega⟩
theorem mk_split (lo hi : List MkV) : mksL (lo ++ hi) = mksL lo ++ mksL hi := by unfold mksL; rw [List.flatMap_append]
theorem mk_len (l : List MkV) : (mksL l).length = l.length * 3 := by
  induction l with
  | nil => rfl
  | cons m l ih => show (mkL m ++ mksL l).length = _; rw [List.length_append, ih, List.length_cons]; show 3 + _ = _; omega
theorem mk_ones (l : List MkV) : ∀ u ∈ mksL l, u.oneCell' = true := by
  intro u hu
  unfold mksL at hu
  obtain ⟨m, _, hm⟩ := List.mem_flatMap.1 hu
  exact mkL_one m u hm
theorem src_lo {W : World} {B g cr : Nat} {rest lo hi : List MkV} (h : MOwn W B (.slice (some ⟨g, 0, none⟩) rest.length cr) rest) (he : rest = lo ++ hi) : ∀ j u, (mksL lo)[j]? = some u → W.cell? ((⟨g, 0, none⟩ : Addr).add j) = some u := by
  intro j u hj
  refine h.cells (g := g) rfl j u ?_
  rw [he, mk_split, List.getElem?_append_left (List.getElem?_eq_some_iff.1 hj).1]
  exact hj
theorem src_hi {W : World} {B g cr : Nat} {rest lo hi : List MkV} (h : MOwn W B (.slice (some ⟨g, 0, none⟩) rest.length cr) rest) (he : rest = lo ++ hi) : ∀ j u, (mksL hi)[j]? = some u → W.cell? ((⟨g, lo.length * 3, none⟩ : Addr).add j) = some u := by
  intro j u hj
  have := h.cells (g := g) rfl (lo.length * 3 + j) u (by
    rw [he, mk_split, List.getElem?_append_right (by rw [mk_len]; omega), mk_len, show lo.length * 3 + j - lo.length * 3 = j by omega]
    exact hj)
  have e1 : (⟨g, 0, none⟩ : Addr).add (lo.length * 3 + j) = ⟨g, lo.length * 3 + j, none⟩ := by unfold Addr.add; split <;> simp_all
  have e2 : (⟨g, lo.length * 3, none⟩ : Addr).add j = ⟨g, lo.length * 3 + j, none⟩ := by unfold Addr.add; split <;> simp_all
  rw [e1] at this; rw [e2]; exact this
theorem new_at {W : World} {g : Nat} {L : List Value} {T : TypeId} (h : W.heap[g]? = some (.cells L.toArray T (0, 0))) : ∀ (j : Nat) (u : Value), L[j]? = some u → W.cell? ((⟨g, 0, none⟩ : Addr).add j) = some u := by
  intro j u hj
  have e : (⟨g, 0, none⟩ : Addr).add j = ⟨g, j, none⟩ := by unfold Addr.add; split <;> simp_all
  rw [e]
  simp only [World.cell?, h]
  simpa using hj
theorem new_second (W : World) (o o2 : Obj) : ((W.alloc o).alloc o2).heap[W.heap.size + 1]? = some o2 := by
  have := heap_alloc_new (W.alloc o) o2
  rwa [World.size_alloc] at this
theorem own_empty (W : World) : (W.alloc (.cells #[] 81)).ownsRow W.heap.size 81 3 (.slice (some ⟨W.heap.size, 0, none⟩) 0 0) 0 [] :=
  ⟨rfl, .inr ⟨W.heap.size, 0, #[], rfl, Nat.le_refl _, heap_alloc_new W _, Nat.le_refl _, by unfold maxLen; omega, rfl, rfl⟩⟩
end Go.Proofs.YtlealeecmmpckaaGreat
namespace Go.Proofs.YtlealeecmmpckaaGreat
set_option linter.unusedVariables false
set_option linter.unusedSimpArgs false
set_option maxRecDepth 100000
set_option maxHeartbeats 8000000
open Go.RowKit Go.Lib Go.Shelf
def RmI (w : World) (ad a2 : Option Addr) (l l2 : List MkV) (c c2 : Nat) (a : Act) (wr : World) : Prop :=
  ∃ (k : Nat) (u : Nat → Value), a = { tmps := #[.slice ad l.length c, .slice a2 l2.length c2, u 2, u 3, u 4, .int .i64 k, u 6, u 7, u 8, u 9, u 10, u 11, u 12, u 13, u 14, u 15, u 16, u 17, u 18, u 19, u 20, u 21, u 22, u 23, u 24, u 25], defers := [] } ∧ k ≤ l.length ∧ l.take k = l2.take k ∧ Below w.heap.size w wr
theorem RmI.intro {w : World} {ad a2 : Option Addr} {l l2 : List MkV} {c c2 : Nat} {a : Act} {wr : World} (k : Nat) (h : a = { tmps := #[.slice ad l.length c, .slice a2 l2.length c2, a.tmps.getD 2 undef, a.tmps.getD 3 undef, a.tmps.getD 4 undef, .int .i64 k, a.tmps.getD 6 undef, a.tmps.getD 7 undef, a.tmps.getD 8 undef, a.tmps.getD 9 undef, a.tmps.getD 10 undef, a.tmps.getD 11 undef, a.tmps.getD 12 undef, a.tmps.getD 13 undef, a.tmps.getD 14 undef, a.tmps.getD 15 undef, a.tmps.getD 16 undef, a.tmps.getD 17 undef, a.tmps.getD 18 undef, a.tmps.getD 19 undef, a.tmps.getD 20 undef, a.tmps.getD 21 undef, a.tmps.getD 22 undef, a.tmps.getD 23 undef, a.tmps.getD 24 undef, a.tmps.getD 25 undef], defers := [] }) (hk : k ≤ l.length) (he : l.take k = l2.take k) (hB : Below w.heap.size w wr) : RmI w ad a2 l l2 c c2 a wr := ⟨k, fun i => a.tmps.getD i undef, h, hk, he, hB⟩
theorem refMSame_any (ad a2 : Option Addr) (c c2 : Nat) (l l2 : List MkV) (w : World) (hr : MRow w ad l) (hr2 : MRow w a2 l2) (hc : l.length ≤ c) (hc2 : l2.length ≤ c2) (h64 : l.length ≤ 1000) (h65 : l2.length ≤ 1000) :
    Calls Tryz.prog 53 #[.slice ad l.length c, .slice a2 l2.length c2] w fun e w' => e = .returned (.bool (decide (l = l2))) ∧ Below w.heap.size w w' := by
  by_cases hlen : l.length = l2.length
  · go_enter Tryz.func53, Tryz.ntmps53
    go_wp2
    refine wp_loop (RmI w ad a2 l l2 c c2) (fun a _ => l.length - (intOf (a.tmps.getD 5 undef)).toNat) ?_ ?_
    · exact RmI.intro 0 (by rw [hlen]; rfl) (by omega) rfl (Below.refl _ _)
    · rintro a wr ⟨k, u, rfl, hk, he, hB⟩
      have HLEN := Lib.hid hlen
      have HEQ := Lib.hid he
      by_cases hlt : k < l.length
      · have hlt2 : k < l2.length := by omega
        have hg := List.getElem?_eq_getElem hlt
        have hg2 := List.getElem?_eq_getElem hlt2
        generalize l[k] = m at hg
        generalize l2[k] = m2 at hg2
        obtain ⟨b, off, rfl, hb⟩ := mrow_some hr (fun h => by rw [h] at hlt; simp at hlt)
        obtain ⟨b2, off2, rfl, hb2⟩ := mrow_some hr2 (fun h => by rw [h] at hlt2; simp at hlt2)
        have K1 := mk_at (mcs_of (hr.on hB.drew)) hg
        have K2 := mk_at (mcs_of (hr2.on hB.drew)) hg2
        have hBd := hB.drew
        have hno : m ≠ m2 → decide (l = l2) = false := fun hn => by
          rw [decide_eq_false_iff_not]
          intro e; subst e
          rw [hg] at hg2; injection hg2 with hg2; exact hn hg2
        have hyes : m = m2 → l.take (k + 1) = l2.take (k + 1) := fun e => by
          rw [List.take_add_one, List.take_add_one, hg, hg2, he, e]
        have HNO := Lib.hid hno; have HYES := Lib.hid hyes
        clear hno hyes hg hg2 hr hr2 he hlen
        obtain ⟨mi, ma, mg⟩ := m
        obtain ⟨ni, na, ng⟩ := m2
        dsimp only at K1 K2
        by_cases e1 : mi = ni
        · subst e1
          by_cases e2 : ma = na
          · subst e2
            by_cases e3 : mg = ng
            · subst e3
              go_wp2
              refine wp_region_noPanic ?_
              refine wp_region_held_drew (S := fun W => (W.cell? ⟨b, off + k * 3, none⟩ = some (.int .u32 mi) ∧ W.cell? ⟨b, off + k * 3 + 1, none⟩ = some (.int .i64 ma) ∧ W.cell? ⟨b, off + k * 3 + 2, none⟩ = some (.int .u8 mg)) ∧ W.cell? ⟨b2, off2 + k * 3, none⟩ = some (.int .u32 mi) ∧ W.cell? ⟨b2, off2 + k * 3 + 1, none⟩ = some (.int .i64 ma) ∧ W.cell? ⟨b2, off2 + k * 3 + 2, none⟩ = some (.int .u8 mg)) (by kernel_rfl) ?_ (fun hHeld => ?_)
              · exact ⟨K1, K2⟩
              iterate 9 (first | (refine np_sn ?_; (try simp only [nSO])) | ((first | refine np_n ?_ ?_ ?_ | refine np_t 0 ?_ ?_ ?_); rotate_left 1; (· (intro w hSw; (try dsimp only at hSw); go_simp; all_goals with_reducible rfl)); (try simp only [nSO])))
              refine wpAnyH_done (by kernel_rfl) ?_ _
              refine NoPanic.normal ?_
              go_wp2
              exact ⟨RmI.intro (k + 1) rfl (by omega) (HYES.out (by first | rfl | trivial)) hBd, by simp [intOf]; omega⟩
            · have d3 : (mg == ng) = false := by simpa using e3
              have d3' : (mg != ng) = true := by simpa using e3
              have hx := HNO.out (fun h => e3 (by injection h))
              go_wp2
              refine wp_region_noPanic ?_
              refine wp_region_held_drew (S := fun W => (W.cell? ⟨b, off + k * 3, none⟩ = some (.int .u32 mi) ∧ W.cell? ⟨b, off + k * 3 + 1, none⟩ = some (.int .i64 ma) ∧ W.cell? ⟨b, off + k * 3 + 2, none⟩ = some (.int .u8 mg)) ∧ W.cell? ⟨b2, off2 + k * 3, none⟩ = some (.int .u32 mi) ∧ W.cell? ⟨b2, off2 + k * 3 + 1, none⟩ = some (.int .i64 ma) ∧ W.cell? ⟨b2, off2 + k * 3 + 2, none⟩ = some (.int .u8 ng)) (by kernel_rfl) ?_ (fun hHeld => ?_)
              · exact ⟨K1, K2⟩
              iterate 9 (first | (refine np_sn ?_; (try simp only [nSO])) | ((first | refine np_n ?_ ?_ ?_ | refine np_t 0 ?_ ?_ ?_); rotate_left 1; (· (intro w hSw; (try dsimp only at hSw); go_simp; all_goals with_reducible rfl)); (try simp only [nSO])))
              refine wpAnyH_done (by kernel_rfl) ?_ _
              refine NoPanic.normal ?_
              have HX := Lib.hid hx
              clear hx
              go_wp2
              go_returns
              exact ⟨by rw [HX.out]; rfl, hBd⟩
          · have d2 : (ma == na) = false := by simpa using e2
            have d2' : (ma != na) = true := by simpa using e2
            have hx := HNO.out (fun h => e2 (by injection h))
            go_wp2
            refine wp_region_noPanic ?_
            refine wp_region_held_drew (S := fun W => (W.cell? ⟨b, off + k * 3, none⟩ = some (.int .u32 mi) ∧ W.cell? ⟨b, off + k * 3 + 1, none⟩ = some (.int .i64 ma) ∧ W.cell? ⟨b, off + k * 3 + 2, none⟩ = some (.int .u8 mg)) ∧ W.cell? ⟨b2, off2 + k * 3, none⟩ = some (.int .u32 mi) ∧ W.cell? ⟨b2, off2 + k * 3 + 1, none⟩ = some (.int .i64 na) ∧ W.cell? ⟨b2, off2 + k * 3 + 2, none⟩ = some (.int .u8 ng)) (by kernel_rfl) ?_ (fun hHeld => ?_)
            · exact ⟨K1, K2⟩
            iterate 9 (first | (refine np_sn ?_; (try simp only [nSO])) | ((first | refine np_n ?_ ?_ ?_ | refine np_t 0 ?_ ?_ ?_); rotate_left 1; (· (intro w hSw; (try dsimp only at hSw); go_simp; all_goals with_reducible rfl)); (try simp only [nSO])))
            refine wpAnyH_done (by kernel_rfl) ?_ _
            refine NoPanic.normal ?_
            have HX := Lib.hid hx
            clear hx
            go_wp2
            go_returns
            exact ⟨by rw [HX.out]; rfl, hBd⟩
        · have d1 : (mi == ni) = false := by simpa using e1
          have d1' : (mi != ni) = true := by simpa using e1
          have hx := HNO.out (fun h => e1 (by injection h))
          go_wp2
          refine wp_region_noPanic ?_
          refine wp_region_held_drew (S := fun W => (W.cell? ⟨b, off + k * 3, none⟩ = some (.int .u32 mi) ∧ W.cell? ⟨b, off + k * 3 + 1, none⟩ = some (.int .i64 ma) ∧ W.cell? ⟨b, off + k * 3 + 2, none⟩ = some (.int .u8 mg)) ∧ W.cell? ⟨b2, off2 + k * 3, none⟩ = some (.int .u32 ni) ∧ W.cell? ⟨b2, off2 + k * 3 + 1, none⟩ = some (.int .i64 na) ∧ W.cell? ⟨b2, off2 + k * 3 + 2, none⟩ = some (.int .u8 ng)) (by kernel_rfl) ?_ (fun hHeld => ?_)
          · exact ⟨K1, K2⟩
          iterate 9 (first | (refine np_sn ?_; (try simp only [nSO])) | ((first | refine np_n ?_ ?_ ?_ | refine np_t 0 ?_ ?_ ?_); rotate_left 1; (· (intro w hSw; (try dsimp only at hSw); go_simp; all_goals with_reducible rfl)); (try simp only [nSO])))
          refine wpAnyH_done (by kernel_rfl) ?_ _
          refine NoPanic.normal ?_
          have HX := Lib.hid hx
          clear hx
          go_wp2
          go_returns
          exact ⟨by rw [HX.out]; rfl, hBd⟩
      · obtain rfl : k = l.length := by omega
        have hx : decide (l = l2) = true := by
          rw [decide_eq_true_iff]
          have := HEQ.out
          rwa [List.take_length, HLEN.out, List.take_length] at this
        have HX := Lib.hid hx
        clear hx he hlen
        go_wp2
        go_returns
        exact ⟨by rw [HX.out]; rfl, hB⟩
  · have hx : decide (l = l2) = false := by
      rw [decide_eq_false_iff_not]; intro e; exact hlen (by rw [e])
    have d1 : (l.length == l2.length) = false := by simpa using hlen
    have d2 : ((l.length : Int) != l2.length) = true := by simp; omega
    have HX := Lib.hid hx
    clear hx
    go_enter Tryz.func53, Tryz.ntmps53
    go_wp2
    go_returns
    exact ⟨by rw [HX.out]; rfl, Below.refl _ _⟩
end Go.Proofs.YtlealeecmmpckaaGreat
