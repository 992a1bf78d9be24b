/- LinearInOrder: the law returns true for every input, and leaves its arguments as they were. -/
import Derived.Test.YtdeiocppghhfdaaGreatPug
import Derived.Test.YtdeiocppghhfdaaGreatLtLinearInOrdera
import Derived.Test.YtdeiocppghhfdaaGreatPhg
import Derived.Test.YtdeiocppghhfdaaGreatPma
import Derived.Test.YtdeiocppghhfdaaGreatPul
import Derived.StillTailTactics
import Derived.Carry
namespace Go.Proofs.YtdeiocppghhfdaaGreat.Lin
set_option linter.unusedVariables false
set_option linter.unusedSimpArgs false
set_option maxRecDepth 100000
set_option maxHeartbeats 8000000
open Go.RowKit Go.Lib Go.Shelf
open Hs
open KitI (iv IRow own_below infoI)
attribute [local go_sem, local simp] Hs.callL_0 Hs.callL_1 Hs.callL_2 Hs.callL_3 Hs.callL_4 Hs.callL_5 Hs.callL_6 Hs.callL_7 Hs.callL_8 Hs.callL_9 Hs.callL_10 Hs.callL_11 Hs.callL_12 Hs.callL_13 Hs.callL_14 Hs.callL_15 Hs.callL_16 Hs.callL_17 Hs.callL_18 Hs.callL_19 Hs.callL_20 Hs.callL_21 Hs.callL_22 Hs.callL_23 Hs.callL_24 Hs.callL_25 Hs.callL_26 Hs.resL_0 Hs.resL_1 Hs.resL_2 Hs.resL_3 Hs.resL_4 Hs.resL_5 Hs.resL_6 Hs.resL_7 Hs.resL_8 Hs.resL_9 Hs.resL_10 Hs.resL_11 Hs.resL_12 Hs.callG_0 Hs.callG_1 Hs.callG_2 Hs.callG_3 Hs.callG_4 Hs.callG_5 Hs.callG_6 Hs.callG_7 Hs.callG_8 Hs.callG_9 Hs.callG_10 Hs.callG_11 Hs.callG_12 Hs.callG_13 Hs.callG_14 Hs.callG_15 Hs.callG_16 Hs.callG_17 Hs.callG_18 Hs.callG_19 Hs.callG_20 Hs.callG_21 Hs.callG_22 Hs.callG_23 Hs.callG_24 Hs.callG_25 Hs.callG_26 Hs.resG_0 Hs.resG_1 Hs.resG_2 Hs.resG_3 Hs.resG_4 Hs.resG_5 Hs.resG_6 Hs.resG_7 Hs.resG_8 Hs.resG_9 Hs.resG_10 Hs.resG_11 Hs.resG_12 Hs.callL_len Hs.resL_len
attribute [local go_sem ↓] Hs.loadCall_eq Hs.loadRes_eq
attribute [local go_sem] Hs.ld_new Hs.ld_first Hs.ld_second Hs.ldr_new Hs.st_new
theorem wpList_append_rows {P : Program} {w : World} {ops : Array Oper} {rest : List Oper} {o : Oper} {a : Act} {Q : Exit → Act → World → Prop} (hgd : o.guard = none) (s x : Operand) (t : TypeId)
    (ho : o.op = .call { callee := .builtin .append, args := #[s, x], argTypes := #[t, t] })
    (base : Nat) (e : TypeId) (i : TypeInfo) (z : Value) (size bytes : Nat) (ht : P.underlying t = some (.slice e)) (hi : P.info? e = some i) (hz : i.zero = some z)
    (hsize : i.size = size) (hby : i.bytes = bytes) (hzs : z.cells.size = size) (hsz : 0 < size)
    (v : Value) (n : Nat) (xs : List Value) (hs : a.eval s = v) (hown : w.ownsRow base e size v n xs)
    (vx : Value) (m base2 : Nat) (news : List Value) (hx : a.eval x = vx) (hox : w.ownsRow base2 e size vx m news) (h1 : ∀ u ∈ news, u.oneCell' = true)
    (h63 : n + m ≤ maxLen) (hbytes : (n + m) * bytes ≤ 140737488355328) (hbase : base ≤ w.heap.size)
    (h : ∀ v' w', w'.ownsRow base e size v' (n + m) (xs ++ news) → w.grownBy w' v.ownBlock → (v'.ownBlock = v.ownBlock ∨ v'.ownBlock = some w.heap.size) → wpList P ops Q rest (a.put o.dst v') w') :
    wpList P ops Q (o :: rest) a w := by
  rcases hox.2 with ⟨hv, hm⟩ | ⟨g, cap, cur, hv, _⟩
  · subst hv
    subst hm
    have hn : news = [] := List.eq_nil_of_length_eq_zero (by simpa using hox.1)
    subst hn
    have hrun := run_append_owned_none (P := P) (w := w) base t o.type e i size ht hi v n xs hown
    refine wpList_plain hgd fun K hK => ?_
    unfold Oper.wp execOp
    simp only [ho, resolve, invoke, builtin, Sem.run_bind, Sem.run_pure, Result.andThen_ok, List.map_toArray, List.map_cons, List.map_nil, hs, hx, hrun]
    exact hK _ _ (h v w (by rw [List.append_nil]; exact hown) ⟨rfl, rfl, rfl, Nat.le_refl _, fun _ _ _ => rfl⟩ (.inl rfl))
  · subst hv
    exact wpList_append_own_at (w := w) hgd s x t ho base e i z size bytes ht hi hz hsize hby hzs hsz v n xs hs hown ⟨g, 0, none⟩ m cap news hx hox.1 (hox.cells (g := g) rfl) h1 h63 hbytes hbase (fun v' w' h2 h3 _ h5 => h v' w' h2 h3 h5)
structure O3 (base : Nat) (W : World) (vb vm va : Value) (p : Pts) : Prop where
  b : W.ownsRow base tInt 1 vb p.b.length (p.b.map nv)
  m : W.ownsRow base tInt 1 vm p.m.length (p.m.map nv)
  a : W.ownsRow base tInt 1 va p.a.length (p.a.map nv)
  bm : vb.ownBlock = none ∨ vb.ownBlock ≠ vm.ownBlock
  ba : vb.ownBlock = none ∨ vb.ownBlock ≠ va.ownBlock
  ma : vm.ownBlock = none ∨ vm.ownBlock ≠ va.ownBlock
theorem part_symm {x y : Option Nat} (h : x = none ∨ x ≠ y) : y = none ∨ y ≠ x := by
  rcases h with h | h
  · subst h
    cases y with
    | none => exact .inl rfl
    | some k => exact .inr (by simp)
  · exact .inr fun e => h e.symm
theorem part_new {W : World} {base n : Nat} {x : Value} {xs : List Value} {y y' : Option Nat} (hx : W.ownsRow base tInt 1 x n xs) (h : x.ownBlock = none ∨ x.ownBlock ≠ y) (hat : y' = y ∨ y' = some W.heap.size) : x.ownBlock = none ∨ x.ownBlock ≠ y' := by
  rcases hat with rfl | rfl
  · exact h
  · cases hb : x.ownBlock with
    | none => exact .inl rfl
    | some k => exact .inr fun e => by have := (hx.lt k hb).2; injection e with e; omega
section
variable {base : Nat} {W W' : World} {vb vm va v' : Value} {p : Pts} {i : Nat}
theorem O3.nil (base : Nat) (W : World) : O3 base W (.slice none 0 0) (.slice none 0 0) (.slice none 0 0) ⟨[], [], []⟩ :=
  ⟨World.ownsRow_nil _ _ _ _, World.ownsRow_nil _ _ _ _, World.ownsRow_nil _ _ _ _, .inl rfl, .inl rfl, .inl rfl⟩
theorem O3.on (h : O3 base W vb vm va p) (hb : Below W.heap.size W W') : O3 base W' vb vm va p := ⟨own_below h.b hb, own_below h.m hb, own_below h.a hb, h.bm, h.ba, h.ma⟩
theorem nv_snoc {l : List Nat} : l.map nv ++ [nv i] = (l ++ [i]).map nv := by rw [List.map_append]; rfl
theorem O3.addB (h : O3 base W vb vm va p) (ho : W'.ownsRow base tInt 1 v' (p.b.length + 1) (p.b.map nv ++ [nv i])) (hg : W.grownBy W' vb.ownBlock) (hat : v'.ownBlock = vb.ownBlock ∨ v'.ownBlock = some W.heap.size) : O3 base W' v' vm va { p with b := p.b ++ [i] } :=
  ⟨by rw [nv_snoc] at ho; simpa using ho, h.m.kept hg (part_symm h.bm), h.a.kept hg (part_symm h.ba), part_symm (part_new h.m (part_symm h.bm) hat), part_symm (part_new h.a (part_symm h.ba) hat), h.ma⟩
theorem O3.addM (h : O3 base W vb vm va p) (ho : W'.ownsRow base tInt 1 v' (p.m.length + 1) (p.m.map nv ++ [nv i])) (hg : W.grownBy W' vm.ownBlock) (hat : v'.ownBlock = vm.ownBlock ∨ v'.ownBlock = some W.heap.size) : O3 base W' vb v' va { p with m := p.m ++ [i] } :=
  ⟨h.b.kept hg h.bm, by rw [nv_snoc] at ho; simpa using ho, h.a.kept hg (part_symm h.ma), part_new h.b h.bm hat, h.ba, part_symm (part_new h.a (part_symm h.ma) hat)⟩
theorem O3.addA (h : O3 base W vb vm va p) (ho : W'.ownsRow base tInt 1 v' (p.a.length + 1) (p.a.map nv ++ [nv i])) (hg : W.grownBy W' va.ownBlock) (hat : v'.ownBlock = va.ownBlock ∨ v'.ownBlock = some W.heap.size) : O3 base W' vb vm v' { p with a := p.a ++ [i] } :=
  ⟨h.b.kept hg h.ba, h.m.kept hg h.ma, by rw [nv_snoc] at ho; simpa using ho, h.bm, part_new h.b h.ba hat, part_new h.m h.ma hat⟩
end
def OrdPost (w : World) (cs : List CallV) (e : Ending) (w' : World) : Prop :=
  ((checkP cs).2 = 22 ∧ e = .returned (.tuple #[.slice none 0 0, .int .i64 22]) ∧ Below w.heap.size w w') ∨
  ((checkP cs).2 = 0 ∧ ∃ v E, EffIs cs E ∧ e = .returned (.tuple #[v, .int .i64 0]) ∧ w'.ownsRow w.heap.size tInt 1 v (ordW cs E).length ((ordW cs E).map nv) ∧ Below w.heap.size w w')
def ORl (cs : List CallV) (E : List Nat) (z base : Nat) (w : World) (vb vm va i : Value) (wr : World) : Prop :=
  ∃ (k : Nat) (p : Pts), i = .int .i64 k ∧ k ≤ E.length ∧ Below w.heap.size w wr ∧ O3 base wr vb vm va p ∧ ptsW cs z (E.take k) = p
structure KK (nb bq o : Nat) (c d : CallV) (W0 : World) : Prop where
  new : W0.heap[nb]? = some (.cells (callL c).toArray 56 (0, 0))
  d10 : W0.cell? ⟨bq, o + 10, none⟩ = some (.int .i64 d.took)
  d11 : W0.cell? ⟨bq, o + 11, none⟩ = some (.int .i64 d.rank)
theorem KK.k14 {nb bq o : Nat} {c d : CallV} {W0 W : World} (h : KK nb bq o c d W0) (hb : Below W0.heap.size W0 W) : W.cell? ⟨nb, 10, none⟩ = some (.int .i64 c.took) ∧ W.cell? ⟨nb, 9, none⟩ = some (.int .i64 c.invoked) ∧ W.cell? ⟨nb, 14, none⟩ = some (.int .i64 c.err) ∧ W.cell? ⟨bq, o + 10, none⟩ = some (.int .i64 d.took) := by
  have hn := blk_below h.new hb (Array.getElem?_eq_some_iff.1 h.new).1
  exact ⟨by rw [blk_cell hn]; rfl, by rw [blk_cell hn]; rfl, by rw [blk_cell hn]; rfl, (hb.cell (cell_size h.d10)).trans h.d10⟩
theorem KK.k16 {nb bq o : Nat} {c d : CallV} {W0 W : World} (h : KK nb bq o c d W0) (hb : Below W0.heap.size W0 W) : W.cell? ⟨nb, 10, none⟩ = some (.int .i64 c.took) ∧ W.cell? ⟨nb, 11, none⟩ = some (.int .i64 c.rank) ∧ W.cell? ⟨bq, o + 10, none⟩ = some (.int .i64 d.took) ∧ W.cell? ⟨bq, o + 11, none⟩ = some (.int .i64 d.rank) := by
  have hn := blk_below h.new hb (Array.getElem?_eq_some_iff.1 h.new).1
  exact ⟨by rw [blk_cell hn]; rfl, by rw [blk_cell hn]; rfl, (hb.cell (cell_size h.d10)).trans h.d10, (hb.cell (cell_size h.d11)).trans h.d11⟩
theorem pts_len {cs : List CallV} {z : Nat} : ∀ (E : List Nat) (p : Pts), (E.foldl (stepW cs z) p).b.length + (E.foldl (stepW cs z) p).m.length + (E.foldl (stepW cs z) p).a.length ≤ p.b.length + p.m.length + p.a.length + E.length
  | [], p => by simp
  | i :: E, p => by
    have h := pts_len (cs := cs) (z := z) E (stepW cs z p i)
    have h2 : (stepW cs z p i).b.length + (stepW cs z p i).m.length + (stepW cs z p i).a.length ≤ p.b.length + p.m.length + p.a.length + 1 := by
      unfold stepW
      split
      · omega
      · split
        · simp; omega
        · split <;> simp <;> omega
    rw [List.foldl_cons, List.length_cons]
    omega
theorem order_any (p : Option Addr) (cap : Nat) (cs : List CallV) (w : World) (hC : CRow w p cap cs) (hs : cs.length ≤ 1000) (hok : ∀ c ∈ cs, c.Ok) :
    Calls Tryz.prog 36 #[.slice p cs.length cap] w (OrdPost w cs) := by
  obtain ⟨i0, hi, hz0, hz1, hz2⟩ := info_parts infoI
  have hef := effects_any p cap cs w hC (by omega) hok
  go_enter Tryz.func36, Tryz.ntmps36
  go_wp2_with fail
  refine hef.mono ?_
  clear hef
  rintro e w1 (⟨h22, rfl, hb1⟩ | ⟨h0, v, E, hE, rfl, hO, hb1⟩)
  · go_wp2_with fail
    go_returns
    exact .inl ⟨h22, rfl, hb1⟩
  · obtain ⟨ae, qe, rfl⟩ := own_slice hO
    have hO1 : IRd w1 ae (E.map fun (x : Nat) => (x : Int)) := IRd.of (irow_own hO rfl)
    have hEl : E.length ≤ cs.length := eff_len hE
    have hcl := closing_any ae p qe cap E cs w1 hO1 (hC.on hb1) (fun i hi => ((eff_in hE).1 hi).1) (by omega) (by omega)
    cases hc : closeP cs E with
    | none =>
      rw [hc] at hcl
      have hord := ord_none hc
      have Hc := Lib.hid hc
      clear hc
      go_wp2_with fail
      refine hcl.mono ?_
      rintro e w2 ⟨rfl, hb2⟩
      go_wp2_with fail
      go_returns
      refine .inr ⟨h0, _, E, hE, rfl, ?_, hb1.trans (hb2.mono hb1.size)⟩
      rw [hord]
      exact own_mono (by omega) (own_below hO hb2)
    | some z =>
      have ecl : clI (some z) = (z : Int) := rfl
      rw [hc, ecl] at hcl
      have hzE : z ∈ E := List.mem_of_find?_eq_some hc
      obtain ⟨hzl, _⟩ := (eff_in hE).1 hzE
      have hord : ordW cs E = (ptsW cs z E).b ++ (ptsW cs z E).m ++ [z] ++ (ptsW cs z E).a := by unfold ordW; rw [hc]
      have Hc := Lib.hid hc
      have Hord := Lib.hid hord
      clear hc hord
      go_wp2_with fail
      refine hcl.mono ?_
      clear hcl
      rintro e w2 ⟨rfl, hb2⟩
      have hbw : Below w.heap.size w w2 := hb1.trans (hb2.mono hb1.size)
      obtain ⟨base, hbase⟩ : ∃ base, w2.heap.size = base := ⟨_, rfl⟩
      have hO2 := hO1.on hb2
      have hC2 := hC.on hbw
      clear hO1 hO hb1 hb2
      go_wp2_with fail
      go_loopw [7, 8, 9, 11, 12, 29] (fun vb vm va x11 x12 i wr => ORl cs E z base w2 vb vm va i wr) (fun vb vm va x11 x12 i wr => E.length - (intOf i).toNat)
      case atStart => exact ⟨0, ⟨[], [], []⟩, rfl, by omega, Below.refl _ _, O3.nil _ _, rfl⟩
      case round =>
        obtain ⟨k, pt, rfl, hk, hB, hO3, hpt⟩ := hrel
        obtain ⟨av, qv, rfl⟩ := own_slice hO3.a
        by_cases hlt : k < E.length
        · obtain ⟨i, hiE⟩ : ∃ i, E[k]? = some i := ⟨_, List.getElem?_eq_getElem hlt⟩
          obtain ⟨bo, oo, rfl, hcc⟩ := irow_at hO2 (by rw [List.length_map]; omega)
          have hck := hcc wr hB k _ (cast_at hiE)
          have hic : i < cs.length := ((eff_in hE).1 (List.mem_of_getElem? hiE)).1
          obtain ⟨bq, off, rfl, hcap, hbq, hA⟩ := crow_at hC2 (by omega)
          have hAr := hA.below hB hbq
          have hld := hAr.load (getC_some hic)
          have hst := pts_step (cs := cs) (z := z) hiE
          rw [hpt] at hst
          have hpl : pt.b.length + pt.m.length + pt.a.length ≤ 1000 := by
            have := pts_len (cs := cs) (z := z) (E.take k) ⟨[], [], []⟩
            have e : (E.take k).foldl (stepW cs z) ⟨[], [], []⟩ = pt := hpt
            rw [e, List.length_take] at this
            simp only [List.length_nil] at this
            omega
          have z10 := hAr.cell (getC_some hzl) 10 (by omega)
          have z11 := hAr.cell (getC_some hzl) 11 (by omega)
          rw [callL_10] at z10
          rw [callL_11] at z11
          have hcL : getC cs i = getC cs i := rfl
          have hst2 : stepW cs z pt i = if i = z then pt else if mvQ cs z i then { pt with m := pt.m ++ [i] } else if (!pt.a.isEmpty || afQ cs z i) then { pt with a := pt.a ++ [i] } else { pt with b := pt.b ++ [i] } := rfl
          have hmv : mvQ cs z i = (decide ((getC cs z).took < (getC cs i).took) && decide ((getC cs i).invoked < (getC cs z).took) && decide ((getC cs i).err ≠ 13)) := rfl
          have haf : afQ cs z i = (decide ((getC cs z).took < (getC cs i).took) || (decide ((getC cs i).took = (getC cs z).took) && decide ((getC cs z).rank < (getC cs i).rank))) := rfl
          rw [hst2] at hst
          have h0b : Below wr.heap.size wr (wr.alloc (.cells (callL (getC cs i)).toArray 56)) := (Below.refl _ _).alloc (Nat.le_refl _) _
          have hKK : KK wr.heap.size bq (off + z * 27) (getC cs i) (getC cs z) (wr.alloc (.cells (callL (getC cs i)).toArray 56)) := ⟨blk_new _ _ _, (h0b.cell (cell_size z10)).trans z10, (h0b.cell (cell_size z11)).trans z11⟩
          have hB0 := hB.trans (h0b.mono hB.size)
          have hO0 := hO3.on h0b
          generalize getC cs i = c at *
          generalize getC cs z = d at *
          have Hst := Lib.hid hst
          have Hmv := Lib.hid hmv
          have Haf := Lib.hid haf
          have Hpl := Lib.hid hpl
          clear hst hst2 hmv haf hpl hcL hcc hO2 hC2 hA hAr hpt hO3 z10 z11
          by_cases hiz : i = z
          · subst hiz
            go_wp2_with fail
            go_roundw
            case rel => exact ⟨k + 1, pt, by go_num, by omega, hB0, hO0, by rw [Hst.out, if_pos rfl]⟩
            case measure => simp [intOf]; omega
          · have n1 : ((i : Int) == (z : Int)) = false := by rw [beq_eq_false_iff_ne]; omega
            have n2 : (i == z) = false := by simpa using hiz
            have n3 : (i = z) = False := by simpa using hiz
            have Hiz := Lib.hid hiz
            clear hiz
            go_wp2_with fail
            have HK := Lib.hid hKK
            clear hKK hld hck
            generalize wr.alloc (.cells (callL c).toArray 56) = W0 at *
            generalize wr.heap.size = nb at *
            have hbs : w2.heap.size ≤ W0.heap.size := hB0.size
            by_cases h1 : d.took < c.took
            · have e1 : decide (d.took < c.took) = true := by simpa using h1
              by_cases h2 : c.invoked < d.took
              · have e2 : decide (c.invoked < d.took) = true := by simpa using h2
                by_cases h3 : c.err = 13
                · have e3 : (c.err != 13) = false := by simpa using h3
                  have em : mvQ cs z i = false := by rw [Hmv.out, e1, e2]; simpa using h3
                  clear h1 h2 h3
                  by_cases h4 : 0 < pt.a.length
                  · have e4 : decide (0 < pt.a.length) = true := by simpa using h4
                    have hta : (!pt.a.isEmpty || afQ cs z i) = true := by
                      have : pt.a.isEmpty = false := by cases ha : pt.a with | nil => rw [ha] at h4; simp at h4 | cons x l => rfl
                      rw [this]; rfl
                    have hs2 : ptsW cs z (E.take (k + 1)) = { pt with a := pt.a ++ [i] } := by rw [Hst.out, if_neg Hiz.out, if_neg (by rw [em]; simp), if_pos hta]
                    have Hs2 := Lib.hid hs2
                    clear hs2 em hta
                    clear h4
                    refine wp_region_noPanic ?_
                    refine wp_region_held_drew (S := fun W => W.cell? ⟨nb, 10, none⟩ = some (.int .i64 c.took) ∧ W.cell? ⟨nb, 9, none⟩ = some (.int .i64 c.invoked) ∧ W.cell? ⟨nb, 14, none⟩ = some (.int .i64 c.err) ∧ W.cell? ⟨bq, off + z * 27 + 10, none⟩ = some (.int .i64 d.took)) (by kernel_rfl) ?_ (fun hHeld => ?_)
                    · first | exact HK.out.k14 (Below.refl _ _).drew | exact HK.out.k14 (Below.refl _ _)
                    iterate 25 (first | (refine np_sn ?_; (try simp only [nSO])) | ((first | refine np_n ?_ ?_ ?_ | refine np_t 0 ?_ ?_ ?_); rotate_left 1; (· (intro w hSw; (try dsimp only at hSw); go_simp; all_goals with_reducible rfl)); (try simp only [nSO])))
                    refine wpAnyH_done (by kernel_rfl) ?_ _
                    refine NoPanic.normal ?_
                    go_wp2_with fail
                    refine wp_region_noPanic ?_
                    refine wp_region_held_drew (S := fun W => W.cell? ⟨nb, 10, none⟩ = some (.int .i64 c.took) ∧ W.cell? ⟨nb, 11, none⟩ = some (.int .i64 c.rank) ∧ W.cell? ⟨bq, off + z * 27 + 10, none⟩ = some (.int .i64 d.took) ∧ W.cell? ⟨bq, off + z * 27 + 11, none⟩ = some (.int .i64 d.rank)) (by kernel_rfl) ?_ (fun hHeld => ?_)
                    · first | exact HK.out.k16 (Below.refl _ _).drew | exact HK.out.k16 (Below.refl _ _).drew.drew
                    iterate 34 (first | (refine np_sn ?_; (try simp only [nSO])) | ((first | refine np_n ?_ ?_ ?_ | refine np_t 0 ?_ ?_ ?_); rotate_left 1; (· (intro w hSw; (try dsimp only at hSw); go_simp; all_goals with_reducible rfl)); (try simp only [nSO])))
                    refine wpAnyH_done (by kernel_rfl) ?_ _
                    refine NoPanic.normal ?_
                    have hbd := (Below.refl W0.heap.size W0).drew.drew
                    have hO2 := hO0.on hbd
                    have hB2 := hB0.drew.drew
                    clear hHeld
                    generalize W0.drew.drew = W1 at *
                    have hl2 := Hpl.out
                    go_wp2_with (at_builtin; (refine wpList_append_own_at _ rfl _ _ 28 rfl base tInt i0 (.int .i64 0) 1 8 Tryz.underlying28 hi hz0 hz1 hz2 rfl (by decide) _ _ _ rfl (hO2.a.alloc _) ⟨_, 0, none⟩ 1 1 [nv i] rfl rfl (cell_one_new _ _ _) (by simp [Value.oneCell', nv]) (by unfold maxLen; omega) (by omega) (by have := hB2.size; simp; omega) ?_; intro v5 w5 hO5 hg5 _ hat5))
                    have hO6 := (hO2.on (below_alloc _ _)).addA hO5 hg5 hat5
                    have hB6 := (hB2.alloc hB2.size (.cells #[.int .i64 (i : Int)] tInt)).grown hg5 (by have := hB2.size; simp; omega) (fun k hk => by have := (hO2.a.lt k hk).1; omega)
                    go_roundw
                    case rel => exact ⟨k + 1, _, by go_num, by omega, hB6, hO6, Hs2.out⟩
                    case measure => simp [intOf]; omega
                  · have e4 : decide (0 < pt.a.length) = false := by simpa using h4
                    have hta : (!pt.a.isEmpty || afQ cs z i) = true := by
                      rw [Haf.out, e1]; simp
                    have hs2 : ptsW cs z (E.take (k + 1)) = { pt with a := pt.a ++ [i] } := by rw [Hst.out, if_neg Hiz.out, if_neg (by rw [em]; simp), if_pos hta]
                    have Hs2 := Lib.hid hs2
                    clear hs2 em hta
                    clear h4
                    refine wp_region_noPanic ?_
                    refine wp_region_held_drew (S := fun W => W.cell? ⟨nb, 10, none⟩ = some (.int .i64 c.took) ∧ W.cell? ⟨nb, 9, none⟩ = some (.int .i64 c.invoked) ∧ W.cell? ⟨nb, 14, none⟩ = some (.int .i64 c.err) ∧ W.cell? ⟨bq, off + z * 27 + 10, none⟩ = some (.int .i64 d.took)) (by kernel_rfl) ?_ (fun hHeld => ?_)
                    · first | exact HK.out.k14 (Below.refl _ _).drew | exact HK.out.k14 (Below.refl _ _)
                    iterate 25 (first | (refine np_sn ?_; (try simp only [nSO])) | ((first | refine np_n ?_ ?_ ?_ | refine np_t 0 ?_ ?_ ?_); rotate_left 1; (· (intro w hSw; (try dsimp only at hSw); go_simp; all_goals with_reducible rfl)); (try simp only [nSO])))
                    refine wpAnyH_done (by kernel_rfl) ?_ _
                    refine NoPanic.normal ?_
                    go_wp2_with fail
                    refine wp_region_noPanic ?_
                    refine wp_region_held_drew (S := fun W => W.cell? ⟨nb, 10, none⟩ = some (.int .i64 c.took) ∧ W.cell? ⟨nb, 11, none⟩ = some (.int .i64 c.rank) ∧ W.cell? ⟨bq, off + z * 27 + 10, none⟩ = some (.int .i64 d.took) ∧ W.cell? ⟨bq, off + z * 27 + 11, none⟩ = some (.int .i64 d.rank)) (by kernel_rfl) ?_ (fun hHeld => ?_)
                    · first | exact HK.out.k16 (Below.refl _ _).drew | exact HK.out.k16 (Below.refl _ _).drew.drew
                    iterate 34 (first | (refine np_sn ?_; (try simp only [nSO])) | ((first | refine np_n ?_ ?_ ?_ | refine np_t 0 ?_ ?_ ?_); rotate_left 1; (· (intro w hSw; (try dsimp only at hSw); go_simp; all_goals with_reducible rfl)); (try simp only [nSO])))
                    refine wpAnyH_done (by kernel_rfl) ?_ _
                    refine NoPanic.normal ?_
                    have hbd := (Below.refl W0.heap.size W0).drew.drew
                    have hO2 := hO0.on hbd
                    have hB2 := hB0.drew.drew
                    clear hHeld
                    generalize W0.drew.drew = W1 at *
                    have hl2 := Hpl.out
                    go_wp2_with (at_builtin; (refine wpList_append_own_at _ rfl _ _ 28 rfl base tInt i0 (.int .i64 0) 1 8 Tryz.underlying28 hi hz0 hz1 hz2 rfl (by decide) _ _ _ rfl (hO2.a.alloc _) ⟨_, 0, none⟩ 1 1 [nv i] rfl rfl (cell_one_new _ _ _) (by simp [Value.oneCell', nv]) (by unfold maxLen; omega) (by omega) (by have := hB2.size; simp; omega) ?_; intro v5 w5 hO5 hg5 _ hat5))
                    have hO6 := (hO2.on (below_alloc _ _)).addA hO5 hg5 hat5
                    have hB6 := (hB2.alloc hB2.size (.cells #[.int .i64 (i : Int)] tInt)).grown hg5 (by have := hB2.size; simp; omega) (fun k hk => by have := (hO2.a.lt k hk).1; omega)
                    go_roundw
                    case rel => exact ⟨k + 1, _, by go_num, by omega, hB6, hO6, Hs2.out⟩
                    case measure => simp [intOf]; omega
                · have e3 : (c.err != 13) = true := by simpa using h3
                  have em : mvQ cs z i = true := by rw [Hmv.out, e1, e2]; simpa using h3
                  have hs2 : ptsW cs z (E.take (k + 1)) = { pt with m := pt.m ++ [i] } := by rw [Hst.out, if_neg Hiz.out, em]; rfl
                  have Hs2 := Lib.hid hs2
                  clear h1 h2 h3 em hs2
                  refine wp_region_noPanic ?_
                  refine wp_region_held_drew (S := fun W => W.cell? ⟨nb, 10, none⟩ = some (.int .i64 c.took) ∧ W.cell? ⟨nb, 9, none⟩ = some (.int .i64 c.invoked) ∧ W.cell? ⟨nb, 14, none⟩ = some (.int .i64 c.err) ∧ W.cell? ⟨bq, off + z * 27 + 10, none⟩ = some (.int .i64 d.took)) (by kernel_rfl) ?_ (fun hHeld => ?_)
                  · first | exact HK.out.k14 (Below.refl _ _).drew | exact HK.out.k14 (Below.refl _ _)
                  iterate 25 (first | (refine np_sn ?_; (try simp only [nSO])) | ((first | refine np_n ?_ ?_ ?_ | refine np_t 0 ?_ ?_ ?_); rotate_left 1; (· (intro w hSw; (try dsimp only at hSw); go_simp; all_goals with_reducible rfl)); (try simp only [nSO])))
                  refine wpAnyH_done (by kernel_rfl) ?_ _
                  refine NoPanic.normal ?_
                  have hbd := (Below.refl W0.heap.size W0).drew
                  have hO2 := hO0.on hbd
                  have hB2 := hB0.drew
                  generalize W0.drew = W1 at *
                  have hl2 := Hpl.out
                  go_wp2_with (at_builtin; (refine wpList_append_own_at _ rfl _ _ 28 rfl base tInt i0 (.int .i64 0) 1 8 Tryz.underlying28 hi hz0 hz1 hz2 rfl (by decide) _ _ _ rfl (hO2.m.alloc _) ⟨_, 0, none⟩ 1 1 [nv i] rfl rfl (cell_one_new _ _ _) (by simp [Value.oneCell', nv]) (by unfold maxLen; omega) (by omega) (by have := hB2.size; simp; omega) ?_; intro v5 w5 hO5 hg5 _ hat5))
                  have hO6 := (hO2.on (below_alloc _ _)).addM hO5 hg5 hat5
                  have hB6 := (hB2.alloc hB2.size (.cells #[.int .i64 (i : Int)] tInt)).grown hg5 (by have := hB2.size; simp; omega) (fun k hk => by have := (hO2.m.lt k hk).1; omega)
                  go_roundw
                  case rel => exact ⟨k + 1, _, by go_num, by omega, hB6, hO6, Hs2.out⟩
                  case measure => simp [intOf]; omega
              · have e2 : decide (c.invoked < d.took) = false := by simpa using h2
                have em : mvQ cs z i = false := by rw [Hmv.out, e1, e2]; rfl
                clear h1 h2
                by_cases h4 : 0 < pt.a.length
                · have e4 : decide (0 < pt.a.length) = true := by simpa using h4
                  have hta : (!pt.a.isEmpty || afQ cs z i) = true := by
                    have : pt.a.isEmpty = false := by cases ha : pt.a with | nil => rw [ha] at h4; simp at h4 | cons x l => rfl
                    rw [this]; rfl
                  have hs2 : ptsW cs z (E.take (k + 1)) = { pt with a := pt.a ++ [i] } := by rw [Hst.out, if_neg Hiz.out, if_neg (by rw [em]; simp), if_pos hta]
                  have Hs2 := Lib.hid hs2
                  clear hs2 em hta
                  clear h4
                  refine wp_region_noPanic ?_
                  refine wp_region_held_drew (S := fun W => W.cell? ⟨nb, 10, none⟩ = some (.int .i64 c.took) ∧ W.cell? ⟨nb, 9, none⟩ = some (.int .i64 c.invoked) ∧ W.cell? ⟨nb, 14, none⟩ = some (.int .i64 c.err) ∧ W.cell? ⟨bq, off + z * 27 + 10, none⟩ = some (.int .i64 d.took)) (by kernel_rfl) ?_ (fun hHeld => ?_)
                  · first | exact HK.out.k14 (Below.refl _ _).drew | exact HK.out.k14 (Below.refl _ _)
                  iterate 25 (first | (refine np_sn ?_; (try simp only [nSO])) | ((first | refine np_n ?_ ?_ ?_ | refine np_t 0 ?_ ?_ ?_); rotate_left 1; (· (intro w hSw; (try dsimp only at hSw); go_simp; all_goals with_reducible rfl)); (try simp only [nSO])))
                  refine wpAnyH_done (by kernel_rfl) ?_ _
                  refine NoPanic.normal ?_
                  go_wp2_with fail
                  refine wp_region_noPanic ?_
                  refine wp_region_held_drew (S := fun W => W.cell? ⟨nb, 10, none⟩ = some (.int .i64 c.took) ∧ W.cell? ⟨nb, 11, none⟩ = some (.int .i64 c.rank) ∧ W.cell? ⟨bq, off + z * 27 + 10, none⟩ = some (.int .i64 d.took) ∧ W.cell? ⟨bq, off + z * 27 + 11, none⟩ = some (.int .i64 d.rank)) (by kernel_rfl) ?_ (fun hHeld => ?_)
                  · first | exact HK.out.k16 (Below.refl _ _).drew | exact HK.out.k16 (Below.refl _ _).drew.drew
                  iterate 34 (first | (refine np_sn ?_; (try simp only [nSO])) | ((first | refine np_n ?_ ?_ ?_ | refine np_t 0 ?_ ?_ ?_); rotate_left 1; (· (intro w hSw; (try dsimp only at hSw); go_simp; all_goals with_reducible rfl)); (try simp only [nSO])))
                  refine wpAnyH_done (by kernel_rfl) ?_ _
                  refine NoPanic.normal ?_
                  have hbd := (Below.refl W0.heap.size W0).drew.drew
                  have hO2 := hO0.on hbd
                  have hB2 := hB0.drew.drew
                  clear hHeld
                  generalize W0.drew.drew = W1 at *
                  have hl2 := Hpl.out
                  go_wp2_with (at_builtin; (refine wpList_append_own_at _ rfl _ _ 28 rfl base tInt i0 (.int .i64 0) 1 8 Tryz.underlying28 hi hz0 hz1 hz2 rfl (by decide) _ _ _ rfl (hO2.a.alloc _) ⟨_, 0, none⟩ 1 1 [nv i] rfl rfl (cell_one_new _ _ _) (by simp [Value.oneCell', nv]) (by unfold maxLen; omega) (by omega) (by have := hB2.size; simp; omega) ?_; intro v5 w5 hO5 hg5 _ hat5))
                  have hO6 := (hO2.on (below_alloc _ _)).addA hO5 hg5 hat5
                  have hB6 := (hB2.alloc hB2.size (.cells #[.int .i64 (i : Int)] tInt)).grown hg5 (by have := hB2.size; simp; omega) (fun k hk => by have := (hO2.a.lt k hk).1; omega)
                  go_roundw
                  case rel => exact ⟨k + 1, _, by go_num, by omega, hB6, hO6, Hs2.out⟩
                  case measure => simp [intOf]; omega
                · have e4 : decide (0 < pt.a.length) = false := by simpa using h4
                  have hta : (!pt.a.isEmpty || afQ cs z i) = true := by
                    rw [Haf.out, e1]; simp
                  have hs2 : ptsW cs z (E.take (k + 1)) = { pt with a := pt.a ++ [i] } := by rw [Hst.out, if_neg Hiz.out, if_neg (by rw [em]; simp), if_pos hta]
                  have Hs2 := Lib.hid hs2
                  clear hs2 em hta
                  clear h4
                  refine wp_region_noPanic ?_
                  refine wp_region_held_drew (S := fun W => W.cell? ⟨nb, 10, none⟩ = some (.int .i64 c.took) ∧ W.cell? ⟨nb, 9, none⟩ = some (.int .i64 c.invoked) ∧ W.cell? ⟨nb, 14, none⟩ = some (.int .i64 c.err) ∧ W.cell? ⟨bq, off + z * 27 + 10, none⟩ = some (.int .i64 d.took)) (by kernel_rfl) ?_ (fun hHeld => ?_)
                  · first | exact HK.out.k14 (Below.refl _ _).drew | exact HK.out.k14 (Below.refl _ _)
                  iterate 25 (first | (refine np_sn ?_; (try simp only [nSO])) | ((first | refine np_n ?_ ?_ ?_ | refine np_t 0 ?_ ?_ ?_); rotate_left 1; (· (intro w hSw; (try dsimp only at hSw); go_simp; all_goals with_reducible rfl)); (try simp only [nSO])))
                  refine wpAnyH_done (by kernel_rfl) ?_ _
                  refine NoPanic.normal ?_
                  go_wp2_with fail
                  refine wp_region_noPanic ?_
                  refine wp_region_held_drew (S := fun W => W.cell? ⟨nb, 10, none⟩ = some (.int .i64 c.took) ∧ W.cell? ⟨nb, 11, none⟩ = some (.int .i64 c.rank) ∧ W.cell? ⟨bq, off + z * 27 + 10, none⟩ = some (.int .i64 d.took) ∧ W.cell? ⟨bq, off + z * 27 + 11, none⟩ = some (.int .i64 d.rank)) (by kernel_rfl) ?_ (fun hHeld => ?_)
                  · first | exact HK.out.k16 (Below.refl _ _).drew | exact HK.out.k16 (Below.refl _ _).drew.drew
                  iterate 34 (first | (refine np_sn ?_; (try simp only [nSO])) | ((first | refine np_n ?_ ?_ ?_ | refine np_t 0 ?_ ?_ ?_); rotate_left 1; (· (intro w hSw; (try dsimp only at hSw); go_simp; all_goals with_reducible rfl)); (try simp only [nSO])))
                  refine wpAnyH_done (by kernel_rfl) ?_ _
                  refine NoPanic.normal ?_
                  have hbd := (Below.refl W0.heap.size W0).drew.drew
                  have hO2 := hO0.on hbd
                  have hB2 := hB0.drew.drew
                  clear hHeld
                  generalize W0.drew.drew = W1 at *
                  have hl2 := Hpl.out
                  go_wp2_with (at_builtin; (refine wpList_append_own_at _ rfl _ _ 28 rfl base tInt i0 (.int .i64 0) 1 8 Tryz.underlying28 hi hz0 hz1 hz2 rfl (by decide) _ _ _ rfl (hO2.a.alloc _) ⟨_, 0, none⟩ 1 1 [nv i] rfl rfl (cell_one_new _ _ _) (by simp [Value.oneCell', nv]) (by unfold maxLen; omega) (by omega) (by have := hB2.size; simp; omega) ?_; intro v5 w5 hO5 hg5 _ hat5))
                  have hO6 := (hO2.on (below_alloc _ _)).addA hO5 hg5 hat5
                  have hB6 := (hB2.alloc hB2.size (.cells #[.int .i64 (i : Int)] tInt)).grown hg5 (by have := hB2.size; simp; omega) (fun k hk => by have := (hO2.a.lt k hk).1; omega)
                  go_roundw
                  case rel => exact ⟨k + 1, _, by go_num, by omega, hB6, hO6, Hs2.out⟩
                  case measure => simp [intOf]; omega
            · have e1 : decide (d.took < c.took) = false := by simpa using h1
              have em : mvQ cs z i = false := by rw [Hmv.out, e1]; rfl
              by_cases h4 : 0 < pt.a.length
              · have e4 : decide (0 < pt.a.length) = true := by simpa using h4
                have hta : (!pt.a.isEmpty || afQ cs z i) = true := by
                  have : pt.a.isEmpty = false := by cases ha : pt.a with | nil => rw [ha] at h4; simp at h4 | cons x l => rfl
                  rw [this]; rfl
                have hs2 : ptsW cs z (E.take (k + 1)) = { pt with a := pt.a ++ [i] } := by rw [Hst.out, if_neg Hiz.out, if_neg (by rw [em]; simp), if_pos hta]
                have Hs2 := Lib.hid hs2
                clear hs2 em hta
                clear h4 h1
                refine wp_region_noPanic ?_
                refine wp_region_held_drew (S := fun W => W.cell? ⟨nb, 10, none⟩ = some (.int .i64 c.took) ∧ W.cell? ⟨nb, 9, none⟩ = some (.int .i64 c.invoked) ∧ W.cell? ⟨nb, 14, none⟩ = some (.int .i64 c.err) ∧ W.cell? ⟨bq, off + z * 27 + 10, none⟩ = some (.int .i64 d.took)) (by kernel_rfl) ?_ (fun hHeld => ?_)
                · first | exact HK.out.k14 (Below.refl _ _).drew | exact HK.out.k14 (Below.refl _ _)
                iterate 25 (first | (refine np_sn ?_; (try simp only [nSO])) | ((first | refine np_n ?_ ?_ ?_ | refine np_t 0 ?_ ?_ ?_); rotate_left 1; (· (intro w hSw; (try dsimp only at hSw); go_simp; all_goals with_reducible rfl)); (try simp only [nSO])))
                refine wpAnyH_done (by kernel_rfl) ?_ _
                refine NoPanic.normal ?_
                go_wp2_with fail
                refine wp_region_noPanic ?_
                refine wp_region_held_drew (S := fun W => W.cell? ⟨nb, 10, none⟩ = some (.int .i64 c.took) ∧ W.cell? ⟨nb, 11, none⟩ = some (.int .i64 c.rank) ∧ W.cell? ⟨bq, off + z * 27 + 10, none⟩ = some (.int .i64 d.took) ∧ W.cell? ⟨bq, off + z * 27 + 11, none⟩ = some (.int .i64 d.rank)) (by kernel_rfl) ?_ (fun hHeld => ?_)
                · first | exact HK.out.k16 (Below.refl _ _).drew | exact HK.out.k16 (Below.refl _ _).drew.drew
                iterate 34 (first | (refine np_sn ?_; (try simp only [nSO])) | ((first | refine np_n ?_ ?_ ?_ | refine np_t 0 ?_ ?_ ?_); rotate_left 1; (· (intro w hSw; (try dsimp only at hSw); go_simp; all_goals with_reducible rfl)); (try simp only [nSO])))
                refine wpAnyH_done (by kernel_rfl) ?_ _
                refine NoPanic.normal ?_
                have hbd := (Below.refl W0.heap.size W0).drew.drew
                have hO2 := hO0.on hbd
                have hB2 := hB0.drew.drew
                clear hHeld
                generalize W0.drew.drew = W1 at *
                have hl2 := Hpl.out
                go_wp2_with (at_builtin; (refine wpList_append_own_at _ rfl _ _ 28 rfl base tInt i0 (.int .i64 0) 1 8 Tryz.underlying28 hi hz0 hz1 hz2 rfl (by decide) _ _ _ rfl (hO2.a.alloc _) ⟨_, 0, none⟩ 1 1 [nv i] rfl rfl (cell_one_new _ _ _) (by simp [Value.oneCell', nv]) (by unfold maxLen; omega) (by omega) (by have := hB2.size; simp; omega) ?_; intro v5 w5 hO5 hg5 _ hat5))
                have hO6 := (hO2.on (below_alloc _ _)).addA hO5 hg5 hat5
                have hB6 := (hB2.alloc hB2.size (.cells #[.int .i64 (i : Int)] tInt)).grown hg5 (by have := hB2.size; simp; omega) (fun k hk => by have := (hO2.a.lt k hk).1; omega)
                go_roundw
                case rel => exact ⟨k + 1, _, by go_num, by omega, hB6, hO6, Hs2.out⟩
                case measure => simp [intOf]; omega
              · have e4 : decide (0 < pt.a.length) = false := by simpa using h4
                have e7 : pt.a.isEmpty = true := by cases ha : pt.a with | nil => rfl | cons x l => rw [ha] at h4; simp at h4
                by_cases h5 : c.took = d.took
                · have e5 : (c.took == d.took) = true := by simpa using h5
                  by_cases h6 : d.rank < c.rank
                  · have e6 : decide (d.rank < c.rank) = true := by simpa using h6
                    have hta : (!pt.a.isEmpty || afQ cs z i) = true := by rw [Haf.out, e1, e6, e7]; simpa using h5
                    have hs2 : ptsW cs z (E.take (k + 1)) = { pt with a := pt.a ++ [i] } := by rw [Hst.out, if_neg Hiz.out, if_neg (by rw [em]; simp), if_pos hta]
                    have Hs2 := Lib.hid hs2
                    clear hs2 em hta
                    clear h4 h1 h5 h6 e7
                    refine wp_region_noPanic ?_
                    refine wp_region_held_drew (S := fun W => W.cell? ⟨nb, 10, none⟩ = some (.int .i64 c.took) ∧ W.cell? ⟨nb, 9, none⟩ = some (.int .i64 c.invoked) ∧ W.cell? ⟨nb, 14, none⟩ = some (.int .i64 c.err) ∧ W.cell? ⟨bq, off + z * 27 + 10, none⟩ = some (.int .i64 d.took)) (by kernel_rfl) ?_ (fun hHeld => ?_)
                    · first | exact HK.out.k14 (Below.refl _ _).drew | exact HK.out.k14 (Below.refl _ _)
                    iterate 25 (first | (refine np_sn ?_; (try simp only [nSO])) | ((first | refine np_n ?_ ?_ ?_ | refine np_t 0 ?_ ?_ ?_); rotate_left 1; (· (intro w hSw; (try dsimp only at hSw); go_simp; all_goals with_reducible rfl)); (try simp only [nSO])))
                    refine wpAnyH_done (by kernel_rfl) ?_ _
                    refine NoPanic.normal ?_
                    go_wp2_with fail
                    refine wp_region_noPanic ?_
                    refine wp_region_held_drew (S := fun W => W.cell? ⟨nb, 10, none⟩ = some (.int .i64 c.took) ∧ W.cell? ⟨nb, 11, none⟩ = some (.int .i64 c.rank) ∧ W.cell? ⟨bq, off + z * 27 + 10, none⟩ = some (.int .i64 d.took) ∧ W.cell? ⟨bq, off + z * 27 + 11, none⟩ = some (.int .i64 d.rank)) (by kernel_rfl) ?_ (fun hHeld => ?_)
                    · first | exact HK.out.k16 (Below.refl _ _).drew | exact HK.out.k16 (Below.refl _ _).drew.drew
                    iterate 34 (first | (refine np_sn ?_; (try simp only [nSO])) | ((first | refine np_n ?_ ?_ ?_ | refine np_t 0 ?_ ?_ ?_); rotate_left 1; (· (intro w hSw; (try dsimp only at hSw); go_simp; all_goals with_reducible rfl)); (try simp only [nSO])))
                    refine wpAnyH_done (by kernel_rfl) ?_ _
                    refine NoPanic.normal ?_
                    have hbd := (Below.refl W0.heap.size W0).drew.drew
                    have hO2 := hO0.on hbd
                    have hB2 := hB0.drew.drew
                    clear hHeld
                    generalize W0.drew.drew = W1 at *
                    have hl2 := Hpl.out
                    go_wp2_with (at_builtin; (refine wpList_append_own_at _ rfl _ _ 28 rfl base tInt i0 (.int .i64 0) 1 8 Tryz.underlying28 hi hz0 hz1 hz2 rfl (by decide) _ _ _ rfl (hO2.a.alloc _) ⟨_, 0, none⟩ 1 1 [nv i] rfl rfl (cell_one_new _ _ _) (by simp [Value.oneCell', nv]) (by unfold maxLen; omega) (by omega) (by have := hB2.size; simp; omega) ?_; intro v5 w5 hO5 hg5 _ hat5))
                    have hO6 := (hO2.on (below_alloc _ _)).addA hO5 hg5 hat5
                    have hB6 := (hB2.alloc hB2.size (.cells #[.int .i64 (i : Int)] tInt)).grown hg5 (by have := hB2.size; simp; omega) (fun k hk => by have := (hO2.a.lt k hk).1; omega)
                    go_roundw
                    case rel => exact ⟨k + 1, _, by go_num, by omega, hB6, hO6, Hs2.out⟩
                    case measure => simp [intOf]; omega
                  · have e6 : decide (d.rank < c.rank) = false := by simpa using h6
                    have htb : (!pt.a.isEmpty || afQ cs z i) = false := by rw [Haf.out, e1, e6, e7]; simp
                    have hs2 : ptsW cs z (E.take (k + 1)) = { pt with b := pt.b ++ [i] } := by rw [Hst.out, if_neg Hiz.out, if_neg (by rw [em]; simp), if_neg (by rw [htb]; simp)]
                    have Hs2 := Lib.hid hs2
                    clear hs2 em htb
                    clear h4 h1 h5 h6 e7
                    refine wp_region_noPanic ?_
                    refine wp_region_held_drew (S := fun W => W.cell? ⟨nb, 10, none⟩ = some (.int .i64 c.took) ∧ W.cell? ⟨nb, 9, none⟩ = some (.int .i64 c.invoked) ∧ W.cell? ⟨nb, 14, none⟩ = some (.int .i64 c.err) ∧ W.cell? ⟨bq, off + z * 27 + 10, none⟩ = some (.int .i64 d.took)) (by kernel_rfl) ?_ (fun hHeld => ?_)
                    · first | exact HK.out.k14 (Below.refl _ _).drew | exact HK.out.k14 (Below.refl _ _)
                    iterate 25 (first | (refine np_sn ?_; (try simp only [nSO])) | ((first | refine np_n ?_ ?_ ?_ | refine np_t 0 ?_ ?_ ?_); rotate_left 1; (· (intro w hSw; (try dsimp only at hSw); go_simp; all_goals with_reducible rfl)); (try simp only [nSO])))
                    refine wpAnyH_done (by kernel_rfl) ?_ _
                    refine NoPanic.normal ?_
                    go_wp2_with fail
                    refine wp_region_noPanic ?_
                    refine wp_region_held_drew (S := fun W => W.cell? ⟨nb, 10, none⟩ = some (.int .i64 c.took) ∧ W.cell? ⟨nb, 11, none⟩ = some (.int .i64 c.rank) ∧ W.cell? ⟨bq, off + z * 27 + 10, none⟩ = some (.int .i64 d.took) ∧ W.cell? ⟨bq, off + z * 27 + 11, none⟩ = some (.int .i64 d.rank)) (by kernel_rfl) ?_ (fun hHeld => ?_)
                    · first | exact HK.out.k16 (Below.refl _ _).drew | exact HK.out.k16 (Below.refl _ _).drew.drew
                    iterate 34 (first | (refine np_sn ?_; (try simp only [nSO])) | ((first | refine np_n ?_ ?_ ?_ | refine np_t 0 ?_ ?_ ?_); rotate_left 1; (· (intro w hSw; (try dsimp only at hSw); go_simp; all_goals with_reducible rfl)); (try simp only [nSO])))
                    refine wpAnyH_done (by kernel_rfl) ?_ _
                    refine NoPanic.normal ?_
                    have hbd := (Below.refl W0.heap.size W0).drew.drew
                    have hO2 := hO0.on hbd
                    have hB2 := hB0.drew.drew
                    clear hHeld
                    generalize W0.drew.drew = W1 at *
                    have hl2 := Hpl.out
                    go_wp2_with (at_builtin; (refine wpList_append_own_at _ rfl _ _ 28 rfl base tInt i0 (.int .i64 0) 1 8 Tryz.underlying28 hi hz0 hz1 hz2 rfl (by decide) _ _ _ rfl (hO2.b.alloc _) ⟨_, 0, none⟩ 1 1 [nv i] rfl rfl (cell_one_new _ _ _) (by simp [Value.oneCell', nv]) (by unfold maxLen; omega) (by omega) (by have := hB2.size; simp; omega) ?_; intro v5 w5 hO5 hg5 _ hat5))
                    have hO6 := (hO2.on (below_alloc _ _)).addB hO5 hg5 hat5
                    have hB6 := (hB2.alloc hB2.size (.cells #[.int .i64 (i : Int)] tInt)).grown hg5 (by have := hB2.size; simp; omega) (fun k hk => by have := (hO2.b.lt k hk).1; omega)
                    go_roundw
                    case rel => exact ⟨k + 1, _, by go_num, by omega, hB6, hO6, Hs2.out⟩
                    case measure => simp [intOf]; omega
                · have e5 : (c.took == d.took) = false := by simpa using h5
                  have htb : (!pt.a.isEmpty || afQ cs z i) = false := by rw [Haf.out, e1, e7]; simpa using fun h => absurd h h5
                  have hs2 : ptsW cs z (E.take (k + 1)) = { pt with b := pt.b ++ [i] } := by rw [Hst.out, if_neg Hiz.out, if_neg (by rw [em]; simp), if_neg (by rw [htb]; simp)]
                  have Hs2 := Lib.hid hs2
                  clear hs2 em htb
                  clear h4 h1 h5 e7
                  refine wp_region_noPanic ?_
                  refine wp_region_held_drew (S := fun W => W.cell? ⟨nb, 10, none⟩ = some (.int .i64 c.took) ∧ W.cell? ⟨nb, 9, none⟩ = some (.int .i64 c.invoked) ∧ W.cell? ⟨nb, 14, none⟩ = some (.int .i64 c.err) ∧ W.cell? ⟨bq, off + z * 27 + 10, none⟩ = some (.int .i64 d.took)) (by kernel_rfl) ?_ (fun hHeld => ?_)
                  · first | exact HK.out.k14 (Below.refl _ _).drew | exact HK.out.k14 (Below.refl _ _)
                  iterate 25 (first | (refine np_sn ?_; (try simp only [nSO])) | ((first | refine np_n ?_ ?_ ?_ | refine np_t 0 ?_ ?_ ?_); rotate_left 1; (· (intro w hSw; (try dsimp only at hSw); go_simp; all_goals with_reducible rfl)); (try simp only [nSO])))
                  refine wpAnyH_done (by kernel_rfl) ?_ _
                  refine NoPanic.normal ?_
                  go_wp2_with fail
                  refine wp_region_noPanic ?_
                  refine wp_region_held_drew (S := fun W => W.cell? ⟨nb, 10, none⟩ = some (.int .i64 c.took) ∧ W.cell? ⟨nb, 11, none⟩ = some (.int .i64 c.rank) ∧ W.cell? ⟨bq, off + z * 27 + 10, none⟩ = some (.int .i64 d.took) ∧ W.cell? ⟨bq, off + z * 27 + 11, none⟩ = some (.int .i64 d.rank)) (by kernel_rfl) ?_ (fun hHeld => ?_)
                  · first | exact HK.out.k16 (Below.refl _ _).drew | exact HK.out.k16 (Below.refl _ _).drew.drew
                  iterate 34 (first | (refine np_sn ?_; (try simp only [nSO])) | ((first | refine np_n ?_ ?_ ?_ | refine np_t 0 ?_ ?_ ?_); rotate_left 1; (· (intro w hSw; (try dsimp only at hSw); go_simp; all_goals with_reducible rfl)); (try simp only [nSO])))
                  refine wpAnyH_done (by kernel_rfl) ?_ _
                  refine NoPanic.normal ?_
                  have hbd := (Below.refl W0.heap.size W0).drew.drew
                  have hO2 := hO0.on hbd
                  have hB2 := hB0.drew.drew
                  clear hHeld
                  generalize W0.drew.drew = W1 at *
                  have hl2 := Hpl.out
                  go_wp2_with (at_builtin; (refine wpList_append_own_at _ rfl _ _ 28 rfl base tInt i0 (.int .i64 0) 1 8 Tryz.underlying28 hi hz0 hz1 hz2 rfl (by decide) _ _ _ rfl (hO2.b.alloc _) ⟨_, 0, none⟩ 1 1 [nv i] rfl rfl (cell_one_new _ _ _) (by simp [Value.oneCell', nv]) (by unfold maxLen; omega) (by omega) (by have := hB2.size; simp; omega) ?_; intro v5 w5 hO5 hg5 _ hat5))
                  have hO6 := (hO2.on (below_alloc _ _)).addB hO5 hg5 hat5
                  have hB6 := (hB2.alloc hB2.size (.cells #[.int .i64 (i : Int)] tInt)).grown hg5 (by have := hB2.size; simp; omega) (fun k hk => by have := (hO2.b.lt k hk).1; omega)
                  go_roundw
                  case rel => exact ⟨k + 1, _, by go_num, by omega, hB6, hO6, Hs2.out⟩
                  case measure => simp [intOf]; omega
        · have hke : k = E.length := by omega
          subst hke
          rw [List.take_length] at hpt
          have ho := Hord.out
          rw [hpt] at ho
          have hpl : pt.b.length + pt.m.length + pt.a.length ≤ 1000 := by
            have := pts_len (cs := cs) (z := z) E ⟨[], [], []⟩
            have e : E.foldl (stepW cs z) ⟨[], [], []⟩ = pt := hpt
            rw [e] at this
            simp only [List.length_nil] at this
            omega
          have Ho := Lib.hid ho
          clear ho hpt hO2 hC2
          have hbw0 := hbw
          go_wp2_with (first
            | (at_builtin; (refine wpList_append_rows rfl _ _ 28 rfl base tInt i0 (.int .i64 0) 1 8 Tryz.underlying28 hi hz0 hz1 hz2 rfl (by decide) _ pt.b.length (pt.b.map nv) rfl hO3.b _ pt.m.length base (pt.m.map nv) rfl hO3.m (by intro u hu; obtain ⟨x, _, rfl⟩ := List.mem_map.1 hu; rfl) (by unfold maxLen; omega) (by omega) (by have := hB.size; omega) ?_); intro v1 W1 hr1 hg1 hat1; have ha1 := hO3.a.kept hg1 (part_symm hO3.ba); have hba := part_new hO3.a (part_symm hO3.ba) hat1; have hBx := hB.grown hg1 (by have := hB.size; omega) (fun k hk => by have := (hO3.b.lt k hk).1; omega); clear hO3 hB)
            | (at_builtin; (refine wpList_append_rows rfl _ _ 28 rfl base tInt i0 (.int .i64 0) 1 8 Tryz.underlying28 hi hz0 hz1 hz2 rfl (by decide) _ _ _ rfl hr2 _ pt.a.length base (pt.a.map nv) rfl ha2 (by intro u hu; obtain ⟨x, _, rfl⟩ := List.mem_map.1 hu; rfl) (by unfold maxLen; omega) (by omega) (by have := hBy.size; omega) ?_); intro v3 W3 hr3 hg3 hat3; have hBz := hBy.grown hg3 (by have := hBy.size; omega) (fun k hk => by have := (hr2.lt k hk).1; omega))
            | (at_builtin; (refine wpList_append_own_at _ rfl _ _ 28 rfl base tInt i0 (.int .i64 0) 1 8 Tryz.underlying28 hi hz0 hz1 hz2 rfl (by decide) _ _ _ rfl (hr1.alloc _) ⟨_, 0, none⟩ 1 1 [nv z] rfl rfl (cell_one_new _ _ _) (by simp [Value.oneCell', nv]) (by unfold maxLen; omega) (by omega) (by have := hBx.size; simp; omega) ?_); intro v2 W2 hr2 hg2 _ hat2; have ha2 := (ha1.alloc _).kept hg2 hba; have hBy := (hBx.alloc hBx.size (.cells #[.int .i64 (z : Int)] tInt)).grown hg2 (by have := hBx.size; simp; omega) (fun k hk => by have := (hr1.lt k hk).1; omega); clear hr1 ha1 hBx))
          go_returns
          refine .inr ⟨h0, v3, E, hE, rfl, ?_, hbw.trans (hBz.mono hbw.size)⟩
          rw [Ho.out]
          have h9 := own_mono (B := w.heap.size) (by have := hbw.size; omega) hr3
          rw [show (pt.b ++ pt.m ++ [z] ++ pt.a).map nv = pt.b.map nv ++ pt.m.map nv ++ [nv z] ++ pt.a.map nv by simp only [List.map_append, List.map_cons, List.map_nil], show (pt.b ++ pt.m ++ [z] ++ pt.a).length = pt.b.length + pt.m.length + 1 + pt.a.length by simp only [List.length_append, List.length_singleton]]
          exact h9
end Go.Proofs.YtdeiocppghhfdaaGreat.Lin
namespace Go.Proofs.YtdeiocppghhfdaaGreat.Lin
set_option linter.unusedVariables false
set_option linter.unusedSimpArgs false
set_option maxRecDepth 100000
set_option maxHeartbeats 8000000
open Go.RowKit Go.Lib Go.Shelf
open Hs
open KitI (iv IRow own_below infoI)
attribute [local go_sem, local simp] Hs.callL_0 Hs.callL_1 Hs.callL_2 Hs.callL_3 Hs.callL_4 Hs.callL_5 Hs.callL_6 Hs.callL_7 Hs.callL_8 Hs.callL_9 Hs.callL_10 Hs.callL_11 Hs.callL_12 Hs.callL_13 Hs.callL_14 Hs.callL_15 Hs.callL_16 Hs.callL_17 Hs.callL_18 Hs.callL_19 Hs.callL_20 Hs.callL_21 Hs.callL_22 Hs.callL_23 Hs.callL_24 Hs.callL_25 Hs.callL_26 Hs.resL_0 Hs.resL_1 Hs.resL_2 Hs.resL_3 Hs.resL_4 Hs.resL_5 Hs.resL_6 Hs.resL_7 Hs.resL_8 Hs.resL_9 Hs.resL_10 Hs.resL_11 Hs.resL_12 Hs.callG_0 Hs.callG_1 Hs.callG_2 Hs.callG_3 Hs.callG_4 Hs.callG_5 Hs.callG_6 Hs.callG_7 Hs.callG_8 Hs.callG_9 Hs.callG_10 Hs.callG_11 Hs.callG_12 Hs.callG_13 Hs.callG_14 Hs.callG_15 Hs.callG_16 Hs.callG_17 Hs.callG_18 Hs.callG_19 Hs.callG_20 Hs.callG_21 Hs.callG_22 Hs.callG_23 Hs.callG_24 Hs.callG_25 Hs.callG_26 Hs.resG_0 Hs.resG_1 Hs.resG_2 Hs.resG_3 Hs.resG_4 Hs.resG_5 Hs.resG_6 Hs.resG_7 Hs.resG_8 Hs.resG_9 Hs.resG_10 Hs.resG_11 Hs.resG_12 Hs.callL_len Hs.resL_len
attribute [local go_sem ↓] Hs.loadCall_eq Hs.loadRes_eq
attribute [local go_sem] Hs.ld_new Hs.ld_first Hs.ld_second Hs.ldr_new Hs.st_new
attribute [local go_sem ↓] loadOp_eq
theorem acc_at {b : Nat} {M : MM} {c : CallV} {n : Nat} {W : World} (h : MdAt W b M) (hf : ∀ k, M.fp b k → n ≤ k) (hn : n ≤ W.heap.size) (hok : MSok M.st 100000) (hc : c.Ok) (hd : c.ps.length ≤ 1000000) :
    Calls Tryz.prog 53 #[.pointer (some ⟨b, 0, none⟩), .int .i64 c.thread, .agg (opL c).toArray, .agg (Hs.resL c).toArray] W fun e W' => ∃ M', e = .returned (.bool (accS M.st c.thread (opV c) (resV c) (itV c)).1) ∧ MdAt W' b M' ∧ (∀ k, M'.fp b k → n ≤ k) ∧ M'.st = (accS M.st c.thread (opV c) (resV c) (itV c)).2 ∧ FrT MTy n W W' := by
  refine (accept_any b c.thread M (opV c) (resV c) (itV c) W h hok (ok_op hc) (by show c.ps.length ≤ maxLen; unfold maxLen; omega)).mono ?_
  rintro e W' ⟨rfl, M', hM, hst, hk, hf2⟩
  exact ⟨M', rfl, hM, fun k hk => (hf2 k hk).elim (hf k) (fun h' => Nat.le_trans hn h'), hst, frm_keep h hk hf hn⟩
theorem acc_ok {st : MS} {c : CallV} {K : Int} (h : MSok st K) (hc : c.Ok) : MSok (accS st c.thread (opV c) (resV c) (itV c)).2 (K + 1) := by
  unfold accS
  split
  · exact doS_ok h (ok_op hc)
  · exact h.mono (by omega)
def PerfPost (m : Nat) (w : World) (c : CfgV) (cs : List CallV) (Inv : List (Nat × MS) → World → Prop) (e : Ending) (w' : World) : Prop :=
  (cfgE c ≠ 0 ∧ e = .returned (.tuple #[.slice none 0 0, .int .i64 0, .int .i64 (cfgE c)]) ∧ Inv [] w' ∧ Below m w w') ∨
  (cfgE c = 0 ∧ (checkP cs).2 ≠ 0 ∧ e = .returned (.tuple #[.slice none 0 0, .int .i64 (checkP cs).1, .int .i64 (checkP cs).2]) ∧ Inv [] w' ∧ Below m w w') ∨
  (cfgE c = 0 ∧ (checkP cs).2 = 0 ∧ ∃ E b M v, EffIs cs E ∧ e = .returned (.tuple #[v, .int .i64 (perfE c cs E).1, .int .i64 (perfE c cs E).2]) ∧ Inv ((playL cs (newS c) (ordW cs E)).map fun s => (b, s)) w' ∧ Below m w w' ∧ MdAt w' b M ∧ MSok M.st 100000 ∧
    ((perfE c cs E).2 = 0 → M.st = playS cs (newS c) (ordW cs E) ∧ w'.ownsRow w.heap.size tInt 1 v (ordW cs E).length ((ordW cs E).map nv)))
structure PRl (m n : Nat) (w : World) (cs : List CallV) (Inv : List (Nat × MS) → World → Prop) (st0 : MS) (o : List Nat) (ao : Option Addr) (qo b k : Nat) (M : MM) (L : List MS) (wr : World) : Prop where
  at_ : MdAt wr b M
  own : ∀ j, M.fp b j → n ≤ j
  ok : MSok M.st k
  inv : Inv (L.map fun s => (b, s)) wr
  bl : Below m w wr
  le : n ≤ wr.heap.size
  row : wr.ownsRow n tInt 1 (.slice ao o.length qo) o.length (o.map nv)
  pe : playE cs M.st (o.drop k) = playE cs st0 o
  pl : L ++ (playL cs M.st (o.drop k)).tail = playL cs st0 o
  ps : playS cs M.st (o.drop k) = playS cs st0 o
  len : L.length = k + 1
def PRel2 (m n : Nat) (w : World) (cs : List CallV) (Inv : List (Nat × MS) → World → Prop) (st0 : MS) (o : List Nat) (ao : Option Addr) (qo b : Nat) (x6 x7 x8 i : Value) (wr : World) : Prop :=
  ∃ (k : Nat) (M : MM) (L : List MS), i = .int .i64 k ∧ k ≤ o.length ∧ x6 = .slice ao o.length qo ∧ x7 = .int .i64 0 ∧ x8 = .int .i64 0 ∧ PRl m n w cs Inv st0 o ao qo b k M L wr
theorem playL_head (cs : List CallV) (st : MS) (o : List Nat) : playL cs st o = st :: (playL cs st o).tail := by cases o <;> rfl
theorem drop_at {o : List Nat} {k i : Nat} (h : o[k]? = some i) : o.drop k = i :: o.drop (k + 1) := by
  have hlt := (List.getElem?_eq_some_iff.1 h).1
  rw [List.drop_eq_getElem_cons hlt]; congr 1; exact Option.some.inj ((List.getElem?_eq_getElem hlt).symm.trans h)
theorem perform_any (m : Nat) (c : CfgV) (p : Option Addr) (cap : Nat) (cs : List CallV) (f : FuncId) (fs : Array Value) (Inv : List (Nat × MS) → World → Prop) (w : World) (hm : m ≤ w.heap.size) (hC : ∀ W, Below m w W → CRow W p cap cs) (hE : EachC m w.heap.size f fs Inv) (hI : Inv [] w)
    (hs : cs.length ≤ 1000) (hok : ∀ x ∈ cs, x.Ok) (hd : ∀ x ∈ cs, x.ps.length ≤ 1000000) :
    Calls Tryz.prog 81 #[c.v, .slice p cs.length cap, .func (.func f) #[] fs] w (PerfPost m w c cs Inv) := by
  have hB0 : Below w.heap.size w (w.alloc (.cells #[.int .i64 c.slots, .int .u64 c.gens, .int .i64 c.clients, .int .i64 c.readers, .int .i64 c.queue, .int .i64 c.batch, .int .i64 c.feed, .string c.text] 24)) := (Below.refl w.heap.size w).alloc (Nat.le_refl _) _
  have hk0 := fun W (h : Below w.heap.size w W) => hE.keep [] w W hI (FrT.below h (Nat.le_refl _))
  by_cases hc : cfgE c = 0
  · have hnew := new_ok c w _ hc hB0
    unfold CfgV.v at *
    rcases check_two cs with h2 | h2
    · have hck := fun W (h : Below w.heap.size w W) => check_any p cap cs W (hC W (h.mono hm)) (by omega) hok
      have hor := fun W (h : Below w.heap.size w W) => order_any p cap cs W (hC W (h.mono hm)) hs hok
      have h2c : checkP cs = (0, 0) := by
        rcases hx : checkP cs with ⟨a, b⟩
        unfold checkP at hx h2
        split at hx
        · rename_i i hi; rw [hi] at h2; cases h2
        · exact hx.symm
      rw [h2c] at hck
      go_enter Tryz.func81, Tryz.ntmps81
      go_wp2_with (first | (go_at_call 49; refine hnew.mono ?_; rintro e w1 ⟨b, M, rfl, hR, hst, hb1⟩; clear hb1) | (go_at_call 75; refine (hck _ hR.bl).mono ?_; rintro e w2 ⟨rfl, hb2⟩))
      have hR2 := hR.on hb2
      clear hR hb2 hck hnew
      refine (hor _ hR2.bl).mono ?_
      rintro e w3 (⟨h22, _, _⟩ | ⟨_, v, E, hEff, rfl, hO, hb3⟩)
      · rw [h2] at h22; cases h22
      · obtain ⟨ao, qo, rfl⟩ := own_slice hO
        have hR3 := hR2.on hb3
        have hO3 := own_mono (B := w.heap.size) (by have := hR2.bl.size; omega) hO
        clear hO hb3 hor
        have hol : (ordW cs E).length ≤ 1000 := by rw [ord_len hEff]; have := eff_len hEff; omega
        have hoi : ∀ i ∈ ordW cs E, i < cs.length := fun i hi => ((ord_in hEff).1 hi).1
        have hpe : perfE c cs E = match playE cs (newS c) (ordW cs E) with | some i => ((i : Int), 26) | none => (0, 0) := by unfold perfE; rw [if_neg (by rw [hc]; simp), if_neg (by rw [h2]; simp)]; (try rfl)
        have HP := Lib.hid hpe
        have HF := Lib.hid hEff
        clear hpe hEff
        have hIn := hk0 _ hR3.bl
        have hMok : MSok M.st 0 := by rw [hst]; exact newS_ok hc
        have hcl := hE.call w3 b M 0 [] hR3.bl.size hIn hR3.at_ hMok (by simp)
        have hent := hE.ent
        go_wp2_with (go_at_fn f; refine hcl.mono ?_; rintro e w4 ⟨rfl, hIn4, hfr4⟩)
        have hPR : PRl m w.heap.size w cs Inv (newS c) (ordW cs E) ao qo b 0 M [newS c] w4 := ⟨hfr4.model hR3.at_, hR3.own, hMok, by rw [hst] at hIn4; exact hIn4, (hR3.bl.mono hm).trans hfr4.bl, Nat.le_trans hR3.bl.size hfr4.bl.size, hfr4.own hO3 (by decide), by rw [hst]; rfl, by rw [hst, List.drop_zero]; exact (playL_head cs (newS c) (ordW cs E)).symm, by rw [hst]; rfl, rfl⟩
        clear hfr4 hIn4 hcl hIn hMok hR3 hR2 hO3 hst hk0 hB0
        generalize hoo : ordW cs E = o at *
        have HO := Lib.hid hoo
        clear hoo
        go_loopw [6, 7, 8, 13, 44] (fun x6 x7 x8 x13 i wr => PRel2 m w.heap.size w cs Inv (newS c) o ao qo b x6 x7 x8 i wr) (fun x6 x7 x8 x13 i wr => o.length - (intOf i).toNat)
        case atStart => exact ⟨0, M, [newS c], rfl, by omega, rfl, rfl, rfl, hPR⟩
        case round =>
          clear hPR
          obtain ⟨k, M2, L, rfl, hk, rfl, rfl, rfl, hP⟩ := hrel
          by_cases hlt : k < o.length
          · obtain ⟨i, hi⟩ : ∃ i, o[k]? = some i := ⟨_, List.getElem?_eq_getElem hlt⟩
            have hic := hoi i (List.mem_of_getElem? hi)
            have hI1 : IRd wr ao (o.map fun (x : Nat) => (x : Int)) := IRd.of (irow_own hP.row rfl)
            obtain ⟨bo, oo, rfl, hcc⟩ := irow_at hI1 (by rw [List.length_map]; omega)
            have hck := hcc wr (Below.refl _ _) k _ (cast_at hi)
            obtain ⟨bq, off, rfl, hcap, hbq, hA⟩ := crow_at (hC wr hP.bl) (by omega)
            have hS := fun W (hb : Below m w W) => (show W.cell? ⟨bq, off + i * 27, none⟩ = some (.int .i64 (getC cs i).thread) ∧ (loadOp (.pointer (some ⟨bq, off + i * 27 + 2, none⟩))).run Tryz.prog W = .ok (.agg (opL (getC cs i)).toArray) W ∧ (loadRes (.pointer (some ⟨bq, off + i * 27 + 14, none⟩))).run Tryz.prog W = .ok (.agg (Hs.resL (getC cs i)).toArray) W from by
              have hA := crow_get (hC W hb)
              have h0 := hA.cell (getC_some hic) 0 (by omega)
              rw [callL_0, Nat.add_zero] at h0
              exact ⟨h0, ldo_at hA (getC_some hic), ldr_at hA (getC_some hic)⟩)
            have hcm : getC cs i ∈ cs := List.mem_of_getElem? (getC_some hic)
            have hok2 := hok _ hcm
            have hbd : Below m w wr.drew := hP.bl.drew
            have hMk : MSok M2.st 100000 := hP.ok.mono (by omega)
            have hAcc := acc_at (c := getC cs i) (hP.at_.below (Below.refl _ _).drew) hP.own hP.le hMk hok2 (hd _ hcm)
            have hAk := acc_ok (c := getC cs i) hP.ok hok2
            have hac : accO cs M2.st i = accS M2.st (getC cs i).thread (opV (getC cs i)) (resV (getC cs i)) (itV (getC cs i)) := rfl
            have hdr := drop_at hi
            have hpe1 : playE cs M2.st (o.drop k) = if (accO cs M2.st i).1 then playE cs (accO cs M2.st i).2 (o.drop (k + 1)) else some i := by rw [hdr]; rfl
            have hpl1 : playL cs M2.st (o.drop k) = M2.st :: (if (accO cs M2.st i).1 then playL cs (accO cs M2.st i).2 (o.drop (k + 1)) else []) := by rw [hdr]; rfl
            have hps1 : playS cs M2.st (o.drop k) = playS cs (accO cs M2.st i).2 (o.drop (k + 1)) := by rw [hdr]; rfl
            rw [hP.pe] at hpe1
            rw [hP.ps] at hps1
            have hpl2 := hP.pl
            rw [hpl1, List.tail_cons] at hpl2
            have hin3 := hE.keep
            rw [← hac] at hAcc hAk
            have Hpe1 := Lib.hid hpe1
            have Hps1 := Lib.hid hps1
            have Hpl2 := Lib.hid hpl2
            have Hac := Lib.hid hac
            generalize getC cs i = q at *
            generalize hX : accO cs M2.st i = X at *
            clear hpe1 hps1 hpl2 hpl1 hdr hcc hI1 hA hac
            obtain ⟨ya, yst⟩ := X
            have Hx := Lib.hid hX
            clear hX
            cases ya with
            | true =>
              go_wp2_with fail
              refine wp_region_noPanic ?_
              refine wp_region_held_drew (S := fun W => W.cell? ⟨bq, off + i * 27, none⟩ = some (.int .i64 q.thread) ∧ (loadOp (.pointer (some ⟨bq, off + i * 27 + 2, none⟩))).run Tryz.prog W = .ok (.agg (opL q).toArray) W ∧ (loadRes (.pointer (some ⟨bq, off + i * 27 + 14, none⟩))).run Tryz.prog W = .ok (.agg (Hs.resL q).toArray) W) (by kernel_rfl) ?_ (fun hHeld => ?_)
              · first | exact hS _ hP.bl | exact hS _ hbd | exact hS _ hb5
              iterate 16 (first | (refine np_sn ?_; (try simp only [nSO])) | ((first | refine np_n ?_ ?_ ?_ | refine np_t 0 ?_ ?_ ?_); rotate_left 1; (· (intro w hSw; (try dsimp only at hSw); go_simp; all_goals with_reducible rfl)); (try simp only [nSO])))
              first | (refine np_s 16 ?_; (try simp only [nSO])) | (refine np_step (i := 16) rfl (by kernel_rfl) (fun K hK => ?_); rw [if_pos (by rfl)]; go_simp; ((go_at_call 53; refine hAcc.mono ?_; rintro e w5 ⟨M3, rfl, hM3, hf3, hst3, hfr5⟩; have hb5 := hbd.trans (hfr5.bl.mono hm))); (try go_wp2_with fail); refine hK.out _ _ ?_ (fun hHeld => ?_); (· (first | exact hS _ hP.bl | exact hS _ hbd | exact hS _ hb5)); clear hK K; (try simp only [nSO]))
              first | (refine np_sn ?_; (try simp only [nSO])) | (refine np_n ?_ ?_ ?_; rotate_left 1; (· (intro w hSw; (try dsimp only at hSw); go_simp; all_goals with_reducible rfl)); (try simp only [nSO]))
              refine wpAnyH_done (by kernel_rfl) ?_ _
              refine NoPanic.normal ?_
              have hle5 : w.heap.size ≤ w5.heap.size := Nat.le_trans hP.le hfr5.bl.size
              have hin5 := hE.keep _ _ _ (hE.keep _ _ _ hP.inv (FrT.below (Below.refl _ _).drew hP.le)) hfr5
              have hrow5 := hfr5.own (own_below hP.row (Below.refl _ _).drew) (by decide)
              have hMk3 : MSok M3.st ((k : Int) + 1) := by rw [hst3]; exact hAk
              have hcl := hE.call w5 b M3 _ _ hle5 hin5 hM3 hMk3 (by rw [List.length_map, hP.len]; omega)
              have hPl := hP.len
              clear hAcc hS hin3
              go_wp2_with (go_at_fn f; refine hcl.mono ?_; rintro e w6 ⟨rfl, hIn6, hfr6⟩)
              go_roundw
              case rel =>
                refine ⟨k + 1, M3, L ++ [M3.st], by go_num, by omega, rfl, rfl, rfl, ⟨hfr6.model hM3, hf3, by simpa using hMk3, by rw [List.map_append]; exact hIn6, hb5.trans hfr6.bl, Nat.le_trans hle5 hfr6.bl.size, hfr6.own hrow5 (by decide), ?_, ?_, ?_, by rw [List.length_append, hPl]; rfl⟩⟩
                · rw [hst3]; exact (Hpe1.out).symm
                · have h9 := Hpl2.out
                  simp only [if_true] at h9
                  rw [← h9, hst3, List.append_assoc]
                  congr 1
                  exact (playL_head cs yst _).symm
                · rw [hst3]; exact Hps1.out.symm
              case measure => simp [intOf]; omega
            | false =>
              go_wp2_with fail
              refine wp_region_noPanic ?_
              refine wp_region_held_drew (S := fun W => W.cell? ⟨bq, off + i * 27, none⟩ = some (.int .i64 q.thread) ∧ (loadOp (.pointer (some ⟨bq, off + i * 27 + 2, none⟩))).run Tryz.prog W = .ok (.agg (opL q).toArray) W ∧ (loadRes (.pointer (some ⟨bq, off + i * 27 + 14, none⟩))).run Tryz.prog W = .ok (.agg (Hs.resL q).toArray) W) (by kernel_rfl) ?_ (fun hHeld => ?_)
              · first | exact hS _ hP.bl | exact hS _ hbd | exact hS _ hb5
              iterate 16 (first | (refine np_sn ?_; (try simp only [nSO])) | ((first | refine np_n ?_ ?_ ?_ | refine np_t 0 ?_ ?_ ?_); rotate_left 1; (· (intro w hSw; (try dsimp only at hSw); go_simp; all_goals with_reducible rfl)); (try simp only [nSO])))
              first | (refine np_s 16 ?_; (try simp only [nSO])) | (refine np_step (i := 16) rfl (by kernel_rfl) (fun K hK => ?_); rw [if_pos (by rfl)]; go_simp; ((go_at_call 53; refine hAcc.mono ?_; rintro e w5 ⟨M3, rfl, hM3, hf3, hst3, hfr5⟩; have hb5 := hbd.trans (hfr5.bl.mono hm))); (try go_wp2_with fail); refine hK.out _ _ ?_ (fun hHeld => ?_); (· (first | exact hS _ hP.bl | exact hS _ hbd | exact hS _ hb5)); clear hK K; (try simp only [nSO]))
              first | (refine np_sn ?_; (try simp only [nSO])) | (refine np_n ?_ ?_ ?_; rotate_left 1; (· (intro w hSw; (try dsimp only at hSw); go_simp; all_goals with_reducible rfl)); (try simp only [nSO]))
              refine wpAnyH_done (by kernel_rfl) ?_ _
              refine NoPanic.normal ?_
              have hin5 := hE.keep _ _ _ (hE.keep _ _ _ hP.inv (FrT.below (Below.refl _ _).drew hP.le)) hfr5
              have hMk3 : MSok M3.st ((k : Int) + 1) := by rw [hst3]; exact hAk
              clear hAcc hS hin3
              go_wp2_with fail
              go_returns
              have hpz : playE cs (newS c) o = some i := Hpe1.out
              have h8 := HP.out
              rw [hpz] at h8
              have h9 := Hpl2.out
              simp only [Bool.false_eq_true, if_false, List.append_nil] at h9
              refine .inr (.inr ⟨hc, h2, E, b, M3, _, HF.out, by rw [h8]; rfl, ?_, hb5, hM3, hMk3.mono (by omega), fun h => by rw [h8] at h; cases h⟩)
              rw [HO.out, ← h9]
              exact hin5
          · have hke : k = o.length := by omega
            subst hke
            have e1 : playE cs (newS c) o = none := by rw [← hP.pe, List.drop_length]; rfl
            have e2 : L = playL cs (newS c) o := by have := hP.pl; rw [List.drop_length] at this; rw [← this]; exact (List.append_nil L).symm
            have e3 : M2.st = playS cs (newS c) o := by rw [← hP.ps, List.drop_length]; rfl
            have h8 := HP.out
            rw [e1] at h8
            go_wp2_with fail
            go_returns
            refine .inr (.inr ⟨hc, h2, E, b, M2, _, HF.out, by rw [h8]; rfl, ?_, hP.bl, hP.at_, hP.ok.mono (by omega), fun _ => ⟨?_, ?_⟩⟩)
            · rw [HO.out, ← e2]; exact hP.inv
            · rw [HO.out]; exact e3
            · rw [HO.out]; exact hP.row
    · have hck := fun W (h : Below w.heap.size w W) => check_any p cap cs W (hC W (h.mono hm)) (by omega) hok
      have h2n : (checkP cs).2 ≠ 0 := by rw [h2]; decide
      have hdn : ((checkP cs).2 != 0) = true := by rw [h2]; rfl
      generalize hce : (checkP cs).1 = ce at *
      generalize hcf : (checkP cs).2 = cf at *
      subst h2
      go_enter Tryz.func81, Tryz.ntmps81
      go_wp2_with (first | (go_at_call 49; refine hnew.mono ?_; rintro e w1 ⟨b, M, rfl, hR, hst, hb1⟩; clear hb1) | (go_at_call 75; refine (hck _ hR.bl).mono ?_; rintro e w2 ⟨rfl, hb2⟩))
      go_returns
      exact .inr (.inl ⟨hc, by rw [hcf]; decide, by rw [hce, hcf]; rfl, hk0 _ (hR.on hb2).bl, (hR.on hb2).bl.mono hm⟩)
  · have hnew := fun W => new_no c W hc
    have hd1 : (cfgE c != 0) = true := by simpa using hc
    generalize hce : cfgE c = ce at *
    unfold CfgV.v at *
    go_enter Tryz.func81, Tryz.ntmps81
    go_wp2_with (go_at_call 49; refine (hnew _).mono ?_; rintro e w1 ⟨rfl, hb1⟩)
    go_returns
    have hb2 := hB0.trans (hb1.mono hB0.size)
    exact .inl ⟨by rw [hce]; exact hc, by rw [hce]; rfl, hk0 _ hb2, hb2.mono hm⟩
end Go.Proofs.YtdeiocppghhfdaaGreat.Lin
namespace Go.Proofs.YtdeiocppghhfdaaGreat.Lin
set_option linter.unusedVariables false
set_option linter.unusedSimpArgs false
set_option maxRecDepth 100000
set_option maxHeartbeats 8000000
open Go.RowKit Go.Lib Go.Shelf
open Hs
theorem SS_chain {L : List CallV} {st : MS} {a : List Nat} (h : SS L st 0 = some a) : chainC L st 0 a = true := S_chain L.length (by unfold fr; exact Nat.le_trans (List.length_filter_le _ _) (by simp)) h
theorem CC_chain {L : List CallV} {st : MS} (h : 1 ≤ CC L st 0) : ∃ a, chainC L st 0 a = true := C_chain L.length (by unfold fr; exact Nat.le_trans (List.length_filter_le _ _) (by simp)) h
theorem chain_SS {L : List CallV} {st : MS} {r : List Nat} (h : chainC L st 0 r = true) : ∃ a, SS L st 0 = some a ∧ (a = r ∨ lessL a r = true) := chain_S r h
theorem cnt_iff {L : List CallV} {st : MS} : 1 ≤ CC L st 0 ↔ (SS L st 0).isSome = true := by
  constructor
  · intro h
    obtain ⟨a, ha⟩ := CC_chain h
    obtain ⟨b, hb, _⟩ := chain_SS ha
    rw [hb]; rfl
  · intro h
    cases hS : SS L st 0 with
    | none => rw [hS] at h; cases h
    | some a => exact chain_C a (SS_chain hS)
theorem find_err (c : CfgV) (L : List CallV) : (findP c L).2.2 = startE c L := by
  unfold findP
  split
  · rfl
  · rename_i h
    have : startE c L = 0 := by simpa using h
    rw [this]; cases SS L (newS c) 0 <;> rfl
theorem count_err (c : CfgV) (L : List CallV) {m : Int} (h1 : 1 ≤ m) (h2 : m ≤ 1000000) : (countP c m L).2 = startE c L := by
  unfold countP
  split
  · rfl
  · rename_i h
    have h3 : startE c L = 0 := by simpa using h
    rw [if_neg (by omega), h3]
theorem find_no {c : CfgV} {L : List CallV} (h : startE c L ≠ 0) : findP c L = ([], false, startE c L) := by unfold findP; rw [if_pos h]
theorem find_none {c : CfgV} {L : List CallV} (h0 : startE c L = 0) (h : SS L (newS c) 0 = none) : findP c L = ([], false, 0) := by unfold findP; rw [if_neg (by rw [h0]; simp), h]
theorem find_some {c : CfgV} {L : List CallV} {a : List Nat} (h0 : startE c L = 0) (h : SS L (newS c) 0 = some a) : findP c L = (a, true, 0) := by unfold findP; rw [if_neg (by rw [h0]; simp), h]
theorem count_no {c : CfgV} {L : List CallV} (h : startE c L ≠ 0) (m : Int) : countP c m L = (0, startE c L) := by unfold countP; rw [if_pos h]
theorem count_ok {c : CfgV} {L : List CallV} {m : Int} (h0 : startE c L = 0) (h1 : 1 ≤ m) (h2 : m ≤ 1000000) : countP c m L = (min (CC L (newS c) 0 : Int) m, 0) := by unfold countP; rw [if_neg (by rw [h0]; simp), if_neg (by omega)]
end Go.Proofs.YtdeiocppghhfdaaGreat.Lin
namespace Go.Proofs.YtdeiocppghhfdaaGreat.Hs
set_option linter.unusedVariables false
set_option linter.unusedSimpArgs false
set_option maxRecDepth 100000
set_option maxHeartbeats 8000000
open Go.RowKit Go.Lib Go.Shelf
def thF (t : Int) (cs : List CallV) : List CallV := cs.filter fun c => decide (c.thread = t)
theorem thIdx_map {t : Int} : ∀ (cs : List CallV) (k : Nat), (thIdx t cs k).map (fun i => cs[i - k]?.getD default) = thF t cs
  | [], k => rfl
  | c :: cs, k => by
    have ih := thIdx_map (t := t) cs (k + 1)
    have e : (thIdx t cs (k + 1)).map (fun i => (c :: cs)[i - k]?.getD default) = thF t cs := by
      rw [← ih]
      refine List.map_congr_left fun i hi => ?_
      have := thIdx_lt hi
      rw [show i - k = (i - (k + 1)) + 1 from by omega, List.getElem?_cons_succ]
    unfold thIdx thF
    by_cases h : c.thread = t
    · rw [if_pos h, List.map_cons, e, Nat.sub_self, List.filter_cons_of_pos (by simpa using h)]
      rfl
    · rw [if_neg h, e, List.filter_cons_of_neg (by simpa using h)]
      rfl
theorem th_len (t : Int) (cs : List CallV) : (thIdx t cs 0).length = (thF t cs).length := by rw [← thIdx_map cs 0, List.length_map]
theorem last_thF (t : Int) (cs : List CallV) : lastOf t cs = (thF t cs).getLast? := by
  unfold lastOf
  rw [← thIdx_map cs 0, List.getLast?_map]
  cases h : (thIdx t cs 0).getLast? with
  | none => rfl
  | some i =>
    have hm := List.mem_of_getLast? h
    have := thIdx_lt hm
    simp only [Option.bind_some, Option.map_some, Nat.sub_zero]
    rw [List.getElem?_eq_getElem (by omega)]
    rfl
end Go.Proofs.YtdeiocppghhfdaaGreat.Hs
namespace Go.Proofs.YtdeiocppghhfdaaGreat.Hs
set_option linter.unusedVariables false
set_option linter.unusedSimpArgs false
set_option maxRecDepth 100000
set_option maxHeartbeats 8000000
open Go.RowKit Go.Lib Go.Shelf
theorem accB_eq (pre : List CallV) (c : CallV) : accB pre c = (formedB c && (match pre.getLast? with | some p => decide (p.invoked < c.invoked) | none => true) && decide (c.index = (thF c.thread pre).length) &&
    (match (thF c.thread pre).getLast? with | some d => befB d c | none => true) && pre.all fun d => !clashB c d) := by
  unfold accB
  rw [last_thF, th_len]
  rfl
def many (s : Int) (cs : List CallV) : Nat := (cs.filter fun c => decide (c.invoked ≤ s)).length
end Go.Proofs.YtdeiocppghhfdaaGreat.Hs
namespace Go.Proofs.YtdeiocppghhfdaaGreat.Lin
set_option linter.unusedVariables false
set_option linter.unusedSimpArgs false
set_option maxRecDepth 100000
set_option maxHeartbeats 8000000
open Go.RowKit Go.Lib Go.Shelf
open Hs
theorem start_zero {c : CfgV} {L : List CallV} (h1 : cfgE c = 0) (h2 : (checkP L).2 = 0) (h3 : L.length ≤ 10) : startE c L = 0 := by
  unfold startE
  rw [if_neg (by rw [h1]; simp), if_neg (by rw [h2]; simp), if_neg (by omega)]
theorem rdy_get {L : List CallV} {u i j : Nat} (h : rdyB L u i = true) (hj : j < L.length) (hb : befB (getC L j) (getC L i) = true) : u.testBit j = true := by
  unfold rdyB at h
  have := List.all_eq_true.1 h j (List.mem_range.2 hj)
  rw [hb] at this
  simpa using this
theorem full_get {L : List CallV} {u j : Nat} (h : fullB L u = true) (hj : j < L.length) (hb : 0 ≤ (getC L j).answered) : u.testBit j = true := by
  unfold fullB at h
  have := List.all_eq_true.1 h j (List.mem_range.2 hj)
  have h2 : decide ((getC L j).answered < 0) = false := by simpa using hb
  rw [h2] at this
  simpa using this
theorem full_mk {L : List CallV} {u : Nat} (h : ∀ j, j < L.length → 0 ≤ (getC L j).answered → u.testBit j = true) : fullB L u = true := by
  unfold fullB
  rw [List.all_eq_true]
  intro j hj
  by_cases ha : (getC L j).answered < 0
  · simp [ha]
  · rw [h j (List.mem_range.1 hj) (by omega)]; rfl
end Go.Proofs.YtdeiocppghhfdaaGreat.Lin
namespace Go.Proofs.YtdeiocppghhfdaaGreat.Lin
set_option linter.unusedVariables false
set_option linter.unusedSimpArgs false
set_option maxRecDepth 100000
set_option maxHeartbeats 8000000
open Hs
theorem accO_next {cs : List CallV} {st : MS} {i : Nat} (ha : ¬ (getC cs i).answered < 0) (h : (accO cs st i).1 = true) : nx cs st i = some (accO cs st i).2 := by
  show nextS st (getC cs i) = _
  unfold nextS
  rw [if_neg ha]
  exact if_pos h
theorem back_rdy {cs : List CallV} {o : List Nat} (h0 : (checkP cs).2 = 0) (hl : ∀ i ∈ o, i < cs.length) (hb : NoBack cs o) (hc : ∀ i ∈ o, ∀ j, j < cs.length → befB (getC cs j) (getC cs i) = true → j ∈ o) : ∀ k i, o[k]? = some i → rdyB cs (mk 0 (o.take k)) i = true := by
  intro k j hk
  obtain ⟨hlt, hkj⟩ := List.getElem?_eq_some_iff.1 hk
  have hjo : j ∈ o := by rw [← hkj]; exact List.getElem_mem ..
  unfold rdyB
  rw [List.all_eq_true]
  intro i hil
  have hil := List.mem_range.1 hil
  rw [mk_bit, Nat.zero_testBit, Bool.false_or]
  cases hbb : befB (getC cs i) (getC cs j) with
  | false => simp
  | true =>
    have hio : i ∈ o := hc j hjo i hil hbb
    obtain ⟨m, hm, hmi⟩ := List.getElem_of_mem hio
    have hmk : m < k := by
      rcases Nat.lt_trichotomy m k with h | h | h
      · exact h
      · exfalso
        subst h
        rw [hmi] at hkj
        subst hkj
        rw [bef_self h0 hil] at hbb
        cases hbb
      · exfalso
        have := List.pairwise_iff_getElem.1 hb k m hlt hm h
        rw [hmi, hkj, hbb] at this
        cases this
    have : i ∈ o.take k := by
      rw [List.mem_take_iff_getElem]
      exact ⟨m, by omega, hmi⟩
    simp [this]
theorem perf_parts {c : CfgV} {cs : List CallV} {E : List Nat} (h : (perfE c cs E).2 = 0) : cfgE c = 0 ∧ (checkP cs).2 = 0 ∧ playE cs (newS c) (ordW cs E) = none := by
  unfold perfE at h
  split at h
  · rename_i h1; exact absurd h h1
  · split at h
    · rename_i h1 h2; exact absurd h h2
    · split at h
      · cases h
      · rename_i h1 h2 _ h3
        exact ⟨by simpa using h1, by simpa using h2, h3⟩
theorem perf_zero {c : CfgV} {cs : List CallV} {E : List Nat} (h1 : cfgE c = 0) (h2 : (checkP cs).2 = 0) (h3 : playE cs (newS c) (ordW cs E) = none) : perfE c cs E = (0, 0) := by
  unfold perfE
  rw [if_neg (by rw [h1]; simp), if_neg (by rw [h2]; simp), h3]
end Go.Proofs.YtdeiocppghhfdaaGreat.Lin
namespace Go.Proofs.YtdeiocppghhfdaaGreat.Lin
set_option linter.unusedVariables false
set_option linter.unusedSimpArgs false
set_option maxRecDepth 100000
set_option maxHeartbeats 8000000
open Go.RowKit Go.WideShapes Go.ChangeShapes Go.Deep
open Hs
open KitI (IRow)
def ArgI (w : World) (p : Option Addr) (l : List Int) : Prop := l = [] ∨ ∃ b off, p = some ⟨b, off, none⟩ ∧ b < w.heap.size ∧ (∀ j u, l[j]? = some u → w.cell? ⟨b, off + j, none⟩ = some (.int .i64 u)) ∧ l.length < 9223372036854775808 ∧ ∀ x ∈ l, -9223372036854775808 ≤ x ∧ x ≤ 9223372036854775807
theorem ArgI.on {w w' : World} {p : Option Addr} {l : List Int} (h : ArgI w p l) (hb : Below w.heap.size w w') : ArgI w' p l := by
  rcases h with h | ⟨b, off, h1, h2, h3, h4, h5⟩
  · exact .inl h
  · exact .inr ⟨b, off, h1, Nat.lt_of_lt_of_le h2 hb.size, fun j u hj => (hb.cell (p := ⟨b, off + j, none⟩) h2).trans (h3 j u hj), h4, h5⟩
section
variable {H : Type} {enc : TypeId × Value → H} {w : World} {base : Nat} {spare : Nat → Bool} {held : Bool}
end
theorem ArgI.take {w : World} {p : Option Addr} {l : List Int} (h : ArgI w p l) (k : Nat) : IRd w p (l.take k) := by
  rcases h with rfl | ⟨b, off, rfl, h2, h3, _⟩
  · exact .inl (by simp)
  · exact .inr ⟨b, off, rfl, fun j u hj => h3 j u (by rw [List.getElem?_take] at hj; split at hj; exact hj; cases hj)⟩
end Go.Proofs.YtdeiocppghhfdaaGreat.Lin
namespace Go.Proofs.YtdeiocppghhfdaaGreat.Lin
set_option linter.unusedVariables false
set_option linter.unusedSimpArgs false
set_option maxRecDepth 100000
set_option maxHeartbeats 8000000
open Go.RowKit Go.Lib Go.Shelf
open Hs
open KitI (iv IRow)
abbrev tCfg : TypeId := 24
theorem cfg_v (c : CfgV) : c.v = .agg (cfgL c).toArray := rfl
def loadCfg (v : Value) : Sem Value := Instr.loadAt tCfg v
theorem loadCfg_eq (v : Value) : Instr.loadAt 24 v = loadCfg v := rfl
theorem ld_cfg {W : World} {b : Nat} {c : CfgV} (h : W.heap[b]? = some (.cells (cfgL c).toArray tCfg (0, 0))) : (loadCfg (.pointer (some ⟨b, 0, none⟩))).run Tryz.prog W = .ok (.agg (cfgL c).toArray) W :=
  run_loadAt_mid W b 0 tCfg (cfgL c) _ (blk_range h) Tryz.underlying24 rfl (by kernel_rfl)
theorem cfgL_ne (c : CfgV) : cfgL c ≠ [] := by simp [cfgL]
theorem st_cfg {W : World} {g : Nat} {cs : Array Value} (h : W.heap[g]? = some (.cells cs tCfg (0, 0))) (hs : cs.size = 8) (c : CfgV) : (storeCells ⟨g, 0, none⟩ (cfgL c)).run Tryz.prog W = .ok () (W.setRow g (cfgL c).toArray) := run_st h hs (cfgL c) rfl (by simp [cfgL, Value.oneCell'])
structure LawW (w W : World) (c : CfgV) (p : Option Addr) (cap : Nat) (cs : List CallV) : Prop where
  bl : Below w.heap.size w W
  box : W.heap[w.heap.size]? = some (.cells (cfgL c).toArray tCfg (0, 0))
  row : HRow W p cap cs
theorem LawW.on {w W W' : World} {c : CfgV} {p : Option Addr} {cap : Nat} {cs : List CallV} (h : LawW w W c p cap cs) (hb : Below W.heap.size W W') : LawW w W' c p cap cs :=
  ⟨h.bl.trans (hb.mono h.bl.size), blk_below h.box hb (Array.getElem?_eq_some_iff.1 h.box).1, h.row.on hb⟩
theorem small36_l (c : CfgV) (w : World) : Calls Tryz.prog 17 #[.agg (cfgL c).toArray] w fun e w' => e = .returned (.agg (cfgL (smallC 100 c)).toArray) ∧ Below w.heap.size w w' := small36_any c w
section
variable {w W : World} {c : CfgV} {p : Option Addr} {cap : Nat} {cs : List CallV}
theorem LawW.ps (h : LawW w W c p cap cs) : ∀ x ∈ cs, x.ps.length ≤ 1000000 := fun x hx => (h.row.dat x hx).1
theorem LawW.find (h : LawW w W c p cap cs) : Calls Tryz.prog 19 #[.agg (cfgL c).toArray, .slice p cs.length cap] W fun e W' => ∃ a q, e = .returned (.tuple #[.slice a (findP c cs).1.length q, .bool (findP c cs).2.1, .int .i64 (findP c cs).2.2]) ∧ W'.ownsRow W.heap.size tInt 1 (.slice a (findP c cs).1.length q) (findP c cs).1.length ((findP c cs).1.map fun (x : Nat) => iv x) ∧ IRd W' a ((findP c cs).1.map fun (x : Nat) => (x : Int)) ∧ Below W.heap.size W W' := by
  refine (find_any c p cap cs W h.row.row (by have := h.row.len; omega) h.row.ok h.ps).mono ?_
  rintro e W' ⟨v, rfl, hO, hb⟩
  obtain ⟨a, q, rfl⟩ := own_slice hO
  exact ⟨a, q, rfl, hO, IRd.of (irow_own hO rfl), hb⟩
theorem LawW.check (h : LawW w W c p cap cs) : Calls Tryz.prog 23 #[.agg (cfgL c).toArray, .slice p cs.length cap] W fun e W' => e = .returned (.tuple #[.bool (findP c cs).2.1, .int .i64 (findP c cs).2.2]) ∧ Below W.heap.size W W' := check_l c p cap cs W h.row.row (by have := h.row.len; omega) h.row.ok h.ps
theorem LawW.count (h : LawW w W c p cap cs) (m : Int) : Calls Tryz.prog 21 #[.agg (cfgL c).toArray, .int .i64 m, .slice p cs.length cap] W fun e W' => e = .returned (.tuple #[.int .i64 (countP c m cs).1, .int .i64 (countP c m cs).2]) ∧ Below W.heap.size W W' := count_any c m p cap cs W h.row.row (by have := h.row.len; omega) h.row.ok h.ps
theorem LawW.valid (h : LawW w W c p cap cs) {po : Option Addr} {co n : Nat} {o : List Int} (hn : n = o.length) (hO : IRd W po o) (ho : o.length ≤ 1000) : Calls Tryz.prog 28 #[.agg (cfgL c).toArray, .slice po n co, .slice p cs.length cap] W fun e W' => e = .returned (.int .i64 (validE c o cs)) ∧ Below W.heap.size W W' := by
  subst hn
  exact valid_any c p po cap co cs o W h.row.row hO (by have := h.row.len; omega) ho h.row.ok h.ps
theorem LawW.awake (h : LawW w W c p cap cs) : Calls Tryz.prog 26 #[] W fun e W' => e = .returned (.bool true) ∧ Below w.heap.size w W' := by
  refine (awake36_any W).mono ?_
  rintro e W' ⟨rfl, hb⟩
  exact ⟨rfl, h.bl.trans (hb.mono h.bl.size)⟩
end
end Go.Proofs.YtdeiocppghhfdaaGreat.Lin
namespace Go.Proofs.YtdeiocppghhfdaaGreat.Lin
set_option linter.unusedVariables false
set_option linter.unusedSimpArgs false
set_option maxRecDepth 100000
set_option maxHeartbeats 8000000
open Go.RowKit Go.Lib Go.Shelf
open Hs
open KitI (iv IRow own_below infoI)
attribute [local go_sem, local simp] Hs.callL_0 Hs.callL_1 Hs.callL_2 Hs.callL_3 Hs.callL_4 Hs.callL_5 Hs.callL_6 Hs.callL_7 Hs.callL_8 Hs.callL_9 Hs.callL_10 Hs.callL_11 Hs.callL_12 Hs.callL_13 Hs.callL_14 Hs.callL_15 Hs.callL_16 Hs.callL_17 Hs.callL_18 Hs.callL_19 Hs.callL_20 Hs.callL_21 Hs.callL_22 Hs.callL_23 Hs.callL_24 Hs.callL_25 Hs.callL_26 Hs.resL_0 Hs.resL_1 Hs.resL_2 Hs.resL_3 Hs.resL_4 Hs.resL_5 Hs.resL_6 Hs.resL_7 Hs.resL_8 Hs.resL_9 Hs.resL_10 Hs.resL_11 Hs.resL_12 Hs.callG_0 Hs.callG_1 Hs.callG_2 Hs.callG_3 Hs.callG_4 Hs.callG_5 Hs.callG_6 Hs.callG_7 Hs.callG_8 Hs.callG_9 Hs.callG_10 Hs.callG_11 Hs.callG_12 Hs.callG_13 Hs.callG_14 Hs.callG_15 Hs.callG_16 Hs.callG_17 Hs.callG_18 Hs.callG_19 Hs.callG_20 Hs.callG_21 Hs.callG_22 Hs.callG_23 Hs.callG_24 Hs.callG_25 Hs.callG_26 Hs.resG_0 Hs.resG_1 Hs.resG_2 Hs.resG_3 Hs.resG_4 Hs.resG_5 Hs.resG_6 Hs.resG_7 Hs.resG_8 Hs.resG_9 Hs.resG_10 Hs.resG_11 Hs.resG_12 Hs.callL_len Hs.resL_len
attribute [local go_sem ↓] Hs.loadCall_eq Hs.loadRes_eq
attribute [local go_sem] Hs.ld_new Hs.ld_first Hs.ld_second Hs.ldr_new Hs.st_new
def insW (cs : List CallV) (i : Nat) : List Nat → List Nat
  | [] => [i]
  | j :: r => if lexB cs i j then i :: j :: r else j :: insW cs i r
def effC (cs : List CallV) : List Nat := (places tookQ cs 0).foldr (insW cs) []
theorem insE_perm (cs : List CallV) (i : Nat) : ∀ l : List Nat, (insW cs i l).Perm (i :: l)
  | [] => List.Perm.refl _
  | j :: r => by
    unfold insW
    split
    · exact List.Perm.refl _
    · exact ((insE_perm cs i r).cons j).trans (List.Perm.swap i j r)
theorem lex_trans {cs : List CallV} {a b c : Nat} (h1 : lexB cs b a = false) (h2 : lexB cs c b = false) : lexB cs c a = false := by
  unfold lexB at *
  simp only [decide_eq_false_iff_not] at *
  omega
theorem insE_sorted (cs : List CallV) (i : Nat) : ∀ l : List Nat, l.Pairwise (fun a b => lexB cs b a = false) → (insW cs i l).Pairwise fun a b => lexB cs b a = false
  | [], _ => List.pairwise_singleton _ _
  | j :: r, h => by
    obtain ⟨h1, h2⟩ := List.pairwise_cons.1 h
    unfold insW
    split
    · rename_i hl
      refine List.pairwise_cons.2 ⟨fun b hb => ?_, h⟩
      rcases List.mem_cons.1 hb with rfl | hb
      · exact lex_asymm hl
      · exact lex_trans (lex_asymm hl) (h1 b hb)
    · rename_i hl
      refine List.pairwise_cons.2 ⟨fun b hb => ?_, insE_sorted cs i r h2⟩
      rcases List.mem_cons.1 ((insE_perm cs i r).mem_iff.1 hb) with rfl | hb
      · simpa using hl
      · exact h1 b hb
theorem effC_perm (cs : List CallV) : (effC cs).Perm (places tookQ cs 0) := by
  unfold effC
  generalize places tookQ cs 0 = l
  induction l with
  | nil => exact List.Perm.refl _
  | cons a l ih => exact (insE_perm cs a _).trans (ih.cons a)
theorem effC_sorted (cs : List CallV) : (effC cs).Pairwise fun a b => lexB cs b a = false := by
  unfold effC
  generalize places tookQ cs 0 = l
  induction l with
  | nil => exact List.Pairwise.nil
  | cons a l ih => exact insE_sorted cs a _ ih
theorem effC_of {cs : List CallV} {E : List Nat} (h : EffIs cs E) : effC cs = E := by
  refine ((effC_perm cs).trans h.1.symm).eq_of_pairwise (le := fun a b => lexB cs b a = false) (fun a b ha hb h1 h2 => ?_) (effC_sorted cs) (h.2.imp fun hl => lex_asymm hl)
  have ha' := ((effC_perm cs).trans h.1.symm).mem_iff.1 ha
  rcases Nat.lt_trichotomy (E.idxOf a) (E.idxOf b) with h3 | h3 | h3
  · have := pair_at h.2 ha' hb h3
    rw [h2] at this; cases this
  · have e1 := List.getElem_idxOf (List.idxOf_lt_length_iff.2 ha')
    have e2 := List.getElem_idxOf (List.idxOf_lt_length_iff.2 hb)
    rw [← e1, ← e2]
    congr 1
  · have := pair_at h.2 hb ha' h3
    rw [h1] at this; cases this
def perfC (c : CfgV) (cs : List CallV) : Int × Int := perfE c cs (effC cs)
theorem perf_cfg {c : CfgV} {cs : List CallV} (h : cfgE c ≠ 0) (E : List Nat) : perfE c cs E = (0, cfgE c) := by unfold perfE; rw [if_pos h]
theorem perf_chk {c : CfgV} {cs : List CallV} (h1 : cfgE c = 0) (h : (checkP cs).2 ≠ 0) (E : List Nat) : perfE c cs E = checkP cs := by unfold perfE; rw [if_neg (by rw [h1]; simp), if_pos h]
theorem each_check (m n : Nat) (hm : m ≤ n) : EachC m n 82 #[] (fun _ _ => True) where
  ent := enters_of Tryz.func82 (by kernel_rfl) rfl
  keep := fun _ _ _ _ _ => trivial
  call := fun W b M K l hn _ _ _ _ => by
    go_enter Tryz.func82, Tryz.ntmps82
    go_wp2
    go_end0
    exact ⟨rfl, trivial, FrT.refl _ _ _⟩
theorem witcheck_any (c : CfgV) (p : Option Addr) (cap : Nat) (cs : List CallV) (w : World) (hC : CRow w p cap cs) (hs : cs.length ≤ 1000) (hok : ∀ x ∈ cs, x.Ok) (hd : ∀ x ∈ cs, x.ps.length ≤ 1000000) :
    Calls Tryz.prog 38 #[c.v, .slice p cs.length cap] w fun e w' => e = .returned (.tuple #[.int .i64 (perfC c cs).1, .int .i64 (perfC c cs).2]) ∧ Below w.heap.size w w' := by
  have hB0 : Below w.heap.size w (w.alloc (.cells #[.int .i64 c.slots, .int .u64 c.gens, .int .i64 c.clients, .int .i64 c.readers, .int .i64 c.queue, .int .i64 c.batch, .int .i64 c.feed, .string c.text] 24)) := (Below.refl w.heap.size w).alloc (Nat.le_refl _) _
  have hpf := perform_any w.heap.size c p cap cs 82 #[] (fun _ _ => True) (w.alloc (.cells #[.int .i64 c.slots, .int .u64 c.gens, .int .i64 c.clients, .int .i64 c.readers, .int .i64 c.queue, .int .i64 c.batch, .int .i64 c.feed, .string c.text] 24)) hB0.size (fun W hb => hC.on (hB0.trans hb)) (each_check _ _ hB0.size) trivial hs hok hd
  have hfin : ∀ e w', PerfPost w.heap.size (w.alloc (.cells #[.int .i64 c.slots, .int .u64 c.gens, .int .i64 c.clients, .int .i64 c.readers, .int .i64 c.queue, .int .i64 c.batch, .int .i64 c.feed, .string c.text] 24)) c cs (fun _ _ => True) e w' → ∃ v, e = .returned (.tuple #[v, .int .i64 (perfC c cs).1, .int .i64 (perfC c cs).2]) ∧ Below w.heap.size w w' := by
    rintro e w' (⟨h1, rfl, _, hb⟩ | ⟨h1, h2, rfl, _, hb⟩ | ⟨h1, h2, E, b, M, v, hE, rfl, _, hb, _⟩)
    · exact ⟨_, by unfold perfC; rw [perf_cfg h1], hB0.trans hb⟩
    · exact ⟨_, by unfold perfC; rw [perf_chk h1 h2], hB0.trans hb⟩
    · exact ⟨_, by unfold perfC; rw [effC_of hE], hB0.trans hb⟩
  have hpf2 := hpf.mono hfin
  clear hpf hfin
  generalize (perfC c cs).1 = x1 at *
  generalize (perfC c cs).2 = x2 at *
  unfold CfgV.v at *
  go_enter Tryz.func38, Tryz.ntmps38
  go_wp2_with (go_at_call 81; refine hpf2.mono ?_; rintro e w1 ⟨v, rfl, hb1⟩)
  go_returns
  exact ⟨rfl, hb1⟩
section
variable {w W : World} {c : CfgV} {p : Option Addr} {cap : Nat} {cs : List CallV}
end
end Go.Proofs.YtdeiocppghhfdaaGreat.Lin
namespace Go.Proofs.YtdeiocppghhfdaaGreat.Lin
set_option linter.unusedVariables false
set_option linter.unusedSimpArgs false
set_option maxRecDepth 100000
set_option maxHeartbeats 8000000
open Hs
theorem sum_least {f : Nat → Nat} : ∀ {l : List Nat}, 1 ≤ (l.map f).sum → ∃ i ∈ l, 1 ≤ f i
  | [], h => by simp at h
  | a :: l, h => by
    rw [List.map_cons, List.sum_cons] at h
    by_cases ha : 1 ≤ f a
    · exact ⟨a, by simp, ha⟩
    · obtain ⟨i, hi, h1⟩ := sum_least (f := f) (l := l) (by omega)
      exact ⟨i, by simp [hi], h1⟩
theorem sum_pair {f : Nat → Nat} : ∀ {l : List Nat}, l.Nodup → 2 ≤ (l.map f).sum → (∃ i ∈ l, 2 ≤ f i) ∨ ∃ i ∈ l, ∃ j ∈ l, i ≠ j ∧ 1 ≤ f i ∧ 1 ≤ f j
  | [], _, h => by simp at h
  | a :: l, hn, h => by
    obtain ⟨n1, n2⟩ := List.nodup_cons.1 hn
    rw [List.map_cons, List.sum_cons] at h
    by_cases h2 : 2 ≤ f a
    · exact .inl ⟨a, by simp, h2⟩
    · by_cases h1 : 1 ≤ f a
      · obtain ⟨j, hj, h3⟩ := sum_least (f := f) (l := l) (by omega)
        exact .inr ⟨a, by simp, j, by simp [hj], fun e => n1 (e ▸ hj), h1, h3⟩
      · rcases sum_pair n2 (f := f) (by omega) with ⟨i, hi, h3⟩ | ⟨i, hi, j, hj, h3⟩
        · exact .inl ⟨i, by simp [hi], h3⟩
        · exact .inr ⟨i, by simp [hi], j, by simp [hj], h3⟩
section
variable {α : Type} {n : Nat} {next : α → Nat → Option α} {rdy : Nat → Nat → Bool} {fl : Nat → Bool}
theorem tryC_chain {k : Nat} (ih : ∀ {s : α} {u : Nat}, fr n u ≤ k → 1 ≤ C n next rdy fl s u → ∃ a, chain n next rdy fl s u a = true) {s : α} {u i : Nat} (hi : i < n) (hk : fr n u ≤ k + 1) (h : 1 ≤ tryC n next rdy fl s u i) : ∃ a, chain n next rdy fl s u (i :: a) = true := by
  unfold tryC at h
  split at h
  · rename_i hc
    cases hn : next s i with
    | none => rw [hn] at h; simp at h
    | some t =>
      rw [hn] at h
      have h2 := fr_or hi (cand_bit hc)
      obtain ⟨a, ha⟩ := ih (s := t) (u := u ||| 2 ^ i) (by omega) h
      refine ⟨a, ?_⟩
      unfold chain
      simp [hi, hc, hn, ha]
  · simp at h
theorem C_two : ∀ (k : Nat) {s : α} {u : Nat}, fr n u ≤ k → 2 ≤ C n next rdy fl s u → ∃ a b, a ≠ b ∧ chain n next rdy fl s u a = true ∧ chain n next rdy fl s u b = true := by
  intro k
  induction k with
  | zero =>
    intro s u hk h
    rw [C_eq] at h
    have h0 : ((List.range n).map (tryC n next rdy fl s u)).sum = 0 := by
      rw [List.sum_eq_zero_iff_forall_eq_nat]
      intro x hx
      obtain ⟨i, hi, rfl⟩ := List.mem_map.1 hx
      have := fr_zero (show fr n u = 0 by omega) (List.mem_range.1 hi)
      unfold tryC cand
      rw [this]; rfl
    rw [h0] at h
    split at h <;> omega
  | succ k ih =>
    intro s u hk h
    have ih1 : ∀ {s : α} {u : Nat}, fr n u ≤ k → 1 ≤ C n next rdy fl s u → ∃ a, chain n next rdy fl s u a = true := fun h1 h2 => C_chain k h1 h2
    rw [C_eq] at h
    cases hf : fl u with
    | true =>
      rw [hf] at h
      simp only [if_true] at h
      obtain ⟨i, hi, h1⟩ := sum_least (f := tryC n next rdy fl s u) (l := List.range n) (by omega)
      obtain ⟨a, ha⟩ := tryC_chain ih1 (List.mem_range.1 hi) hk h1
      exact ⟨[], i :: a, by simp, hf, ha⟩
    | false =>
      rw [hf] at h
      simp only [Bool.false_eq_true, if_false, Nat.zero_add] at h
      rcases sum_pair (f := tryC n next rdy fl s u) List.nodup_range h with ⟨i, hi, h1⟩ | ⟨i, hi, j, hj, hij, h1, h2⟩
      · have hin := List.mem_range.1 hi
        unfold tryC at h1
        split at h1
        · rename_i hc
          cases hn : next s i with
          | none => rw [hn] at h1; simp at h1
          | some t =>
            rw [hn] at h1
            have h2 := fr_or hin (cand_bit hc)
            obtain ⟨a, b, hab, ha, hb⟩ := ih (s := t) (u := u ||| 2 ^ i) (by omega) h1
            refine ⟨i :: a, i :: b, fun e => hab (by injection e), ?_, ?_⟩
            · unfold chain; simp [hin, hc, hn, ha]
            · unfold chain; simp [hin, hc, hn, hb]
        · simp at h1
      · obtain ⟨a, ha⟩ := tryC_chain ih1 (List.mem_range.1 hi) hk h1
        obtain ⟨b, hb⟩ := tryC_chain ih1 (List.mem_range.1 hj) hk h2
        exact ⟨i :: a, j :: b, fun e => hij (by injection e), ha, hb⟩
end
structure SeqH (L : List CallV) : Prop where
  th : ∀ i, i < L.length → 0 ≤ (getC L i).thread ∧ (getC L i).thread < 16
  ix : ∀ i, i < L.length → (getC L i).index = (thF (getC L i).thread (L.take i)).length
  nv : ∀ i, i < L.length → (getC L i).invoked = 2 * (i : Int) ∧ (getC L i).took = 2 * (i : Int) ∧ (getC L i).rank = 0 ∧ (getC L i).answered = 2 * (i : Int) + 1 ∧ (getC L i).steps = 2
section
variable {L : List CallV}
theorem mem_take_get {i : Nat} {d : CallV} (hd : d ∈ L.take i) : ∃ j, j < i ∧ j < L.length ∧ d = getC L j := by
  obtain ⟨j, hj, he⟩ := List.mem_take_iff_getElem.1 hd
  refine ⟨j, by omega, by omega, ?_⟩
  rw [← he]
  exact (getC_at (List.getElem?_eq_getElem (by omega))).symm
theorem SeqH.check (h : SeqH L) : checkP L = (0, 0) := by
  refine check_good fun i hi => ?_
  rw [ok_at (getC_some hi), accB_eq]
  obtain ⟨n1, n2, n3, n4, n5⟩ := h.nv i hi
  obtain ⟨t1, t2⟩ := h.th i hi
  have hix := h.ix i hi
  have hf : formedB (getC L i) = true := by
    unfold formedB
    rw [n1, n2, n3, n4, n5, hix]
    refine decide_eq_true ⟨t1, t2, by omega, by omega, by omega, by omega, by omega, by omega, .inl ⟨by omega, by omega⟩, .inr ⟨by omega, by omega, by omega, by omega, by omega, by omega, .inr (by omega)⟩⟩
  have hl : (match (L.take i).getLast? with | some p => decide (p.invoked < (getC L i).invoked) | none => true) = true := by
    cases hg : (L.take i).getLast? with
    | none => rfl
    | some d =>
      obtain ⟨j, hj, hjl, rfl⟩ := mem_take_get (List.mem_of_getLast? hg)
      show decide ((getC L j).invoked < (getC L i).invoked) = true
      rw [(h.nv j hjl).1, n1]
      exact decide_eq_true (by omega)
  have ht : (match (thF (getC L i).thread (L.take i)).getLast? with | some d => befB d (getC L i) | none => true) = true := by
    cases hg : (thF (getC L i).thread (L.take i)).getLast? with
    | none => rfl
    | some d =>
      have hm := List.mem_of_getLast? hg
      unfold thF at hm
      obtain ⟨j, hj, hjl, rfl⟩ := mem_take_get (List.mem_filter.1 hm).1
      show befB (getC L j) (getC L i) = true
      unfold befB
      rw [(h.nv j hjl).2.2.2.1, n1]
      simp only [Bool.and_eq_true, decide_eq_true_eq]
      omega
  have hc : ((L.take i).all fun d => !clashB (getC L i) d) = true := by
    rw [List.all_eq_true]
    intro d hd
    obtain ⟨j, hj, hjl, rfl⟩ := mem_take_get hd
    obtain ⟨m1, m2, m3, m4, m5⟩ := h.nv j hjl
    have : clashB (getC L i) (getC L j) = false := by
      unfold clashB
      rw [n1, n2, n3, n4, m1, m2, m3, m4]
      refine decide_eq_false ?_
      omega
    rw [this]; rfl
  simp only [Bool.and_eq_true]
  exact ⟨⟨⟨⟨hf, hl⟩, decide_eq_true hix⟩, ht⟩, hc⟩
theorem SeqH.eff (h : SeqH L) : EffIs L (List.range L.length) := by
  refine ⟨?_, ?_⟩
  · refine (List.perm_ext_iff_of_nodup List.nodup_range places_nodup).2 fun i => ?_
    rw [List.mem_range]
    constructor
    · intro hi
      have := places_mem (q := tookQ) (k := 0) (getC_some hi) (by unfold tookQ; rw [(h.nv i hi).2.1]; exact decide_eq_true (by omega))
      rwa [Nat.zero_add] at this
    · intro hi
      obtain ⟨c, hc, _⟩ := places_at hi
      exact (List.getElem?_eq_some_iff.1 hc).1
  · refine List.Pairwise.imp_of_mem (fun {i j} hi hj hlt => ?_) List.pairwise_lt_range
    have hi := List.mem_range.1 hi
    have hj := List.mem_range.1 hj
    unfold lexB
    rw [(getC_tk hi).1, (getC_tk hj).1, (h.nv i hi).2.1, (h.nv j hj).2.1]
    exact decide_eq_true (.inl (by omega))
theorem SeqH.ord (h : SeqH L) : ordW L (List.range L.length) = List.range L.length := by
  cases hc : closeP L (List.range L.length) with
  | none => exact ord_none hc
  | some z =>
    obtain ⟨P, Q, hz⟩ := close_at h.eff hc
    rw [ord_some h.eff hc hz]
    have hm : ∀ i ∈ Q, mvQ L z i = false := fun i hi => by
      have hil : i < L.length := List.mem_range.1 (by rw [hz.eq]; simp [hi])
      have hzl : z < L.length := List.mem_range.1 (by rw [hz.eq]; simp)
      unfold mvQ
      rw [(h.nv i hil).1, (h.nv i hil).2.1, (h.nv z hzl).2.1]
      by_cases hlt : z < i
      · have : decide (2 * (i : Int) < 2 * (z : Int)) = false := decide_eq_false (by omega)
        rw [this]; simp
      · have : decide (2 * (z : Int) < 2 * (i : Int)) = false := decide_eq_false (by omega)
        rw [this]; simp
    have h1 : Q.filter (mvQ L z) = [] := List.filter_eq_nil_iff.2 fun i hi => by rw [hm i hi]; simp
    have h2 : (Q.filter fun i => !mvQ L z i) = Q := List.filter_eq_self.2 fun i hi => by rw [hm i hi]; rfl
    rw [h1, h2, List.append_nil, hz.eq, List.append_assoc]
    rfl
theorem play_all (ha : ∀ i, i < L.length → ¬ (getC L i).answered < 0) : ∀ (o : List Nat) (st : MS), (∀ i ∈ o, i < L.length) → (playE L st o = none ↔ (runO L st (o.map fun (n : Nat) => (n : Int))).isSome = true)
  | [], st, _ => by simp [playE, runO]
  | i :: r, st, hl => by
    have hi := hl i (by simp)
    have e : runO L st ((i :: r).map fun (n : Nat) => (n : Int)) = (nx L st i).bind fun t => runO L t (r.map fun (n : Nat) => (n : Int)) := rfl
    rw [e]
    unfold playE
    cases h : (accO L st i).1 with
    | true =>
      rw [accO_next (ha i hi) h, if_pos rfl]
      exact play_all ha r _ fun j hj => hl j (by simp [hj])
    | false =>
      have hn : nx L st i = none := by
        show nextS st (getC L i) = none
        unfold nextS
        rw [if_neg (ha i hi)]
        have h' : (accS st (getC L i).thread (opV (getC L i)) (resV (getC L i)) (itV (getC L i))).1 = false := h
        rw [h']; rfl
      rw [hn]
      simp
theorem SeqH.only (h : SeqH L) {st : MS} {a : List Nat} (ha : chainC L st 0 a = true) : a = List.range L.length := by
  obtain ⟨c1, c2, _, c4, _, c6⟩ := (chain_run a).1 ha
  have hmem : ∀ i, i ∈ a ↔ i ∈ List.range L.length := fun i => by
    rw [List.mem_range]
    refine ⟨c1 i, fun hi => ?_⟩
    have := full_get c6 hi (by rw [(h.nv i hi).2.2.2.1]; omega)
    rw [mk_bit, Nat.zero_testBit, Bool.false_or] at this
    simpa using this
  have hs : a.Pairwise fun x y => x < y := by
    rw [List.pairwise_iff_getElem]
    intro k1 k2 h1 h2 hlt
    rcases Nat.lt_trichotomy a[k1] a[k2] with h3 | h3 | h3
    · exact h3
    · exact absurd h3 (List.pairwise_iff_getElem.1 c2 k1 k2 h1 h2 hlt)
    · exfalso
      have l1 := c1 a[k1] (List.getElem_mem ..)
      have l2 := c1 a[k2] (List.getElem_mem ..)
      have hr := c4 k1 a[k1] (List.getElem?_eq_getElem h1)
      have hb : befB (getC L a[k2]) (getC L a[k1]) = true := by
        unfold befB
        rw [(h.nv _ l2).2.2.2.1, (h.nv _ l1).1]
        simp only [Bool.and_eq_true, decide_eq_true_eq]
        omega
      have := rdy_get hr l2 hb
      rw [mk_bit, Nat.zero_testBit, Bool.false_or, List.contains_iff_mem] at this
      obtain ⟨m, hm, e⟩ := List.mem_take_iff_getElem.1 this
      exact absurd e (List.pairwise_iff_getElem.1 c2 m k2 (by omega) h2 (by omega))
  have hp : a.Perm (List.range L.length) := (List.perm_ext_iff_of_nodup c2 List.nodup_range).2 hmem
  exact hp.eq_of_pairwise (fun x y _ _ h1 h2 => by omega) hs List.pairwise_lt_range
theorem SeqH.chain (h : SeqH L) {st : MS} (hr : (runO L st ((List.range L.length).map fun (n : Nat) => (n : Int))).isSome = true) : chainC L st 0 (List.range L.length) = true := by
  refine (chain_run _).2 ⟨fun i hi => List.mem_range.1 hi, List.nodup_range, fun i _ => Nat.zero_testBit i, ?_, hr, ?_⟩
  · have h0 : (checkP L).2 = 0 := by rw [h.check]
    exact back_rdy h0 (fun i hi => List.mem_range.1 hi) (eff_back h0 h.eff) fun i hi j hj _ => List.mem_range.2 hj
  · refine full_mk fun j hj _ => ?_
    rw [mk_bit, Nat.zero_testBit, Bool.false_or, List.contains_iff_mem]
    exact List.mem_range.2 hj
theorem inorder_law (h : SeqH L) (c : CfgV) (hl : L.length ≤ 10) :
    (findP c L).2.2 = (countP c 50 L).2 ∧ ((findP c L).2.1 = true ↔ (perfE c L (List.range L.length)).2 = 0) ∧
    ((findP c L).2.1 = false → (findP c L).1 = [] ∧ (countP c 50 L).1 = 0) ∧ ((findP c L).2.1 = true → (findP c L).2.2 = 0 ∧ (countP c 50 L).1 = 1 ∧ (findP c L).1 = List.range L.length) := by
  have h0 : (checkP L).2 = 0 := by rw [h.check]
  have hans : ∀ i, i < L.length → ¬ (getC L i).answered < 0 := fun i hi => by rw [(h.nv i hi).2.2.2.1]; omega
  rw [find_err, count_err c L (by omega) (by omega)]
  refine ⟨rfl, ?_⟩
  by_cases hc : cfgE c = 0
  · have hs : startE c L = 0 := start_zero hc h0 hl
    have hpl := play_all hans (List.range L.length) (newS c) fun i hi => List.mem_range.1 hi
    have hpf : (perfE c L (List.range L.length)).2 = 0 ↔ (runO L (newS c) ((List.range L.length).map fun (n : Nat) => (n : Int))).isSome = true := by
      rw [← hpl]
      constructor
      · intro hp
        have := (perf_parts hp).2.2
        rwa [h.ord] at this
      · intro hp
        rw [perf_zero hc h0 (by rw [h.ord]; exact hp)]
    rw [hpf, count_ok hs (by omega) (by omega), hs]
    cases hS : SS L (newS c) 0 with
    | none =>
      rw [find_none hs hS]
      have hC : ¬ 1 ≤ CC L (newS c) 0 := fun h => by rw [cnt_iff, hS] at h; cases h
      refine ⟨⟨fun h => (by cases h), fun hr => ?_⟩, fun _ => ⟨rfl, by simp only; omega⟩, fun h => by cases h⟩
      obtain ⟨b, hb, _⟩ := chain_SS (h.chain hr)
      rw [hb] at hS; cases hS
    | some a =>
      rw [find_some hs hS]
      have hch := SS_chain hS
      have he := h.only hch
      have hC : 1 ≤ CC L (newS c) 0 := cnt_iff.2 (by rw [hS]; rfl)
      have hC2 : ¬ 2 ≤ CC L (newS c) 0 := fun h2 => by
        obtain ⟨x, y, hxy, hx, hy⟩ := C_two L.length (by unfold fr; exact Nat.le_trans (List.length_filter_le _ _) (by simp)) h2
        exact hxy ((h.only hx).trans (h.only hy).symm)
      refine ⟨⟨fun _ => ?_, fun _ => rfl⟩, fun h => (by cases h), fun _ => ⟨rfl, by simp only; omega, he⟩⟩
      rw [he] at hch
      exact ((chain_run _).1 hch).2.2.2.2.1
  · have hs : startE c L ≠ 0 := by unfold startE; rw [if_pos hc]; exact hc
    rw [find_no hs, count_no hs]
    refine ⟨⟨fun h => (by cases h), fun hp => ?_⟩, fun _ => ⟨rfl, rfl⟩, fun h => by cases h⟩
    exact absurd (perf_parts hp).1 hc
end
end Go.Proofs.YtdeiocppghhfdaaGreat.Lin
namespace Go.Proofs.YtdeiocppghhfdaaGreat.Lin
set_option linter.unusedVariables false
set_option linter.unusedSimpArgs false
set_option maxRecDepth 100000
set_option maxHeartbeats 8000000
open Hs
def thr16 (t : Int) : Int := (t.tmod 16 + 16).tmod 16
theorem thr16_in (t : Int) : 0 ≤ thr16 t ∧ thr16 t < 16 := by
  unfold thr16
  have h3 : -16 < t.tmod 16 := Int.lt_tmod_of_pos t (by omega)
  have h5 := Int.tmod_nonneg (a := t.tmod 16 + 16) 16 (by omega)
  have h6 : (t.tmod 16 + 16).tmod 16 < 16 := Int.tmod_lt_of_pos _ (by omega)
  exact ⟨h5, h6⟩
def cntT (cs : List CallV) (k : Nat) (t : Int) : Nat := ((List.range k).filter fun j => decide (thr16 (getC cs j).thread = t)).length
theorem cntT_succ (cs : List CallV) (k : Nat) (t : Int) : cntT cs (k + 1) t = cntT cs k t + if thr16 (getC cs k).thread = t then 1 else 0 := by
  unfold cntT
  rw [List.range_succ, List.filter_append, List.length_append]
  congr 1
  by_cases h : thr16 (getC cs k).thread = t
  · simp [h]
  · simp [h]
theorem cntT_le (cs : List CallV) (k : Nat) (t : Int) : cntT cs k t ≤ k := by
  unfold cntT
  exact Nat.le_trans (List.length_filter_le _ _) (by simp)
def seqV (cs : List CallV) (k : Nat) : CallV := { getC cs k with thread := thr16 (getC cs k).thread, index := cntT cs k (thr16 (getC cs k).thread), invoked := 2 * (k : Int), took := 2 * (k : Int), rank := 0, answered := 2 * (k : Int) + 1, steps := 2 }
def seqK (cs : List CallV) (k : Nat) : List CallV := (List.range k).map (seqV cs) ++ cs.drop k
theorem seqK_zero (cs : List CallV) : seqK cs 0 = cs := by simp [seqK]
theorem seqK_all (cs : List CallV) : seqK cs cs.length = (List.range cs.length).map (seqV cs) := by simp [seqK]
theorem seqK_len {cs : List CallV} {k : Nat} (h : k ≤ cs.length) : (seqK cs k).length = cs.length := by unfold seqK; rw [List.length_append, List.length_map, List.length_range, List.length_drop]; omega
theorem seqK_at {cs : List CallV} {k : Nat} (h : k < cs.length) : (seqK cs k)[k]? = some (getC cs k) := by
  unfold seqK
  rw [List.getElem?_append_right (by simp), List.length_map, List.length_range, Nat.sub_self, List.getElem?_drop, Nat.add_zero, getC_some h]
theorem seqK_succ {cs : List CallV} {k : Nat} (h : k < cs.length) : seqK cs (k + 1) = (seqK cs k).set k (seqV cs k) := by
  unfold seqK
  rw [List.set_append, if_neg (by simp), List.length_map, List.length_range, Nat.sub_self]
  have e : cs.drop k = getC cs k :: cs.drop (k + 1) := by rw [List.drop_eq_getElem_cons h]; congr 1; exact (getC_at (List.getElem?_eq_getElem h)).symm
  rw [e, List.set_cons_zero, List.range_succ, List.map_append, List.append_assoc]
  rfl
theorem seq_get {cs : List CallV} {i : Nat} (h : i < cs.length) : getC ((List.range cs.length).map (seqV cs)) i = seqV cs i := getC_at (by simp [h])
theorem seq_ok (cs : List CallV) : SeqH ((List.range cs.length).map (seqV cs)) := by
  have hl : ((List.range cs.length).map (seqV cs)).length = cs.length := by simp
  refine ⟨fun i hi => ?_, fun i hi => ?_, fun i hi => ?_⟩
  · rw [hl] at hi; rw [seq_get hi]; exact thr16_in _
  · rw [hl] at hi
    rw [seq_get hi]
    show ((cntT cs i (thr16 (getC cs i).thread) : Nat) : Int) = ((thF (thr16 (getC cs i).thread) (((List.range cs.length).map (seqV cs)).take i)).length : Int)
    rw [← List.map_take, List.take_range, Nat.min_eq_left (by omega)]
    unfold thF cntT
    rw [List.filter_map, List.length_map]
    rfl
  · rw [hl] at hi; rw [seq_get hi]; exact ⟨rfl, rfl, rfl, rfl, rfl⟩
theorem seqV_ok {cs : List CallV} {k : Nat} (h : (getC cs k).Ok) (hk : k ≤ 1000) : (seqV cs k).Ok :=
  ⟨by show -9223372036854775808 ≤ 2 * (k : Int); omega, by show 2 * (k : Int) ≤ 9223372036854775807; omega, by show -9223372036854775808 ≤ 2 * (k : Int) + 1; omega, by show 2 * (k : Int) + 1 ≤ 9223372036854775807; omega, by show -9223372036854775808 ≤ (2 : Int); decide, by show (2 : Int) ≤ 9223372036854775807; decide,
   by show -9223372036854775808 ≤ 2 * (k : Int); omega, by show 2 * (k : Int) ≤ 9223372036854775807; omega, by show -9223372036854775808 ≤ (0 : Int); decide, by show (0 : Int) ≤ 9223372036854775807; decide, h.kd, h.id, h.gr, h.sl, h.at_, h.nn⟩
theorem seq_mem {cs : List CallV} {x : CallV} (h : x ∈ (List.range cs.length).map (seqV cs)) : ∃ k, k < cs.length ∧ x = seqV cs k := by
  obtain ⟨k, hk, rfl⟩ := List.mem_map.1 h
  exact ⟨k, List.mem_range.1 hk, rfl⟩
def cntL (cs : List CallV) (k : Nat) : List Value := (List.range 16).map fun (t : Nat) => Value.int .i64 ((cntT cs k (t : Int) : Nat) : Int)
theorem cntL_zero (cs : List CallV) : cntL cs 0 = List.replicate 16 (.int .i64 0) := by
  unfold cntL cntT
  simp
  rfl
theorem cntL_at {cs : List CallV} {k t : Nat} (h : t < 16) : (cntL cs k)[t]? = some (.int .i64 ((cntT cs k (t : Int) : Nat) : Int)) := by unfold cntL; simp [h]
theorem cntL_set {cs : List CallV} {k t : Nat} (ht : thr16 (getC cs k).thread = (t : Int)) : (cntL cs k).set t (.int .i64 (((cntT cs k (t : Int) : Nat) : Int) + 1)) = cntL cs (k + 1) := by
  unfold cntL
  apply List.ext_getElem?
  intro j
  by_cases hj : j < 16
  · by_cases e : t = j
    · subst e
      rw [List.getElem?_set_self (by simpa using hj)]
      simp [hj, cntT_succ, ht]
    · rw [List.getElem?_set_ne e]
      have e2 : ¬ ((t : Int) = (j : Int)) := by omega
      simp [hj, cntT_succ, ht, e2]
  · rw [List.getElem?_eq_none (by simp; omega), List.getElem?_eq_none (by simp; omega)]
end Go.Proofs.YtdeiocppghhfdaaGreat.Lin
namespace Go.Proofs.YtdeiocppghhfdaaGreat.Lin
set_option linter.unusedVariables false
set_option linter.unusedSimpArgs false
set_option maxRecDepth 100000
set_option maxHeartbeats 8000000
open Go.RowKit Go.Lib Go.Shelf
open Hs
def oneS (st : MS) (c : Nat) : MS := { st with seats := [st.seat c] }
def wrapS (st : MS) (c : Nat) (x : ResV × MS) : ResV × MS := (x.1, { x.2 with seats := st.seats.set c (x.2.seat 0) })
theorem set_self (st : MS) (c : Nat) : st.seats.set c (st.seat c) = st.seats := congrArg MS.seats (put_self st c)
theorem wrap_same (st : MS) (c : Nat) (r : ResV) (t : ByteArray) (m : List MkV) (n : Int) (b : Bool) : wrapS st c (r, { oneS st c with text := t, marks := m, number := n, closed := b }) = (r, { st with text := t, marks := m, number := n, closed := b }) := by
  show (r, ({ text := t, marks := m, number := n, closed := b, readers := st.readers, seats := st.seats.set c (st.seat c) } : MS)) = _
  rw [set_self]
theorem wrap_id (st : MS) (c : Nat) (r : ResV) : wrapS st c (r, oneS st c) = (r, st) := wrap_same st c r st.text st.marks st.number st.closed
theorem op_one (st : MS) (c : Nat) (q : OpV) : opS st c q = wrapS st c (opS (oneS st c) 0 q) := by
  have hs : (oneS st c).seat 0 = st.seat c := rfl
  unfold opS
  split
  · have e : insE (oneS st c) q = insE st q := rfl
    unfold insS; rw [e]; split
    · rw [wrap_id]
    · exact (wrap_same st c _ _ _ _ st.closed).symm
  split
  · have e : delE (oneS st c) q = delE st q := rfl
    unfold delS; rw [e]; split
    · rw [wrap_id]
    · exact (wrap_same st c _ _ _ _ st.closed).symm
  split
  · have e : setE (oneS st c) q = setE st q := rfl
    unfold setS; rw [e]; split
    · rw [wrap_id]
    · show _ = wrapS st c (if hasM q.id st.marks = true ∨ st.marks.length < 64 then _ else _)
      split
      · exact (wrap_same st c _ st.text _ _ st.closed).symm
      · rw [wrap_id]
  split
  · unfold drpS
    show _ = wrapS st c (if st.closed then _ else _)
    split
    · rw [wrap_id]
    · show _ = wrapS st c (if hasM q.id st.marks then _ else _)
      split
      · exact (wrap_same st c _ st.text _ _ st.closed).symm
      · rw [wrap_id]
  split
  · unfold acqS
    rw [hs]
    show _ = wrapS st c (if st.closed then _ else _)
    split
    · rw [wrap_id]
    · cases (st.seat c).slots.findIdx? (fun s => !s.held) with
      | none => rw [wrap_id]
      | some k => rfl
  split
  · unfold subS
    rw [hs]
    show _ = wrapS st c (if (st.seat c).sub then _ else if st.closed then _ else _)
    split
    · rw [wrap_id]
    · split
      · rw [wrap_id]
      · rfl
  split
  · unfold recS
    rw [hs]
    show _ = wrapS st c (if !(st.seat c).sub then _ else if st.closed then _ else _)
    split
    · rw [wrap_id]
    · split <;> rw [wrap_id]
  split
  · unfold cloS
    show _ = wrapS st c (if st.closed then _ else _)
    split
    · rw [wrap_id]
    · exact (wrap_same st c _ st.text st.marks st.number true).symm
  · unfold reaS
    rw [hs]
    split
    · rw [wrap_id]
    · rfl
def rnN (b C i : Nat) : Nat := (i + b) % C
def rnC (b C : Nat) (t : Int) : Int := if 0 ≤ t ∧ t < (C : Int) then ((rnN b C t.toNat : Nat) : Int) else t
theorem rnN_lt {b C i : Nat} (hC : 0 < C) : rnN b C i < C := Nat.mod_lt _ hC
theorem rnN_inj {b C i j : Nat} (hi : i < C) (hj : j < C) (h : rnN b C i = rnN b C j) : i = j := by
  unfold rnN at h
  have h1 := Nat.div_add_mod (i + b) C
  have h2 := Nat.div_add_mod (j + b) C
  rw [h] at h1
  have h3 : (i + b) / C = (j + b) / C := by
    rcases Nat.lt_trichotomy ((i + b) / C) ((j + b) / C) with h4 | h4 | h4
    · exfalso
      have := Nat.mul_le_mul_left C h4
      rw [Nat.mul_succ] at this
      omega
    · exact h4
    · exfalso
      have := Nat.mul_le_mul_left C h4
      rw [Nat.mul_succ] at this
      omega
  rw [h3] at h1
  omega
theorem rnC_in {b C : Nat} {t : Int} (hC : 0 < C) : (0 ≤ rnC b C t ∧ rnC b C t < (C : Int)) ↔ (0 ≤ t ∧ t < (C : Int)) := by
  unfold rnC
  split
  · rename_i h
    have := rnN_lt (b := b) (i := t.toNat) hC
    constructor
    · intro _; exact h
    · intro _; omega
  · rfl
structure PR (b C : Nat) (s t : MS) : Prop where
  core : t = { s with seats := t.seats }
  len : s.seats.length = C
  len2 : t.seats.length = C
  seat : ∀ i, i < C → t.seat (rnN b C i) = s.seat i
theorem PR.one {b C : Nat} {s t : MS} (h : PR b C s t) {i : Nat} (hi : i < C) : oneS t (rnN b C i) = oneS s i := by
  unfold oneS
  rw [h.seat i hi, h.core]
theorem seat_set (st : MS) (l : List SeV) (i j : Nat) (y : SeV) (X : MS) (hl : i < l.length) : ({ X with seats := l.set i y } : MS).seat j = if i = j then y else ({ X with seats := l } : MS).seat j := by
  unfold MS.seat
  rw [List.getD_eq_getElem?_getD, List.getD_eq_getElem?_getD]
  by_cases h : i = j
  · subst h; rw [if_pos rfl, List.getElem?_set_self hl]; rfl
  · rw [if_neg h, List.getElem?_set_ne h]
theorem PR.stat {b C : Nat} (hC : 0 < C) {s t : MS} (h : PR b C s t) (c : Int) (q : OpV) : statE t (rnC b C c) q = statE s c q := by
  unfold statE
  rw [h.len, h.len2]
  have := rnC_in (b := b) (t := c) hC
  by_cases hc : 0 ≤ c ∧ c < (C : Int)
  · have := this.2 hc
    rw [if_neg (by omega), if_neg (by omega)]
  · have h2 : ¬ (0 ≤ rnC b C c ∧ rnC b C c < (C : Int)) := fun h => hc (this.1 h)
    rw [if_pos (by omega), if_pos (by omega)]
theorem PR.do_ {b C : Nat} (hC : 0 < C) {s t : MS} (h : PR b C s t) (c : Int) (q : OpV) : (doS t (rnC b C c) q).1 = (doS s c q).1 ∧ PR b C (doS s c q).2 (doS t (rnC b C c) q).2 := by
  unfold doS
  rw [h.stat hC]
  split
  · exact ⟨rfl, h⟩
  · rename_i he
    obtain ⟨h0, h1, _⟩ := statE_ok (Decidable.not_not.1 he)
    rw [h.len] at h1
    have e : (rnC b C c).toNat = rnN b C c.toNat := by unfold rnC; rw [if_pos ⟨h0, h1⟩]; omega
    have hi : c.toNat < C := by omega
    rw [e, op_one t, op_one s, h.one hi]
    generalize opS (oneS s c.toNat) 0 q = X
    refine ⟨rfl, rfl, ?_, ?_, fun i hi2 => ?_⟩
    · show (s.seats.set _ _).length = C
      rw [List.length_set]; exact h.len
    · show (t.seats.set _ _).length = C
      rw [List.length_set]; exact h.len2
    · show ({ X.2 with seats := t.seats.set (rnN b C c.toNat) (X.2.seat 0) } : MS).seat (rnN b C i) = ({ X.2 with seats := s.seats.set c.toNat (X.2.seat 0) } : MS).seat i
      rw [seat_set s _ _ _ _ _ (by rw [h.len2]; exact rnN_lt hC), seat_set s _ _ _ _ _ (by rw [h.len]; exact hi)]
      by_cases hic : c.toNat = i
      · rw [if_pos (by rw [hic]), if_pos hic]
      · rw [if_neg (fun e => hic (rnN_inj hi hi2 e)), if_neg hic]
        exact h.seat i hi2
theorem PR.acc {b C : Nat} (hC : 0 < C) {s t : MS} (h : PR b C s t) (c : Int) (q : OpV) (r : ResV) (i : ItV) : (accS t (rnC b C c) q r i).1 = (accS s c q r i).1 ∧ PR b C (accS s c q r i).2 (accS t (rnC b C c) q r i).2 := by
  obtain ⟨h1, h2⟩ := h.do_ hC c q
  have e : accB t (rnC b C c) q r i = accB s c q r i := by unfold accB; rw [h1, h.stat hC]
  unfold accS
  rw [h1, e]
  split
  · exact ⟨rfl, h2⟩
  · exact ⟨rfl, h⟩
theorem PR.new {b : Nat} {c : CfgV} (hC : 0 < c.clients.toNat) : PR b c.clients.toNat (newS c) (newS c) := by
  refine ⟨rfl, by simp [newS], by simp [newS], fun i hi => ?_⟩
  have := rnN_lt (b := b) (i := i) hC
  unfold MS.seat newS
  simp [List.getElem?_replicate, hi, this]
def renC (b C : Nat) (c : CallV) : CallV := { c with thread := rnC b C c.thread }
theorem PR.next {b C : Nat} (hC : 0 < C) {s t : MS} (h : PR b C s t) (c : CallV) : (nextS s c = none ∧ nextS t (renC b C c) = none) ∨ ∃ s' t', nextS s c = some s' ∧ nextS t (renC b C c) = some t' ∧ PR b C s' t' := by
  have hd := h.do_ hC c.thread (opV c)
  have ha := h.acc hC c.thread (opV c) (resV c) (itV c)
  have e : nextS t (renC b C c) = if c.answered < 0 then some (doS t (rnC b C c.thread) (opV c)).2
    else if (accS t (rnC b C c.thread) (opV c) (resV c) (itV c)).1 then some (accS t (rnC b C c.thread) (opV c) (resV c) (itV c)).2 else none := rfl
  rw [e]
  unfold nextS
  by_cases h1 : c.answered < 0
  · rw [if_pos h1, if_pos h1]
    exact .inr ⟨_, _, rfl, rfl, hd.2⟩
  · rw [if_neg h1, if_neg h1, ha.1]
    cases (accS s c.thread (opV c) (resV c) (itV c)).1 with
    | true => exact .inr ⟨_, _, rfl, rfl, ha.2⟩
    | false => exact .inl ⟨rfl, rfl⟩
end Go.Proofs.YtdeiocppghhfdaaGreat.Lin
namespace Go.Proofs.YtdeiocppghhfdaaGreat.Lin
set_option linter.unusedVariables false
set_option linter.unusedSimpArgs false
set_option maxRecDepth 100000
set_option maxHeartbeats 8000000
open Go.RowKit Go.Lib Go.Shelf
open Hs
open KitI (iv IRow own_below)
attribute [local go_sem, local simp] Hs.callL_0 Hs.callL_1 Hs.callL_2 Hs.callL_3 Hs.callL_4 Hs.callL_5 Hs.callL_6 Hs.callL_7 Hs.callL_8 Hs.callL_9 Hs.callL_10 Hs.callL_11 Hs.callL_12 Hs.callL_13 Hs.callL_14 Hs.callL_15 Hs.callL_16 Hs.callL_17 Hs.callL_18 Hs.callL_19 Hs.callL_20 Hs.callL_21 Hs.callL_22 Hs.callL_23 Hs.callL_24 Hs.callL_25 Hs.callL_26 Hs.resL_0 Hs.resL_1 Hs.resL_2 Hs.resL_3 Hs.resL_4 Hs.resL_5 Hs.resL_6 Hs.resL_7 Hs.resL_8 Hs.resL_9 Hs.resL_10 Hs.resL_11 Hs.resL_12 Hs.callG_0 Hs.callG_1 Hs.callG_2 Hs.callG_3 Hs.callG_4 Hs.callG_5 Hs.callG_6 Hs.callG_7 Hs.callG_8 Hs.callG_9 Hs.callG_10 Hs.callG_11 Hs.callG_12 Hs.callG_13 Hs.callG_14 Hs.callG_15 Hs.callG_16 Hs.callG_17 Hs.callG_18 Hs.callG_19 Hs.callG_20 Hs.callG_21 Hs.callG_22 Hs.callG_23 Hs.callG_24 Hs.callG_25 Hs.callG_26 Hs.resG_0 Hs.resG_1 Hs.resG_2 Hs.resG_3 Hs.resG_4 Hs.resG_5 Hs.resG_6 Hs.resG_7 Hs.resG_8 Hs.resG_9 Hs.resG_10 Hs.resG_11 Hs.resG_12 Hs.callL_len Hs.resL_len
attribute [local go_sem ↓] Hs.loadCall_eq Hs.loadRes_eq
attribute [local go_sem] Hs.ld_new Hs.ld_first Hs.ld_second Hs.ldr_new Hs.st_new
theorem callsL_set : ∀ (cs : List CallV) (i : Nat) (c : CallV) (tl : List Value) (x : Int), cs[i]? = some c → (callsL cs ++ tl).set (i * 27) (.int .i64 x) = callsL (cs.set i { c with thread := x }) ++ tl
  | [], i, c, tl, x, h => by simp at h
  | d :: cs, 0, c, tl, x, h => by
    simp at h
    subst h
    rw [callsL_cons, List.set_cons_zero, callsL_cons]
    rfl
  | d :: cs, i + 1, c, tl, x, h => by
    rw [callsL_cons, List.set_cons_succ, callsL_cons, List.append_assoc, List.append_assoc, List.set_append, if_neg (by rw [callL_len]; omega), callL_len, show (i + 1) * 27 - 27 = i * 27 by omega, callsL_set cs i c tl x (by simpa using h)]
structure KW (w1 W : World) (g cap : Nat) (cs : List CallV) : Prop where
  blk : ∃ tl : List Value, W.heap[g]? = some (.cells (callsL cs ++ tl).toArray 56 (0, 0))
  bl : Below w1.heap.size w1 W
  ge : w1.heap.size ≤ g
  cap : cs.length ≤ cap
section
variable {w1 W W' : World} {g cap : Nat} {cs : List CallV}
theorem KW.on (h : KW w1 W g cap cs) (hb : Below W.heap.size W W') : KW w1 W' g cap cs := by
  obtain ⟨tl, ht⟩ := h.blk
  exact ⟨⟨tl, blk_below ht hb (Array.getElem?_eq_some_iff.1 ht).1⟩, h.bl.trans (hb.mono h.bl.size), h.ge, h.cap⟩
theorem KW.crow (h : KW w1 W g cap cs) : CRow W (some ⟨g, 0, none⟩) cap cs := by
  obtain ⟨tl, ht⟩ := h.blk
  refine .inr ⟨g, 0, rfl, h.cap, (Array.getElem?_eq_some_iff.1 ht).1, fun j u hj => ?_⟩
  rw [Nat.zero_add, blk_cell ht, List.getElem?_append_left (List.getElem?_eq_some_iff.1 hj).1]
  exact hj
theorem KW.cell (h : KW w1 W g cap cs) {i : Nat} {c : CallV} (hc : cs[i]? = some c) : W.cell? ⟨g, i * 27, none⟩ = some (.int .i64 c.thread) ∧ W.frozen? ⟨g, i * 27, none⟩ = false := by
  obtain ⟨tl, ht⟩ := h.blk
  refine ⟨?_, blk_frozen ht _⟩
  have hg := callsL_get cs i 0 c hc (by omega)
  rw [Nat.add_zero, callL_0] at hg
  rw [blk_cell ht, List.getElem?_append_left (List.getElem?_eq_some_iff.1 hg).1, hg]
theorem KW.set (h : KW w1 W g cap cs) {i : Nat} {c : CallV} (hc : cs[i]? = some c) (x : Int) : KW w1 (W.setCell ⟨g, i * 27, none⟩ (.int .i64 x)) g cap (cs.set i { c with thread := x }) := by
  obtain ⟨tl, ht⟩ := h.blk
  refine ⟨⟨tl, ?_⟩, h.bl.setCell (p := ⟨g, i * 27, none⟩) h.ge _, h.ge, by rw [List.length_set]; exact h.cap⟩
  rw [← callsL_set cs i c tl x hc]
  exact blk_set ht _ _
end
theorem kw_of_own {w1 W : World} {p : Option Addr} {cap : Nat} {cs : List CallV} (h : W.ownsRow w1.heap.size 56 27 (.slice p cs.length cap) cs.length (callsL cs)) (hb : Below w1.heap.size w1 W) : (p = none ∧ cs = [] ∧ cap = 0) ∨ ∃ g, p = some ⟨g, 0, none⟩ ∧ KW w1 W g cap cs := by
  rcases h.2 with ⟨h1, h2⟩ | ⟨g, cap', cur, h1, h2, h3, h4, h5, h6, h7⟩
  · injection h1 with h1 h3 h4
    exact .inl ⟨h1, List.length_eq_zero_iff.1 h2, h4⟩
  · injection h1 with h1 h8 h9
    subst h1 h9
    refine .inr ⟨g, rfl, ⟨cur.toList.drop (cs.length * 27), ?_⟩, hb, h2, h4⟩
    rw [h3]
    congr 2
    rw [← h7, List.take_append_drop]
attribute [local go_sem ↓] loadCfg_eq
attribute [local go_sem, local simp] cfgL_len cfgL_ne
theorem cfg_cells {W : World} {b : Nat} {c : CfgV} (h : W.heap[b]? = some (.cells (cfgL c).toArray tCfg (0, 0))) : W.cell? ⟨b, 2, none⟩ = some (.int .i64 c.clients) := by rw [blk_cell h]; rfl
attribute [local irreducible] cfgL
end Go.Proofs.YtdeiocppghhfdaaGreat.Lin
namespace Go.Proofs.YtdeiocppghhfdaaGreat.Lin
set_option linter.unusedVariables false
set_option linter.unusedSimpArgs false
set_option maxRecDepth 100000
set_option maxHeartbeats 8000000
open Go.RowKit Go.Lib Go.Shelf
open Hs
open KitI (iv IRow own_below infoI)
attribute [local go_sem, local simp] Hs.callL_0 Hs.callL_1 Hs.callL_2 Hs.callL_3 Hs.callL_4 Hs.callL_5 Hs.callL_6 Hs.callL_7 Hs.callL_8 Hs.callL_9 Hs.callL_10 Hs.callL_11 Hs.callL_12 Hs.callL_13 Hs.callL_14 Hs.callL_15 Hs.callL_16 Hs.callL_17 Hs.callL_18 Hs.callL_19 Hs.callL_20 Hs.callL_21 Hs.callL_22 Hs.callL_23 Hs.callL_24 Hs.callL_25 Hs.callL_26 Hs.resL_0 Hs.resL_1 Hs.resL_2 Hs.resL_3 Hs.resL_4 Hs.resL_5 Hs.resL_6 Hs.resL_7 Hs.resL_8 Hs.resL_9 Hs.resL_10 Hs.resL_11 Hs.resL_12 Hs.callG_0 Hs.callG_1 Hs.callG_2 Hs.callG_3 Hs.callG_4 Hs.callG_5 Hs.callG_6 Hs.callG_7 Hs.callG_8 Hs.callG_9 Hs.callG_10 Hs.callG_11 Hs.callG_12 Hs.callG_13 Hs.callG_14 Hs.callG_15 Hs.callG_16 Hs.callG_17 Hs.callG_18 Hs.callG_19 Hs.callG_20 Hs.callG_21 Hs.callG_22 Hs.callG_23 Hs.callG_24 Hs.callG_25 Hs.callG_26 Hs.resG_0 Hs.resG_1 Hs.resG_2 Hs.resG_3 Hs.resG_4 Hs.resG_5 Hs.resG_6 Hs.resG_7 Hs.resG_8 Hs.resG_9 Hs.resG_10 Hs.resG_11 Hs.resG_12 Hs.callL_len Hs.resL_len
attribute [local go_sem ↓] Hs.loadCall_eq Hs.loadRes_eq
attribute [local go_sem] Hs.ld_new Hs.ld_first Hs.ld_second Hs.ldr_new Hs.st_new
attribute [local go_sem ↓] loadCfg_eq loadOp_eq
attribute [local go_sem, local simp] cfgL_len cfgL_ne
theorem callsL_put : ∀ (cs : List CallV) (i : Nat) (c d : CallV) (tl : List Value), cs[i]? = some c → (callsL cs ++ tl).take (i * 27) ++ callL d ++ (callsL cs ++ tl).drop (i * 27 + 27) = callsL (cs.set i d) ++ tl
  | [], i, c, d, tl, h => by simp at h
  | e :: cs, 0, c, d, tl, h => by
    rw [callsL_cons, List.set_cons_zero, callsL_cons, Nat.zero_mul, List.take_zero, List.nil_append, Nat.zero_add, List.append_assoc, List.drop_append, callL_len, Nat.sub_self, List.drop_zero]
    rw [List.drop_of_length_le (by rw [callL_len]; omega)]
    simp
  | e :: cs, i + 1, c, d, tl, h => by
    have ih := callsL_put cs i c d tl (by simpa using h)
    rw [callsL_cons, List.set_cons_succ, callsL_cons, List.append_assoc, List.append_assoc, List.append_assoc]
    have e1 : (i + 1) * 27 = (callL e).length + i * 27 := by rw [callL_len]; omega
    have e2 : (i + 1) * 27 + 27 = (callL e).length + (i * 27 + 27) := by rw [callL_len]; omega
    rw [e2, e1, List.take_length_add_append, List.drop_length_add_append, List.append_assoc]
    rw [List.append_assoc] at ih
    rw [← ih]
theorem KW.put {w1 W : World} {g cap : Nat} {cs : List CallV} (h : KW w1 W g cap cs) {i : Nat} {c : CallV} (hc : cs[i]? = some c) (d : CallV) :
    ∃ W', (storeCells ⟨g, i * 27, none⟩ (callL d)).run Tryz.prog W = .ok () W' ∧ KW w1 W' g cap (cs.set i d) ∧ (∀ k, k ≠ g → W'.heap[k]? = W.heap[k]?) ∧ (∀ B, B ≤ g → Below B W W') := by
  obtain ⟨tl, ht⟩ := h.blk
  have hlt := (List.getElem?_eq_some_iff.1 hc).1
  have hrun := run_storeCells_at (P := Tryz.prog) g (i * 27) 56 (callL d) 0 (callsL cs ++ tl).toArray W ht (by rw [callL_len]; simp [callsL_len]; omega) (ones_call d)
  have e : (callsL cs ++ tl).toArray.toList = callsL cs ++ tl := rfl
  rw [callL_len, Nat.add_zero, e, callsL_put cs i c d tl hc] at hrun
  have hb : ∀ B, B ≤ g → Below B W (W.setRow g (callsL (cs.set i d) ++ tl).toArray) := fun B hB => below_row (Below.refl _ _) hB _
  exact ⟨_, hrun, ⟨⟨tl, setRow_heap _ _ _ _ _ _ ht⟩, h.bl.trans (hb _ h.ge), h.ge, by rw [List.length_set]; exact h.cap⟩, fun k hk => setRow_other _ _ _ _ hk, hb⟩
structure IoR (w1 : World) (g cap gc base : Nat) (ks : List CallV) (k : Nat) (vw : Value) (W : World) : Prop where
  kw : KW w1 W g cap (seqK ks k)
  cnt : W.heap[gc]? = some (.cells (cntL ks k).toArray tInt (0, 0))
  want : W.ownsRow base tInt 1 vw k ((List.range k).map nv)
  ne : g < gc
  lt : gc < base
  le : base ≤ W.heap.size
def IoRel (w1 : World) (g cap gc base : Nat) (ks : List CallV) (vw i : Value) (wr : World) : Prop := ∃ k : Nat, i = .int .i64 k ∧ k ≤ ks.length ∧ IoR w1 g cap gc base ks k vw wr
theorem thr_nat (t : Int) : ∃ n : Nat, thr16 t = (n : Int) ∧ n < 16 := by
  have := thr16_in t
  exact ⟨(thr16 t).toNat, by omega, by omega⟩
theorem IoR.drew {w1 W : World} {g cap gc base k : Nat} {ks : List CallV} {vw : Value} (h : IoR w1 g cap gc base ks k vw W) : IoR w1 g cap gc base ks k vw W.drew :=
  ⟨h.kw.on (Below.refl _ _).drew, h.cnt, own_below h.want (Below.refl _ _).drew, h.ne, h.lt, h.le⟩
def buildCall (parts : Array (Nat × Value)) : Sem Value := Instr.build 56 parts
theorem buildCall_eq (parts : Array (Nat × Value)) : Instr.build 56 parts = buildCall parts := rfl
theorem build_seq (q : CallV) (t x a b d : Int) (W : World) : (buildCall #[(0, .int .i64 t), (1, .int .i64 x), (2, .agg (opL q).toArray), (3, .int .i64 a), (4, .int .i64 b), (6, .int .i64 d), (7, .int .i64 2), (8, .agg (Hs.resL q).toArray)]).run Tryz.prog W = .ok (.agg (callL { q with thread := t, index := x, invoked := a, took := b, rank := 0, answered := d, steps := 2 }).toArray) W := by kernel_rfl
attribute [local go_sem ↓] buildCall_eq
attribute [local go_sem] build_seq
theorem own_keepB {W W' : World} {base sz n : Nat} {e : TypeId} {x : Value} {xs : List Value} (h : W.ownsRow base e sz x n xs) (hk : ∀ k, base ≤ k → W'.heap[k]? = W.heap[k]?) : W'.ownsRow base e sz x n xs := by
  refine ⟨h.1, ?_⟩
  rcases h.2 with hn | ⟨g, cap, cur, rfl, hB, hg, rest⟩
  · exact .inl hn
  · exact .inr ⟨g, cap, cur, rfl, hB, (hk g hB).trans hg, rest⟩
theorem KW.keep {w1 W W' : World} {g cap : Nat} {cs : List CallV} (h : KW w1 W g cap cs) (hh : W'.heap[g]? = W.heap[g]?) (hb : Below w1.heap.size w1 W') : KW w1 W' g cap cs := by
  obtain ⟨tl, ht⟩ := h.blk
  exact ⟨⟨tl, hh.trans ht⟩, hb, h.ge, h.cap⟩
attribute [local irreducible] cfgL opL Hs.resL callL
theorem walkLinearInOrder (c : CfgV) (p : Option Addr) (cap : Nat) (cs : List CallV) (w : World) (hA : ArgRow w p cs) :
    Calls Tryz.prog 13 #[.agg (cfgL c).toArray, .slice p cs.length cap] w fun e w' => e = .returned (.bool true) ∧ Below w.heap.size w w' := by
  obtain ⟨i0, hi, hz0, hz1, hz2⟩ := info_parts infoI
  have hB0 : Below w.heap.size w (w.alloc (.cells (cfgL c).toArray tCfg)) := (Below.refl _ _).alloc (Nat.le_refl _) _
  have hz0' := blk_new w (cfgL c) tCfg
  have hl0 := ld_cfg hz0'
  go_enter Tryz.func13, Tryz.ntmps13
  go_wp2_with fail
  refine (small36_l c _).mono ?_
  rintro e w1 ⟨rfl, hb1⟩
  have hz1' := blk_below hz0' hb1 (by simp)
  have hs1 := st_cfg hz1' (by simp [cfgL_len]) (smallC 100 c)
  have hz2' := setRow_heap _ _ _ (cfgL (smallC 100 c)).toArray _ _ hz1'
  have hB1 : Below w.heap.size w (w1.setRow w.heap.size (cfgL (smallC 100 c)).toArray) := below_row (hB0.trans (hb1.mono hB0.size)) (Nat.le_refl _) _
  clear hl0 hz0' hb1 hz1'
  generalize smallC 100 c = C at *
  go_wp2_with fail
  refine (few36_h 8 (by omega) p cap cs _ (hA.on hB1)).mono ?_
  generalize hw2 : w1.setRow w.heap.size (cfgL C).toArray = w2 at *
  rintro e w3 ⟨p', cap', ks, rfl, hpure, hrow, hown, hb3⟩
  have hlen : ks.length ≤ 8 := by have := congrArg List.length hpure; rw [List.length_map] at this; have := fewN_len 8 cs; omega
  have hps : ∀ x ∈ ks, x.ps.length ≤ 1000000 := fun x hx => (hrow.dat x hx).1
  have hoks := hrow.ok
  have hK0 := kw_of_own hown hb3
  have hBw : Below w.heap.size w w3 := hB1.trans (hb3.mono hB1.size)
  clear hs1 hrow hown hpure hA hw2
  have hmk : (Instr.makeSlice 28 (.int .i64 16) (.int .i64 16)).run Tryz.prog w3 = .ok (.slice (some ⟨w3.heap.size, 0, none⟩) 16 16) (w3.alloc (.cells (List.replicate 16 (Value.int .i64 0)).toArray tInt)) := by
    have := run_make (P := Tryz.prog) w3 28 3 i0 _ Tryz.underlying28 hi hz0 .i64 .i64 16 16 (by omega) (Int.le_refl _) (by rw [hz2]; decide) (by decide)
    have e : madeCells (Value.int .i64 0).cells (Int.toNat 16 * 1) = (List.replicate 16 (Value.int .i64 0)).toArray := by kernel_rfl
    rw [this, hz1, e]
    rfl
  go_wp2_with fail
  rcases hK0 with ⟨rfl, rfl, rfl⟩ | ⟨g, rfl, hK⟩
  · have h0b : Below w3.heap.size w3 (w3.alloc (.cells (List.replicate 16 (Value.int .i64 0)).toArray tInt)) := (Below.refl _ _).alloc (Nat.le_refl _) _
    have hS : SeqH [] := seq_ok []
    obtain ⟨l1, l2, l3, l4⟩ := inorder_law hS C (by simp)
    have hpc : perfC C [] = perfE C [] (List.range ([] : List CallV).length) := by unfold perfC; rw [effC_of hS.eff]
    rw [← hpc] at l2
    have hB3 : Below w2.heap.size w2 (w3.alloc (.cells (List.replicate 16 (Value.int .i64 0)).toArray tInt)) := hb3.trans (h0b.mono hb3.size)
    have erep : (List.replicate 16 (Value.int .i64 0)).toArray = #[.int .i64 0, .int .i64 0, .int .i64 0, .int .i64 0, .int .i64 0, .int .i64 0, .int .i64 0, .int .i64 0, .int .i64 0, .int .i64 0, .int .i64 0, .int .i64 0, .int .i64 0, .int .i64 0, .int .i64 0, .int .i64 0] := rfl
    rw [erep] at hB3
    generalize w3.alloc (.cells #[.int .i64 0, .int .i64 0, .int .i64 0, .int .i64 0, .int .i64 0, .int .i64 0, .int .i64 0, .int .i64 0, .int .i64 0, .int .i64 0, .int .i64 0, .int .i64 0, .int .i64 0, .int .i64 0, .int .i64 0, .int .i64 0] tInt) = wr at *
    have hbx := fun W (hb : Below wr.heap.size wr W) => blk_below hz2' (hB3.trans (hb.mono hB3.size)) (Array.getElem?_eq_some_iff.1 hz2').1
    have hbw := fun W (hb : Below wr.heap.size wr W) => hB1.trans ((hB3.trans (hb.mono hB3.size)).mono hB1.size)
    have hC0 : ∀ W, CRow W none 0 [] := fun W => .inl ⟨rfl, rfl, rfl⟩
    have hF1 := find_any C none 0 [] wr (hC0 _) (by simp) (fun x hx => by cases hx) (fun x hx => by cases hx)
    have hF2 := fun W (hb : Below wr.heap.size wr W) => count_any C 50 none 0 [] W (hC0 W) (by simp) (fun x hx => by cases hx) (fun x hx => by cases hx)
    have hF3 := fun W (hb : Below wr.heap.size wr W) => witcheck_any C none 0 [] W (hC0 W) (by simp) (fun x hx => by cases hx) (fun x hx => by cases hx)
    unfold FindPost at hF1
    have hld := ld_cfg (hbx wr (Below.refl _ _))
    rw [cfg_v] at hF1
    simp only [cfg_v, ← l1, List.length_nil] at hF1 hF2 hF3
    simp only [List.length_nil] at l4
    clear hC0 hpc hS h0b hmk
    generalize (findP C []).1 = a at *
    generalize (findP C []).2.1 = fd at *
    generalize (findP C []).2.2 = er at *
    generalize (countP C 50 []).1 = n at *
    generalize (perfC C []).1 = x1 at *
    generalize (perfC C []).2 = x2 at *
    clear l1
    refine wp_loop_rounds 1 ?_
    rw [rounds_succ]
    go_wp2_with fail
    refine hF1.mono ?_
    rintro e w5 ⟨v5, rfl, hO5, hb5⟩
    obtain ⟨a5, q5, rfl⟩ := own_slice hO5
    have hld := ld_cfg (hbx w5 hb5)
    clear hF1
    go_wp2_with fail
    refine (hF2 _ hb5).mono ?_
    rintro e w6 ⟨rfl, hb6⟩
    have hb6' := hb5.trans (hb6.mono hb5.size)
    have hld := ld_cfg (hbx w6 hb6')
    clear hF2
    go_wp2_with fail
    refine (hF3 _ hb6').mono ?_
    rintro e w7 ⟨rfl, hb7⟩
    have hb7' := hb6'.trans (hb7.mono hb6'.size)
    clear hF3
    cases fd with
    | true =>
      have hx2 := l2.1 rfl
      obtain ⟨hr, hn, ha⟩ := l4 rfl
      subst hx2 hr hn ha
      have hE := eqiT (.slice a5 0 q5) (.slice none 0 0) [] (W := w7) ((irow_own (zs := []) hO5 rfl).on (hb6.trans (hb7.mono hb6.size))) (IRow.nil _) (by simp)
      clear l2 l3 l4 hO5
      go_wp2_with fail
      refine hE.mono ?_
      rintro e w8 ⟨rfl, hb8⟩
      have hb8' := hb7'.trans (hb8.mono hb7'.size)
      go_wp2_with fail
      refine (awake36_any _).mono ?_
      rintro e w9 ⟨rfl, hb9⟩
      go_wp2_with fail
      go_returns
      exact ⟨rfl, hbw _ (hb8'.trans (hb9.mono hb8'.size))⟩
    | false =>
      have hx2 : (x2 == 0) = false := by
        rw [beq_eq_false_iff_ne]
        intro h
        have := l2.2 h
        cases this
      obtain ⟨ha, hn⟩ := l3 rfl
      subst ha hn
      clear l2 l3 l4 hO5
      by_cases he : er = 0
      · subst he
        go_wp2_with fail
        refine (awake36_any _).mono ?_
        rintro e w9 ⟨rfl, hb9⟩
        go_wp2_with fail
        go_returns
        exact ⟨rfl, hbw _ (hb7'.trans (hb9.mono hb7'.size))⟩
      · have de : (er != 0) = true := by simpa using he
        clear he
        go_wp2_with fail
        refine (awake36_any _).mono ?_
        rintro e w9 ⟨rfl, hb9⟩
        go_wp2_with fail
        go_returns
        exact ⟨rfl, hbw _ (hb7'.trans (hb9.mono hb7'.size))⟩
  · have hglt : g < w3.heap.size := by have := hK.crow; rcases this with ⟨h, _⟩ | ⟨b, o, h, _, h2, _⟩; cases h; injection h with h; injection h with h; omega
    have h0b : Below w3.heap.size w3 (w3.alloc (.cells (List.replicate 16 (Value.int .i64 0)).toArray tInt)) := (Below.refl _ _).alloc (Nat.le_refl _) _
    have hIo : IoR w2 g cap' w3.heap.size (w3.heap.size + 1) ks 0 (.slice none 0 0) (w3.alloc (.cells (List.replicate 16 (Value.int .i64 0)).toArray tInt)) := ⟨by rw [seqK_zero]; exact hK.on h0b, by rw [cntL_zero]; exact heap_alloc_new _ _, World.ownsRow_nil _ _ _ _, hglt, by omega, by simp⟩
    go_loopw [6, 8, 9] (fun vw i x9 wr => IoRel w2 g cap' w3.heap.size (w3.heap.size + 1) ks vw i wr) (fun vw i x9 wr => ks.length - (intOf i).toNat)
    case atStart => exact ⟨0, rfl, by omega, hIo⟩
    case round =>
      clear hIo h0b hK
      generalize w3.heap.size = gc at *
      obtain ⟨k, rfl, hk, hI⟩ := hrel
      by_cases hlt : k < ks.length
      · have hq0 := hI.kw.cell (seqK_at hlt)
        obtain ⟨tn, htn, ht16⟩ := thr_nat (getC ks k).thread
        have m1 : -16 < (getC ks k).thread.tmod 16 := Int.lt_tmod_of_pos _ (by omega)
        have m2 : (getC ks k).thread.tmod 16 < 16 := Int.tmod_lt_of_pos _ (by omega)
        have i1 : IntKind.i64.wrap ((getC ks k).thread.tmod 16) = (getC ks k).thread.tmod 16 := IntWalk.i64_in _ (by omega)
        have i2 : IntKind.i64.wrap ((getC ks k).thread.tmod 16 + 16) = (getC ks k).thread.tmod 16 + 16 := IntWalk.i64_in _ (by omega)
        have i3 : ((getC ks k).thread.tmod 16 + 16).tmod 16 = (tn : Int) := htn
        have hcn := blk_cell hI.cnt tn
        rw [cntL_at ht16, ← htn] at hcn
        obtain ⟨q0, q1⟩ := hq0
        have hA := crow_get hI.drew.kw.crow
        have hlo := ldo_at hA (seqK_at hlt)
        have hlr := ldr_at hA (seqK_at hlt)
        rw [Nat.zero_add] at hlo hlr
        have hlen2 := seqK_len (cs := ks) (k := k) (by omega)
        obtain ⟨wp, hrun, hkw, hoth, hbel⟩ := hI.drew.kw.put (seqK_at hlt) (seqV ks k)
        rw [← seqK_succ hlt] at hkw
        have hcle := cntT_le ks k (thr16 (getC ks k).thread)
        have hsv : seqV ks k = { getC ks k with thread := (tn : Int), index := cntT ks k (thr16 (getC ks k).thread), invoked := 2 * (k : Int), took := 2 * (k : Int), rank := 0, answered := 2 * (k : Int) + 1, steps := 2 } := by unfold seqV; rw [htn]
        have hgn : gc ≠ g := by have := hI.ne; omega
        have hc4 : wp.heap[gc]? = some (.cells (cntL ks k).toArray tInt (0, 0)) := (hoth gc hgn).trans hI.cnt
        have c4 := blk_cell hc4 tn
        have f4 := blk_frozen hc4 tn
        rw [cntL_at ht16, ← htn] at c4
        have hset := cntL_set (cs := ks) (k := k) (t := tn) htn
        have hs4 := blk_set hc4 tn (.int .i64 (((cntT ks k (tn : Int) : Nat) : Int) + 1))
        rw [hset, ← htn] at hs4
        have how : wp.ownsRow (gc + 1) tInt 1 u6 k ((List.range k).map nv) := own_keepB hI.want (fun j hj => hoth j (by have := hI.ne; omega))
        have hkb := hkw.bl.setCell (p := ⟨gc, tn, none⟩) (by have := hkw.ge; have := hI.ne; simp; omega) (.int .i64 (((cntT ks k (thr16 (getC ks k).thread) : Nat) : Int) + 1))
        have hsz : gc + 1 ≤ wp.heap.size := by have := (Array.getElem?_eq_some_iff.1 hc4).1; omega
        have HI := Lib.hid hI
        have Hkw := Lib.hid hkw
        have Hoth := Lib.hid hoth
        have Hs4 := Lib.hid hs4
        have How := Lib.hid how
        have Hkb := Lib.hid hkb
        generalize seqV ks k = sv at *
        generalize cntT ks k (thr16 (getC ks k).thread) = cn at *
        generalize getC ks k = q at *
        clear hI hA hset hkw hoth hbel hs4 how hkb hc4
        have w3' : IntKind.i64.wrap ((cn : Int) + 1) = (cn : Int) + 1 := IntWalk.i64_in _ (by omega)
        have e16 : (tn : Int) < 16 := by omega
        have ek : (k : Int) < (ks.length : Int) := by omega
        have w1' : IntKind.i64.wrap (2 * (k : Int)) = 2 * (k : Int) := IntWalk.i64_in _ (by omega)
        have w2' : IntKind.i64.wrap (2 * (k : Int) + 1) = 2 * (k : Int) + 1 := IntWalk.i64_in _ (by omega)
        go_wp2_with fail
        go_still_tail 25, (by kernel_rfl)
        change wpList _ _ _ _ _ wr.drew
        rw [hsv] at hrun
        have hne9 : ∀ k, k ≠ gc → (wp.setCell ⟨gc, tn, none⟩ (.int .i64 ((cn : Int) + 1))).heap[k]? = wp.heap[k]? := fun k hk => setCell_ne _ _ _ _ hk
        have hsz9 : (wp.setCell ⟨gc, tn, none⟩ (.int .i64 ((cn : Int) + 1))).heap.size = wp.heap.size := setCell_size _ _ _
        have how9 : (wp.setCell ⟨gc, tn, none⟩ (.int .i64 ((cn : Int) + 1))).ownsRow (gc + 1) tInt 1 u6 k ((List.range k).map nv) := own_keepB How.out (fun j hj => hne9 j (by omega))
        have hkw9 := Hkw.out.keep (hne9 g (fun e => hgn e.symm)) Hkb.out
        have Hne9 := Lib.hid hne9
        have How9 := Lib.hid how9
        have Hkw9 := Lib.hid hkw9
        clear hne9 how9 hkw9
        go_wp2_with (at_builtin; go_loud (refine wpList_append_own _ rfl _ _ 28 rfl (gc + 1) tInt i0 (.int .i64 0) 1 8 Tryz.underlying28 hi hz0 hz1 hz2 rfl (by decide) _ _ _ rfl (How9.out.alloc _) ⟨_, 0, none⟩ 1 1 [.int .i64 (k : Int)] rfl (by simp [hsz9]) (by rw [← hsz9]; exact cell_one_new _ _ _) (by simp [Value.oneCell']) (by unfold maxLen; omega) (by omega) (by simp [hsz9]; omega) ?_); intro v5 w5 hO5 hg5 _)
        have hB5 : Below w2.heap.size w2 w5 := (Hkb.out.alloc Hkb.out.size (.cells #[.int .i64 (k : Int)] tInt)).grown hg5 (by have := Hkb.out.size; simp at this ⊢; omega) (fun j hj => by have := (How9.out.lt j hj).1; have := Hkw9.out.ge; omega)
        have hkeep : ∀ j, j ≤ gc → w5.heap[j]? = (wp.setCell ⟨gc, tn, none⟩ (.int .i64 ((cn : Int) + 1))).heap[j]? := fun j hj => (hg5.block j (by simp [hsz9]; omega) (fun e => by have := (How9.out.lt j e.symm).1; omega)).trans (heap_alloc_old _ _ (by rw [hsz9]; omega))
        have hle5 : gc + 1 ≤ w5.heap.size := by have := hg5.size; simp [hsz9] at this; omega
        go_roundw
        case rel => exact ⟨k + 1, by go_num, by omega, ⟨Hkw9.out.keep (hkeep g (by have := HI.out.ne; omega)) hB5, (hkeep gc (Nat.le_refl _)).trans Hs4.out, by rw [List.range_succ, List.map_append]; exact hO5, HI.out.ne, by omega, hle5⟩⟩
        case measure => simp [intOf]; omega
      · have hke : k = ks.length := by omega
        subst hke
        have hkw := hI.kw
        rw [seqK_all] at hkw
        have hS := seq_ok ks
        have hzl : ((List.range ks.length).map (seqV ks)).length = ks.length := by simp
        have hzo : ∀ x ∈ (List.range ks.length).map (seqV ks), x.Ok := fun x hx => by
          obtain ⟨j, hj, rfl⟩ := seq_mem hx
          exact seqV_ok (hoks _ (List.mem_of_getElem? (getC_some hj))) (by omega)
        have hzp : ∀ x ∈ (List.range ks.length).map (seqV ks), x.ps.length ≤ 1000000 := fun x hx => by
          obtain ⟨j, hj, rfl⟩ := seq_mem hx
          exact hps (getC ks j) (List.mem_of_getElem? (getC_some hj))
        obtain ⟨l1, l2, l3, l4⟩ := inorder_law hS C (by omega)
        have hpc : perfC C ((List.range ks.length).map (seqV ks)) = perfE C ((List.range ks.length).map (seqV ks)) (List.range ((List.range ks.length).map (seqV ks)).length) := by unfold perfC; rw [effC_of hS.eff]
        rw [← hpc] at l2
        have hcr := hkw.crow
        have hwant := hI.want
        have hbx := fun W (hb : Below wr.heap.size wr W) => blk_below hz2' (hkw.bl.trans (hb.mono hkw.bl.size)) (Array.getElem?_eq_some_iff.1 hz2').1
        have hbw := fun W (hb : Below wr.heap.size wr W) => hB1.trans ((hkw.bl.trans (hb.mono hkw.bl.size)).mono hB1.size)
        generalize (List.range ks.length).map (seqV ks) = zs at *
        clear hpc hS hkw hI hoks hps
        have hF1 := find_any C (some ⟨g, 0, none⟩) cap' zs wr hcr (by omega) hzo hzp
        have hF2 := fun W (hb : Below wr.heap.size wr W) => count_any C 50 (some ⟨g, 0, none⟩) cap' zs W (hcr.on hb) (by omega) hzo hzp
        have hF3 := fun W (hb : Below wr.heap.size wr W) => witcheck_any C (some ⟨g, 0, none⟩) cap' zs W (hcr.on hb) (by omega) hzo hzp
        unfold FindPost at hF1
        have hld := ld_cfg (hbx wr (Below.refl _ _))
        rw [cfg_v, hzl] at hF1
        simp only [cfg_v, hzl, ← l1] at hF2 hF3
        rw [hzl] at l4
        clear hzo hzp
        generalize (findP C zs).1 = a at *
        generalize (findP C zs).2.1 = fd at *
        generalize (findP C zs).2.2 = er at *
        generalize (countP C 50 zs).1 = n at *
        generalize (perfC C zs).1 = x1 at *
        generalize (perfC C zs).2 = x2 at *
        clear l1 hcr
        go_wp2_with fail
        refine hF1.mono ?_
        rintro e w5 ⟨v5, rfl, hO5, hb5⟩
        obtain ⟨a5, q5, rfl⟩ := own_slice hO5
        have hld := ld_cfg (hbx w5 hb5)
        clear hF1
        go_wp2_with fail
        refine (hF2 _ hb5).mono ?_
        rintro e w6 ⟨rfl, hb6⟩
        have hb6' := hb5.trans (hb6.mono hb5.size)
        have hld := ld_cfg (hbx w6 hb6')
        clear hF2
        go_wp2_with fail
        refine (hF3 _ hb6').mono ?_
        rintro e w7 ⟨rfl, hb7⟩
        have hb7' := hb6'.trans (hb7.mono hb6'.size)
        clear hF3
        cases fd with
        | true =>
          have hx2 := l2.1 rfl
          obtain ⟨hr, hn, ha⟩ := l4 rfl
          subst hx2 hr hn ha
          obtain ⟨av, qv, rfl⟩ := own_slice hwant
          have hE := eqiT (.slice a5 (List.range ks.length).length q5) (.slice av ks.length qv) ((List.range ks.length).map fun (x : Nat) => (x : Int)) (W := w7) ((irow_own hO5 rfl).on (hb6.trans (hb7.mono hb6.size))) ((irow_own hwant (by simp)).on hb7') (by simp; omega)
          rw [List.length_range] at hE
          clear l2 l3 l4 hO5 hwant
          go_wp2_with fail
          refine hE.mono ?_
          rintro e w8 ⟨rfl, hb8⟩
          have hb8' := hb7'.trans (hb8.mono hb7'.size)
          go_wp2_with fail
          refine (awake36_any _).mono ?_
          rintro e w9 ⟨rfl, hb9⟩
          go_wp2_with fail
          go_returns
          exact ⟨rfl, hbw _ (hb8'.trans (hb9.mono hb8'.size))⟩
        | false =>
          have hx2 : (x2 == 0) = false := by
            rw [beq_eq_false_iff_ne]
            intro h
            have := l2.2 h
            cases this
          obtain ⟨ha, hn⟩ := l3 rfl
          subst ha hn
          clear l2 l3 l4 hO5 hwant
          by_cases he : er = 0
          · subst he
            go_wp2_with fail
            refine (awake36_any _).mono ?_
            rintro e w9 ⟨rfl, hb9⟩
            go_wp2_with fail
            go_returns
            exact ⟨rfl, hbw _ (hb7'.trans (hb9.mono hb7'.size))⟩
          · have de : (er != 0) = true := by simpa using he
            clear he
            go_wp2_with fail
            refine (awake36_any _).mono ?_
            rintro e w9 ⟨rfl, hb9⟩
            go_wp2_with fail
            go_returns
            exact ⟨rfl, hbw _ (hb7'.trans (hb9.mono hb7'.size))⟩
end Go.Proofs.YtdeiocppghhfdaaGreat.Lin
namespace Go.Proofs.YtdeiocppghhfdaaGreat.linearInOrder
set_option linter.unusedVariables false
set_option linter.unusedSimpArgs false
set_option maxRecDepth 100000
set_option maxHeartbeats 8000000
open Go.ChangeShapes Go.WideShapes Go.ChangeAt Go.RowKit
open Go.ChangeMaps (open_string shut_string)
open Lin Hs
set_option linter.unusedVariables false
theorem lifted (os : Os) (started : os.Started) (H : Type) (enc : TypeId × Value → H) :
    ReturnsInHanded {} Tryz.checked os 13 .any (Rows.linearInOrderSpec.pre6 enc Tryz.prog Tryz.f13 Rows.linearInOrderRow.domain false) (Rows.linearInOrderSpec.post enc Tryz.prog Tryz.f13 false true false false) := by
  refine returnsInHanded_of_change_sized (C := Tryz.checked) own started (by kernel_rfl) Tryz.func13
    (ChangeSpec.witness6 (enc := enc) (C := Tryz.checked) false ⟨#[], #[.agg #[.int .i64 0, .int .u64 0, .int .i64 0, .int .i64 0, .int .i64 0, .int .i64 0, .int .i64 0, .string ⟨#[]⟩], .slice none 0 0], []⟩ 8 (by kernel_rfl) (by kernel_rfl) (by kernel_rfl) (by kernel_rfl)) ?_
  intro W base args ds gs before hval0 hW hcnd hsz0 _
  have hval : ∀ (j : Nat) t v, Tryz.f13.params[j]? = some t → args[j]? = some v → Value.okWide Tryz.prog W .any base t v := hval0
  have hW' := hW
  obtain ⟨p, q, hA0, hV, rfl, hfz, hnd⟩ := hW
  have hA : DataW.TrodAll enc Tryz.prog W 0 (fun _ => true) true Tryz.f13.params.toList args.toList ds p := hA0
  rw [Tryz.params13] at hA hval
  obtain ⟨v0, vs0, d0, ds0, p0, q0, hargs, rfl, rfl, h0, r0⟩ := trodAll_cons hA
  obtain ⟨v1, vs1, d1, ds1, p1, q1, rfl, rfl, rfl, h1, r1⟩ := trodAll_cons r0
  obtain ⟨rfl, rfl, rfl⟩ := trodAll_nil r1
  obtain rfl : args = #[v0, v1] := by cases args; simp_all
  obtain ⟨rfl, rfl⟩ := trodVars_none hV
  obtain ⟨c0, rfl⟩ := open_cfg (hval 0 24 v0 rfl rfl) h0
  obtain ⟨q1, c1, l1, rfl, w1⟩ := open_calls (hval 1 25 v1 rfl rfl) h1
  clear hA0 hval0
  (try simp only [List.append_nil, List.nil_append] at hW')
  refine (walkLinearInOrder c0 q1 c1 l1 W w1).mono fun e W' ⟨he, hg⟩ => ?_
  subst he
  have hlt0 : ∀ x ∈ p0, x.block < W.heap.size := fun x hx => hW'.lt x (by simp [hx])
  have hlt1 : ∀ x ∈ p1, x.block < W.heap.size := fun x hx => hW'.lt x (by simp [hx])
  exact ⟨_, rfl, post_of_below (pa := (p0 ++ (p1 ++ []))) (pv := []) hW' (fun _ _ _ => (trodAll_cons_mk (shut_bool Tryz.underlying4 _) trodAll_mk0)) (fun sp hsp => (trodAll_cons_mk (WideElems.Trod_stays (by kernel_rfl) (by kernel_rfl) (of_decide_eq_true (by kernel_rfl)) h0 (fun x hx => hg.same (hlt0 x hx)) (fun x hx => hsp x (by simp [hx]))) (trodAll_cons_mk (WideElems.Trod_stays (by kernel_rfl) (by kernel_rfl) (of_decide_eq_true (by kernel_rfl)) h1 (fun x hx => hg.same (hlt1 x hx)) (fun x hx => hsp x (by simp [hx]))) trodAll_mk0))) (fun _ _ => rfl) (by simp)
    hg (ok_one (by kernel_rfl) rfl (okWide_bool_mk Tryz.underlying4 _))⟩
theorem facts : joinedFacts Tryz.prog 13 Tryz.f13 Rows.linearInOrderSpec Rows.linearInOrderRow = true := by
  unfold joinedFacts
  simp only [Bool.and_eq_true]
  repeat' apply And.intro
  all_goals (as_aux_lemma => kernel_rfl)
theorem proved : Rows.LinearInOrderSaid :=
  OpenClaim.holds_of_wide 13 Tryz.f13 rfl rfl rfl rfl rfl rfl rfl ⟨rfl, rfl, rfl, rfl, rfl⟩ rfl rfl rfl rfl rfl (by kernel_rfl) Tryz.func13 facts
    (of_decide_eq_true (by kernel_rfl)) (by unfold Func.isWrapper; first | (rw [if_pos (by decide +kernel)]; kernel_rfl) | (rw [if_neg (by decide +kernel)]; exact ⟨rfl, rfl⟩))
    (fun os started H enc _ => lifted os started H enc)
#print axioms proved
end Go.Proofs.YtdeiocppghhfdaaGreat.linearInOrder
