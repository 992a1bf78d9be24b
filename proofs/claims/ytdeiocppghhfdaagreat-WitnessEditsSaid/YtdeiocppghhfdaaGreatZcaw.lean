/- Texts, one behind another. -/
import Derived.Test.YtdeiocppghhfdaaGreatZcap
import Derived.Test.YtdeiocppghhfdaaGreatZcar
import Derived.Test.YtdeiocppghhfdaaGreatZcav
import Derived.Test.YtdeiocppghhfdaaGreatZcas
import Derived.Test.YtdeiocppghhfdaaGreatZcat
set_option linter.unusedVariables false
set_option linter.unusedSimpArgs false
set_option maxRecDepth 100000
set_option maxHeartbeats 8000000
namespace Go.Proofs.YtdeiocppghhfdaaGreat
open Go.RowKit Go.Lib Go.Shelf
attribute [local go_sem, local simp] resF resL_len resL_ne rset0 rset1 rset2 rset3 rset4 rset5 rset6 rset7 rset8
theorem find_has (id : Int) (l : List MkV) : hasM id l = (findM id l).isSome := by
 unfold hasM findM
 rw [Bool.eq_iff_iff, List.any_eq_true, List.find?_isSome]
theorem set3_pkg {w W : World} {q : OpV} {r g o : Nat} {cur : Array Value} {x : SnM} (hE : Ed2 w q r W) (hN : SnAt W g o cur x) (hr : r ≠ g) (p : Int) : SnAt (W.setCell ⟨g, o + 3, none⟩ (.int .i64 p)) g o (segA cur o (snL ⟨{ x.s with cursor := p }, x.mv⟩)) ⟨{ x.s with cursor := p }, x.mv⟩ ∧
  (W.setCell ⟨g, o + 3, none⟩ (.int .i64 p)).heap[r]? = some (.cells (resL {}).toArray 51 (0, 0)) ∧ (W.setCell ⟨g, o + 3, none⟩ (.int .i64 p)).drew.heap[r]? = some (.cells (resL {}).toArray 51 (0, 0)) ∧ (W.setCell ⟨g, o + 3, none⟩ (.int .i64 p)).drew.drew.heap[r]? = some (.cells (resL {}).toArray 51 (0, 0)) ∧ KeepF (fun k => k = g) W (W.setCell ⟨g, o + 3, none⟩ (.int .i64 p)) := by
 have hz := (setCell_ne W ⟨g, o + 3, none⟩ (.int .i64 p) r hr).trans hE.res
 exact ⟨hN.set3 p, hz, hz, hz, KeepF.set (F := fun k => k = g) (a := ⟨g, o + 3, none⟩) rfl _⟩
theorem frz3 {w : World} {b : Nat} {u v x : Value} {T : TypeId} (h : w.heap[b]? = some (.cells #[u, v, x] T (0, 0))) : w.frozen? ⟨b, 0, none⟩ = false ∧ w.frozen? ⟨b, 1, none⟩ = false ∧ w.frozen? ⟨b, 2, none⟩ = false := by
 refine ⟨?_, ?_, ?_⟩ <;> simp [World.frozen?, h]
theorem sn_mark (g o : Nat) (cur : Array Value) (x : SnM) (q : OpV) (w : World) (h : SnAt w g o cur x) (hok : SnOK x.s) (hk : q.kind = 10) :
  Calls Tryz.prog 150 #[.pointer (some ⟨g, o, none⟩), .agg #[.int .u8 q.kind, .int .i64 q.slot, .int .i64 q.at_, .int .i64 q.n, .int .u32 q.id, .int .u8 q.grav, .string q.text]] w (SnPost g o cur w x (snpS x.s q)) := by
 have hsz := hok.1
 rw [snp10 hk]
 clear hk
 have hE := ed2_start w q
 have hN0 := h.below hE.bl
 obtain ⟨⟨c0, c1, c2, c3⟩, f0, f1, f2, f3⟩ := hN0.cells
 obtain ⟨p2, p3, p6, p4, p5⟩ := hE.o2
 have hrB : w.heap.size ≤ w.heap.size + 1 := by omega
 obtain ⟨ao, cp, hmv⟩ := own_slice h.marks
 have h1 := h.marks
 rw [hmv] at h1 c2
 have c2' := fun u => Lib.cell?_alloc_some u c2
 have p4' := fun u => Lib.cell?_alloc_some u p4
 obtain ⟨hrow, hcp⟩ := mrow_own rfl h1
 have fa := fun W (hB : Below w.heap.size w W) => find_any ao cp x.s.marks q.id W (hrow.on hB) hok.2.1.2.1 (by have := hok.2.1.1; omega) hcp
 unfold foundV at fa
 simp only [find_has] at fa
 have hEx := hE.alc (.cells #[.int .u32 0, .int .i64 0, .int .u8 0] 74)
 have hsx : ((w.alloc (.cells #[.int .u8 q.kind, .int .i64 q.slot, .int .i64 q.at_, .int .i64 q.n, .int .u32 q.id, .int .u8 q.grav, .string q.text] 54)).alloc (.cells (resL {}).toArray 51)).heap.size = w.heap.size + 1 + 1 := by simp
 have hpx := heap_alloc_new ((w.alloc (.cells #[.int .u8 q.kind, .int .i64 q.slot, .int .i64 q.at_, .int .i64 q.n, .int .u32 q.id, .int .u8 q.grav, .string q.text] 54)).alloc (.cells (resL {}).toArray 51)) (.cells #[.int .u32 0, .int .i64 0, .int .u8 0] 74)
 rw [hsx] at hpx
 cases hf : findM q.id x.s.marks with
 | none =>
  simp only [hf, Option.isSome, Option.getD, mkL, zeroM] at fa
  go_enter Tryz.func150, Tryz.ntmps150
  go_wp2
  go_region_with (go_at_call 202; first | (refine (fa _ hE.bl.drew).mono ?_; rintro e w1 ⟨rfl, hb1⟩; have hE1 := hE.drew.on hb1; have hE2 := hE1.alc (.cells #[.int .u32 0, .int .i64 0, .int .u8 0] 74); have hst := res_st hE2.res rfl) | (refine (fa _ hEx.bl.drew).mono ?_; rintro e w1 ⟨rfl, hb1⟩; have hE1 := hEx.drew.on hb1; have hp1 := (hb1.block (w.heap.size + 1 + 1) (by simp)).trans hpx; obtain ⟨m0, m1, m2⟩ := blk3' hp1; obtain ⟨f0, f1, f2⟩ := frz3 hp1; have hE2 := ((hE1.set (w.heap.size + 1 + 1) 0 (.int .u32 0) (by omega) (by omega) (by omega)).set (w.heap.size + 1 + 1) 1 (.int .i64 0) (by omega) (by omega) (by omega)).set (w.heap.size + 1 + 1) 2 (.int .u8 0) (by omega) (by omega) (by omega); have hst := res_st hE2.res rfl))
  all_goals go_wp2_with (go_at_call 99; refine (fail_any _ _).mono ?_; rintro e v7 ⟨rfl, hb7⟩; have hE7 := hE2.on hb7; have hst7 := res_st hE7.res rfl)
  all_goals exact ⟨rfl, _, results_cell_row rfl _ _ _ _ _ _ _ rfl (setRow_heap _ _ _ _ _ _ hE7.res) Tryz.underlying51 rfl (by kernel_rfl), rfl, h.post hE7.bl hE7.res hrB _⟩
 | some m =>
  simp only [hf, Option.isSome, Option.getD, mkL, zeroM] at fa
  go_enter Tryz.func150, Tryz.ntmps150
  go_wp2
  go_region_with (go_at_call 202; first | (refine (fa _ hE.bl.drew).mono ?_; rintro e w1 ⟨rfl, hb1⟩; have hE1 := hE.drew.on hb1; have hE2 := hE1.alc (.cells #[.int .u32 m.id, .int .i64 m.at_, .int .u8 m.grav] 74); have hst := res_st hE2.res rfl) | (refine (fa _ hEx.bl.drew).mono ?_; rintro e w1 ⟨rfl, hb1⟩; have hE1 := hEx.drew.on hb1; have hp1 := (hb1.block (w.heap.size + 1 + 1) (by simp)).trans hpx; obtain ⟨m0, m1, m2⟩ := blk3' hp1; obtain ⟨f0, f1, f2⟩ := frz3 hp1; have hE2 := ((hE1.set (w.heap.size + 1 + 1) 0 (.int .u32 m.id) (by omega) (by omega) (by omega)).set (w.heap.size + 1 + 1) 1 (.int .i64 m.at_) (by omega) (by omega) (by omega)).set (w.heap.size + 1 + 1) 2 (.int .u8 m.grav) (by omega) (by omega) (by omega); have hst := res_st hE2.res rfl))
  all_goals go_wp2
  all_goals exact ⟨rfl, _, results_cell_row rfl _ _ _ _ _ _ _ rfl (setRow_heap _ _ _ _ _ _ hE2.res) Tryz.underlying51 rfl (by kernel_rfl), rfl, h.post hE2.bl hE2.res hrB _⟩
theorem sn_seek (g o : Nat) (cur : Array Value) (x : SnM) (q : OpV) (w : World) (h : SnAt w g o cur x) (hok : SnOK x.s) (hk : q.kind = 11) (ha : 0 ≤ q.at_) (ha2 : q.at_ ≤ maxLen) :
  Calls Tryz.prog 151 #[.pointer (some ⟨g, o, none⟩), .agg #[.int .u8 q.kind, .int .i64 q.slot, .int .i64 q.at_, .int .i64 q.n, .int .u32 q.id, .int .u8 q.grav, .string q.text]] w (SnPost g o cur w x (snpS x.s q)) := by
 have hsz := hok.1
 rw [snp11 hk]
 clear hk
 have hE := ed2_start w q
 have hN0 := h.below hE.bl
 obtain ⟨⟨c0, c1, c2, c3⟩, f0, f1, f2, f3⟩ := hN0.cells
 obtain ⟨p2, p3, p6, p4, p5⟩ := hE.o2
 have hrB : w.heap.size ≤ w.heap.size + 1 := by omega
 by_cases h1 : (x.s.text.size : Int) < q.at_
 ·rw [if_pos h1]
  have d : decide ((x.s.text.size : Int) < q.at_) = true := by simpa using h1
  go_enter Tryz.func151, Tryz.ntmps151
  go_wp2
  go_region
  go_wp2_with (go_at_call 99; refine (fail_any _ _).mono ?_; rintro e v7 ⟨rfl, hb7⟩; have hE7 := (by first | exact hE.on hb7 | exact hE.drew.on hb7 | exact hE.drew.drew.on hb7 : Ed2 w q (w.heap.size + 1) v7); have hst := res_st hE7.res rfl)
  exact ⟨rfl, _, results_cell_row rfl _ _ _ _ _ _ _ rfl (setRow_heap _ _ _ _ _ _ hE7.res) Tryz.underlying51 rfl (by kernel_rfl), rfl, h.post hE7.bl hE7.res hrB _⟩
 ·rw [if_neg h1]
  have d : decide ((x.s.text.size : Int) < q.at_) = false := by simpa using h1
  have hgr : w.heap.size + 1 ≠ g := by have := (Array.getElem?_eq_some_iff.1 h.blk).1; omega
  obtain ⟨hN3, hz3, hzd, hzdd, hK3⟩ := set3_pkg hE hN0 hgr q.at_
  have hst := res_st hzd rfl
  go_enter Tryz.func151, Tryz.ntmps151
  go_wp2
  go_region
  go_wp2
  exact ⟨rfl, _, results_cell_row rfl _ _ _ _ _ _ _ rfl (setRow_heap _ _ _ _ _ _ hz3) Tryz.underlying51 rfl (by kernel_rfl), rfl, SnAt.post2 (x := x) ⟨_, rfl, hN3.drew⟩ hE.bl hK3.drew hz3 hrB _⟩
theorem sn_next (g o : Nat) (cur : Array Value) (x : SnM) (q : OpV) (w : World) (h : SnAt w g o cur x) (hok : SnOK x.s) (hk : q.kind = 12) (hn : 0 ≤ q.n) (hn2 : q.n ≤ maxLen) :
  Calls Tryz.prog 152 #[.pointer (some ⟨g, o, none⟩), .agg #[.int .u8 q.kind, .int .i64 q.slot, .int .i64 q.at_, .int .i64 q.n, .int .u32 q.id, .int .u8 q.grav, .string q.text]] w (SnPost g o cur w x (snpS x.s q)) := by
 have hsz := hok.1
 rw [snp12 hk]
 clear hk
 have hE := ed2_start w q
 have hN0 := h.below hE.bl
 obtain ⟨⟨c0, c1, c2, c3⟩, f0, f1, f2, f3⟩ := hN0.cells
 obtain ⟨p2, p3, p6, p4, p5⟩ := hE.o2
 have hrB : w.heap.size ≤ w.heap.size + 1 := by omega
 obtain ⟨_, _, cu0, cu1⟩ := hok
 have hws : IntKind.i64.wrap ((x.s.text.size : Int) - x.s.cursor) = (x.s.text.size : Int) - x.s.cursor := IntWalk.i64_in _ (by omega)
 obtain ⟨m, hm⟩ : ∃ m, min q.n ((x.s.text.size : Int) - x.s.cursor) = m := ⟨_, rfl⟩
 have m0 : 0 ≤ m := by omega
 have m1 : x.s.cursor + m ≤ (x.s.text.size : Int) := by omega
 have m2 : 0 ≤ x.s.cursor + m := by omega
 have m3 : x.s.cursor ≤ x.s.cursor + m := by omega
 rw [hm]
 have hwr : IntKind.i64.wrap (x.s.cursor + m) = x.s.cursor + m := IntWalk.i64_in _ (by omega)
 have hgr : w.heap.size + 1 ≠ g := by have := (Array.getElem?_eq_some_iff.1 h.blk).1; omega
 obtain ⟨hN3, hz3, hzd, hzdd, hK3⟩ := set3_pkg hE hN0 hgr (x.s.cursor + m)
 have hst := res_st hzdd rfl
 go_enter Tryz.func152, Tryz.ntmps152
 go_wp2
 go_region
 go_wp2
 go_region
 go_wp2
 rw [cut_eq _ _ _ cu0 m0]
 exact ⟨rfl, _, results_cell_row rfl _ _ _ _ _ _ _ rfl (setRow_heap _ _ _ _ _ _ hz3) Tryz.underlying51 rfl (by kernel_rfl), rfl, SnAt.post2 (x := x) ⟨_, rfl, hN3.drew.drew⟩ hE.bl hK3.drew.drew hz3 hrB _⟩
end Go.Proofs.YtdeiocppghhfdaaGreat
namespace Go.Proofs.YtdeiocppghhfdaaGreat
open Go.RowKit Go.Lib Go.Shelf
attribute [local go_sem, local simp] resF resL_len resL_ne rset0 rset1 rset2 rset3 rset4 rset5 rset6 rset7 rset8 snF snL_len snL_ne
theorem put_pkg {w W : World} {q : OpV} {r g o : Nat} {cur : Array Value} {x : SnM} (hE : Ed2 w q r W) (hN : SnAt W g o cur x) (hr : r ≠ g) : SnAt (putSn W g o ⟨⟨false, ⟨#[]⟩, [], 0⟩, .slice none 0 0⟩) g o (segA cur o (snL ⟨⟨false, ⟨#[]⟩, [], 0⟩, .slice none 0 0⟩)) ⟨⟨false, ⟨#[]⟩, [], 0⟩, .slice none 0 0⟩ ∧ (putSn W g o ⟨⟨false, ⟨#[]⟩, [], 0⟩, .slice none 0 0⟩).heap[r]? = some (.cells (resL {}).toArray 51 (0, 0)) ∧ KeepF (fun k => k = g) W (putSn W g o ⟨⟨false, ⟨#[]⟩, [], 0⟩, .slice none 0 0⟩) :=
 ⟨hN.put ⟨rfl, .inl ⟨rfl, rfl⟩⟩, (putSn_ne _ _ _ _ _ hr).trans hE.res, KeepF.putSn _ _ _ _⟩
theorem sn_release (g o : Nat) (cur : Array Value) (x : SnM) (q : OpV) (w : World) (h : SnAt w g o cur x) (hok : SnOK x.s) (hk : q.kind = 13) :
  Calls Tryz.prog 153 #[.pointer (some ⟨g, o, none⟩), .agg #[.int .u8 q.kind, .int .i64 q.slot, .int .i64 q.at_, .int .i64 q.n, .int .u32 q.id, .int .u8 q.grav, .string q.text]] w (SnPost g o cur w x (snpS x.s q)) := by
 have hsz := hok.1
 rw [snp13 hk]
 clear hk
 have hE := ed2_start w q
 have hN0 := h.below hE.bl
 obtain ⟨⟨c0, c1, c2, c3⟩, f0, f1, f2, f3⟩ := hN0.cells
 obtain ⟨p2, p3, p6, p4, p5⟩ := hE.o2
 have hrB : w.heap.size ≤ w.heap.size + 1 := by omega
 have hgr : w.heap.size + 1 ≠ g := by have := (Array.getElem?_eq_some_iff.1 h.blk).1; omega
 obtain ⟨hN3, hz3, hK3⟩ := put_pkg hE hN0 hgr
 have hst := res_st hz3 rfl
 have hsn := hN0.stP ⟨⟨false, ⟨#[]⟩, [], 0⟩, .slice none 0 0⟩ rfl
 go_enter Tryz.func153, Tryz.ntmps153
 go_wp2
 have hp := SnAt.post2 (x := x) ⟨_, rfl, hN3⟩ hE.bl hK3 hz3 hrB (resL {}).toArray
 refine ⟨rfl, _, results_cell_row rfl _ _ _ _ _ _ _ rfl (setRow_heap _ _ _ _ _ _ hz3) Tryz.underlying51 rfl (by kernel_rfl), rfl, ?_⟩
 exact hp
end Go.Proofs.YtdeiocppghhfdaaGreat
namespace Go.Proofs.YtdeiocppghhfdaaGreat
open Go.RowKit Go.Lib Go.Shelf
attribute [local go_sem, local simp] resF resL_len resL_ne rset0 rset1 rset2 rset3 rset4 rset5
theorem app0 (a b c : Value) : (#[a, b, c] ++ #[] : Array Value) = #[a, b, c] := by simp
theorem app1 (a b c p : Value) : (#[a, b, c] ++ #[p] : Array Value) = #[a, b, c, p] := by simp
theorem do_1 (b c : Nat) (M : MM) (q : OpV) (w : World) (h : MdAt w b M) (hok : MSok M.st 100000) (hi : OpIn q) (hc : c < M.seats.length) (hcl : M.seats.length ≤ 8) (hst0 : statE M.st c q = 0) (hx : opP q ∧ q.text.size ≤ 256 ∧ validL q.text.data.toList = true) (hk : q.kind = 1) :
  Calls Tryz.prog 50 #[.pointer (some ⟨b, 0, none⟩), .int .i64 (c : Int), .agg #[.int .u8 q.kind, .int .i64 q.slot, .int .i64 q.at_, .int .i64 q.n, .int .u32 q.id, .int .u8 q.grav, .string q.text]] w (Post b w (opS M.st c q) M) := by
 obtain ⟨g0, g1, g2, g3, g4, g5, g6, g7, g8, g9, g10, g11, g12⟩ := hx.1
 have hR : opS M.st c q = insS M.st q := by unfold opS; rw [if_pos hk]
 refine do_core b c M q w h hi hcl hst0 137 0 (fun _ _ _ _ _ _ _ _ => #[]) (enters_of Tryz.func137 (by kernel_rfl) rfl) (fun _ _ _ _ _ _ _ _ => by rw [hk]; rfl) (fun W bm a6 a7 a8 a9 a10 a11 a12 a13 hM hX => ?_)
 rw [app0, hR]
 exact minsert_any b M c q W hM hok hx.2.1 (by omega) (by omega)
theorem do_2 (b c : Nat) (M : MM) (q : OpV) (w : World) (h : MdAt w b M) (hok : MSok M.st 100000) (hi : OpIn q) (hc : c < M.seats.length) (hcl : M.seats.length ≤ 8) (hst0 : statE M.st c q = 0) (hx : opP q ∧ q.text.size ≤ 256 ∧ validL q.text.data.toList = true) (hk : q.kind = 2) :
  Calls Tryz.prog 50 #[.pointer (some ⟨b, 0, none⟩), .int .i64 (c : Int), .agg #[.int .u8 q.kind, .int .i64 q.slot, .int .i64 q.at_, .int .i64 q.n, .int .u32 q.id, .int .u8 q.grav, .string q.text]] w (Post b w (opS M.st c q) M) := by
 obtain ⟨g0, g1, g2, g3, g4, g5, g6, g7, g8, g9, g10, g11, g12⟩ := hx.1
 have hR : opS M.st c q = delS M.st q := by unfold opS; rw [if_neg (by omega), if_pos hk]
 refine do_core b c M q w h hi hcl hst0 138 1 (fun _ _ _ _ _ _ _ _ => #[]) (enters_of Tryz.func138 (by kernel_rfl) rfl) (fun _ _ _ _ _ _ _ _ => by rw [hk]; rfl) (fun W bm a6 a7 a8 a9 a10 a11 a12 a13 hM hX => ?_)
 rw [app0, hR]
 exact mremove_any b M c q W hM hok (by omega) (by omega)
theorem do_3 (b c : Nat) (M : MM) (q : OpV) (w : World) (h : MdAt w b M) (hok : MSok M.st 100000) (hi : OpIn q) (hc : c < M.seats.length) (hcl : M.seats.length ≤ 8) (hst0 : statE M.st c q = 0) (hx : opP q ∧ q.text.size ≤ 256 ∧ validL q.text.data.toList = true) (hk : q.kind = 3) :
  Calls Tryz.prog 50 #[.pointer (some ⟨b, 0, none⟩), .int .i64 (c : Int), .agg #[.int .u8 q.kind, .int .i64 q.slot, .int .i64 q.at_, .int .i64 q.n, .int .u32 q.id, .int .u8 q.grav, .string q.text]] w (Post b w (opS M.st c q) M) := by
 obtain ⟨g0, g1, g2, g3, g4, g5, g6, g7, g8, g9, g10, g11, g12⟩ := hx.1
 have hR : opS M.st c q = setS M.st q := by unfold opS; rw [if_neg (by omega), if_neg (by omega), if_pos hk]
 refine do_core b c M q w h hi hcl hst0 139 2 (fun _ _ _ _ _ _ _ _ => #[]) (enters_of Tryz.func139 (by kernel_rfl) rfl) (fun _ _ _ _ _ _ _ _ => by rw [hk]; rfl) (fun W bm a6 a7 a8 a9 a10 a11 a12 a13 hM hX => ?_)
 rw [app0, hR]
 exact msetmark_any b M c q W hM hok (by omega) (by have := hi.id0; omega) hi.id1 (by have := hi.g0; omega)
theorem do_4 (b c : Nat) (M : MM) (q : OpV) (w : World) (h : MdAt w b M) (hok : MSok M.st 100000) (hi : OpIn q) (hc : c < M.seats.length) (hcl : M.seats.length ≤ 8) (hst0 : statE M.st c q = 0) (hx : opP q ∧ q.text.size ≤ 256 ∧ validL q.text.data.toList = true) (hk : q.kind = 4) :
  Calls Tryz.prog 50 #[.pointer (some ⟨b, 0, none⟩), .int .i64 (c : Int), .agg #[.int .u8 q.kind, .int .i64 q.slot, .int .i64 q.at_, .int .i64 q.n, .int .u32 q.id, .int .u8 q.grav, .string q.text]] w (Post b w (opS M.st c q) M) := by
 obtain ⟨g0, g1, g2, g3, g4, g5, g6, g7, g8, g9, g10, g11, g12⟩ := hx.1
 have hR : opS M.st c q = drpS M.st q := by unfold opS; rw [if_neg (by omega), if_neg (by omega), if_neg (by omega), if_pos hk]
 refine do_core b c M q w h hi hcl hst0 140 3 (fun _ _ _ _ _ _ _ _ => #[]) (enters_of Tryz.func140 (by kernel_rfl) rfl) (fun _ _ _ _ _ _ _ _ => by rw [hk]; rfl) (fun W bm a6 a7 a8 a9 a10 a11 a12 a13 hM hX => ?_)
 rw [app0, hR]
 exact mdropmark_any b M c q W hM hok
theorem do_5 (b c : Nat) (M : MM) (q : OpV) (w : World) (h : MdAt w b M) (hok : MSok M.st 100000) (hi : OpIn q) (hc : c < M.seats.length) (hcl : M.seats.length ≤ 8) (hst0 : statE M.st c q = 0) (hx : opP q ∧ q.text.size ≤ 256 ∧ validL q.text.data.toList = true) (hk : q.kind = 5) :
  Calls Tryz.prog 50 #[.pointer (some ⟨b, 0, none⟩), .int .i64 (c : Int), .agg #[.int .u8 q.kind, .int .i64 q.slot, .int .i64 q.at_, .int .i64 q.n, .int .u32 q.id, .int .u8 q.grav, .string q.text]] w (Post b w (opS M.st c q) M) := by
 obtain ⟨g0, g1, g2, g3, g4, g5, g6, g7, g8, g9, g10, g11, g12⟩ := hx.1
 have hS := List.getElem?_eq_getElem hc
 generalize M.seats[c] = S at hS
 have hmem := List.mem_of_getElem? hS
 have hl : S.sl.length ≤ 8 := by
  have h1 := (hok.slots S.st (List.mem_map.2 ⟨S, hmem, rfl⟩)).1
  have h2 : S.st.slots.length = S.sl.length := List.length_map ..
  have := hok.readers
  omega
 have hmk : M.marks.length ≤ 64 := hok.marks.1
 have hR : opS M.st c q = acqS M.st c := by unfold opS; rw [if_neg (by omega), if_neg (by omega), if_neg (by omega), if_neg (by omega), if_pos hk]
 refine do_core b c M q w h hi hcl hst0 141 4 (fun _ _ _ _ _ _ _ _ => #[]) (enters_of Tryz.func141 (by kernel_rfl) rfl) (fun _ _ _ _ _ _ _ _ => by rw [hk]; rfl) (fun W bm a6 a7 a8 a9 a10 a11 a12 a13 hM hX => ?_)
 rw [app0, hR]
 exact acquire_any b c M q W hM S hS hl hcl hmk
theorem do_14 (b c : Nat) (M : MM) (q : OpV) (w : World) (h : MdAt w b M) (hok : MSok M.st 100000) (hi : OpIn q) (hc : c < M.seats.length) (hcl : M.seats.length ≤ 8) (hst0 : statE M.st c q = 0) (hx : opP q ∧ q.text.size ≤ 256 ∧ validL q.text.data.toList = true) (hk : q.kind = 14) :
  Calls Tryz.prog 50 #[.pointer (some ⟨b, 0, none⟩), .int .i64 (c : Int), .agg #[.int .u8 q.kind, .int .i64 q.slot, .int .i64 q.at_, .int .i64 q.n, .int .u32 q.id, .int .u8 q.grav, .string q.text]] w (Post b w (opS M.st c q) M) := by
 obtain ⟨g0, g1, g2, g3, g4, g5, g6, g7, g8, g9, g10, g11, g12⟩ := hx.1
 have hS := List.getElem?_eq_getElem hc
 generalize M.seats[c] = S at hS
 have hR : opS M.st c q = subS M.st c := by unfold opS; rw [if_neg (by omega), if_neg (by omega), if_neg (by omega), if_neg (by omega), if_neg (by omega), if_pos hk]
 refine do_core b c M q w h hi hcl hst0 142 5 (fun _ _ _ _ _ _ _ _ => #[]) (enters_of Tryz.func142 (by kernel_rfl) rfl) (fun _ _ _ _ _ _ _ _ => by rw [hk]; rfl) (fun W bm a6 a7 a8 a9 a10 a11 a12 a13 hM hX => ?_)
 rw [app0, hR]
 exact subscribe_any b c M q W hM S hS hcl
theorem do_15 (b c : Nat) (M : MM) (q : OpV) (w : World) (h : MdAt w b M) (hok : MSok M.st 100000) (hi : OpIn q) (hc : c < M.seats.length) (hcl : M.seats.length ≤ 8) (hst0 : statE M.st c q = 0) (hx : opP q ∧ q.text.size ≤ 256 ∧ validL q.text.data.toList = true) (hk : q.kind = 15) :
  Calls Tryz.prog 50 #[.pointer (some ⟨b, 0, none⟩), .int .i64 (c : Int), .agg #[.int .u8 q.kind, .int .i64 q.slot, .int .i64 q.at_, .int .i64 q.n, .int .u32 q.id, .int .u8 q.grav, .string q.text]] w (Post b w (opS M.st c q) M) := by
 obtain ⟨g0, g1, g2, g3, g4, g5, g6, g7, g8, g9, g10, g11, g12⟩ := hx.1
 have hS := List.getElem?_eq_getElem hc
 generalize M.seats[c] = S at hS
 have hR : opS M.st c q = recS M.st c := by unfold opS; rw [if_neg (by omega), if_neg (by omega), if_neg (by omega), if_neg (by omega), if_neg (by omega), if_neg (by omega), if_pos hk]
 refine do_core b c M q w h hi hcl hst0 143 6 (fun _ _ _ _ _ _ _ _ => #[]) (enters_of Tryz.func143 (by kernel_rfl) rfl) (fun _ _ _ _ _ _ _ _ => by rw [hk]; rfl) (fun W bm a6 a7 a8 a9 a10 a11 a12 a13 hM hX => ?_)
 rw [app0, hR]
 exact receive_any b c M q W hM S hS hcl
theorem do_16 (b c : Nat) (M : MM) (q : OpV) (w : World) (h : MdAt w b M) (hok : MSok M.st 100000) (hi : OpIn q) (hc : c < M.seats.length) (hcl : M.seats.length ≤ 8) (hst0 : statE M.st c q = 0) (hx : opP q ∧ q.text.size ≤ 256 ∧ validL q.text.data.toList = true) (hk : q.kind = 16) :
  Calls Tryz.prog 50 #[.pointer (some ⟨b, 0, none⟩), .int .i64 (c : Int), .agg #[.int .u8 q.kind, .int .i64 q.slot, .int .i64 q.at_, .int .i64 q.n, .int .u32 q.id, .int .u8 q.grav, .string q.text]] w (Post b w (opS M.st c q) M) := by
 obtain ⟨g0, g1, g2, g3, g4, g5, g6, g7, g8, g9, g10, g11, g12⟩ := hx.1
 have hR : opS M.st c q = cloS M.st := by unfold opS; rw [if_neg (by omega), if_neg (by omega), if_neg (by omega), if_neg (by omega), if_neg (by omega), if_neg (by omega), if_neg (by omega), if_pos hk]
 refine do_core b c M q w h hi hcl hst0 144 7 (fun _ _ _ _ _ _ _ _ => #[]) (enters_of Tryz.func144 (by kernel_rfl) rfl) (fun _ _ _ _ _ _ _ _ => by rw [hk]; rfl) (fun W bm a6 a7 a8 a9 a10 a11 a12 a13 hM hX => ?_)
 rw [app0, hR]
 exact close_any b M c q W hM
theorem do_6 (b c : Nat) (M : MM) (q : OpV) (w : World) (h : MdAt w b M) (hok : MSok M.st 100000) (hi : OpIn q) (hc : c < M.seats.length) (hcl : M.seats.length ≤ 8) (hst0 : statE M.st c q = 0) (hx : opP q ∧ q.text.size ≤ 256 ∧ validL q.text.data.toList = true) (hk : q.kind = 6) :
  Calls Tryz.prog 50 #[.pointer (some ⟨b, 0, none⟩), .int .i64 (c : Int), .agg #[.int .u8 q.kind, .int .i64 q.slot, .int .i64 q.at_, .int .i64 q.n, .int .u32 q.id, .int .u8 q.grav, .string q.text]] w (Post b w (opS M.st c q) M) := by
 obtain ⟨g0, g1, g2, g3, g4, g5, g6, g7, g8, g9, g10, g11, g12⟩ := hx.1
 have hR : opS M.st c q = reaS M.st c q := by unfold opS; rw [if_neg (by omega), if_neg (by omega), if_neg (by omega), if_neg (by omega), if_neg (by omega), if_neg (by omega), if_neg (by omega), if_neg (by omega)]
 refine do_core b c M q w h hi hcl hst0 197 8 (fun g6 g7 g8 g9 g10 g11 g12 g13 => #[.pointer (some ⟨g6, 0, none⟩)]) (enters_of Tryz.func197 (by kernel_rfl) rfl) (fun _ _ _ _ _ _ _ _ => by rw [hk]; rfl) (fun W bm a6 a7 a8 a9 a10 a11 a12 a13 hM hX => ?_)
 rw [app1, hR]
 exact reading1_any 146 q (enters_of Tryz.func146 (by kernel_rfl) rfl) (fun g o cur x w h hok => sn_len g o cur x q w h hok hk) b c a6 M W hM hok hc (hX (a6, 146) (by simp [boxes])).2.2
theorem do_7 (b c : Nat) (M : MM) (q : OpV) (w : World) (h : MdAt w b M) (hok : MSok M.st 100000) (hi : OpIn q) (hc : c < M.seats.length) (hcl : M.seats.length ≤ 8) (hst0 : statE M.st c q = 0) (hx : opP q ∧ q.text.size ≤ 256 ∧ validL q.text.data.toList = true) (hk : q.kind = 7) :
  Calls Tryz.prog 50 #[.pointer (some ⟨b, 0, none⟩), .int .i64 (c : Int), .agg #[.int .u8 q.kind, .int .i64 q.slot, .int .i64 q.at_, .int .i64 q.n, .int .u32 q.id, .int .u8 q.grav, .string q.text]] w (Post b w (opS M.st c q) M) := by
 obtain ⟨g0, g1, g2, g3, g4, g5, g6, g7, g8, g9, g10, g11, g12⟩ := hx.1
 have hR : opS M.st c q = reaS M.st c q := by unfold opS; rw [if_neg (by omega), if_neg (by omega), if_neg (by omega), if_neg (by omega), if_neg (by omega), if_neg (by omega), if_neg (by omega), if_neg (by omega)]
 refine do_core b c M q w h hi hcl hst0 197 9 (fun g6 g7 g8 g9 g10 g11 g12 g13 => #[.pointer (some ⟨g7, 0, none⟩)]) (enters_of Tryz.func197 (by kernel_rfl) rfl) (fun _ _ _ _ _ _ _ _ => by rw [hk]; rfl) (fun W bm a6 a7 a8 a9 a10 a11 a12 a13 hM hX => ?_)
 rw [app1, hR]
 exact reading1_any 147 q (enters_of Tryz.func147 (by kernel_rfl) rfl) (fun g o cur x w h hok => sn_read g o cur x q w h hok hk (by omega) (by have := hi.at_; unfold maxLen; omega) (by omega) (by have := hi.n; unfold maxLen; omega)) b c a7 M W hM hok hc (hX (a7, 147) (by simp [boxes])).2.2
theorem do_8 (b c : Nat) (M : MM) (q : OpV) (w : World) (h : MdAt w b M) (hok : MSok M.st 100000) (hi : OpIn q) (hc : c < M.seats.length) (hcl : M.seats.length ≤ 8) (hst0 : statE M.st c q = 0) (hx : opP q ∧ q.text.size ≤ 256 ∧ validL q.text.data.toList = true) (hk : q.kind = 8) :
  Calls Tryz.prog 50 #[.pointer (some ⟨b, 0, none⟩), .int .i64 (c : Int), .agg #[.int .u8 q.kind, .int .i64 q.slot, .int .i64 q.at_, .int .i64 q.n, .int .u32 q.id, .int .u8 q.grav, .string q.text]] w (Post b w (opS M.st c q) M) := by
 obtain ⟨g0, g1, g2, g3, g4, g5, g6, g7, g8, g9, g10, g11, g12⟩ := hx.1
 have hR : opS M.st c q = reaS M.st c q := by unfold opS; rw [if_neg (by omega), if_neg (by omega), if_neg (by omega), if_neg (by omega), if_neg (by omega), if_neg (by omega), if_neg (by omega), if_neg (by omega)]
 refine do_core b c M q w h hi hcl hst0 197 10 (fun g6 g7 g8 g9 g10 g11 g12 g13 => #[.pointer (some ⟨g8, 0, none⟩)]) (enters_of Tryz.func197 (by kernel_rfl) rfl) (fun _ _ _ _ _ _ _ _ => by rw [hk]; rfl) (fun W bm a6 a7 a8 a9 a10 a11 a12 a13 hM hX => ?_)
 rw [app1, hR]
 exact reading1_any 148 q (enters_of Tryz.func148 (by kernel_rfl) rfl) (fun g o cur x w h hok => sn_rune g o cur x q w h hok hk (by have := hi.n; unfold maxLen; omega)) b c a8 M W hM hok hc (hX (a8, 148) (by simp [boxes])).2.2
theorem do_9 (b c : Nat) (M : MM) (q : OpV) (w : World) (h : MdAt w b M) (hok : MSok M.st 100000) (hi : OpIn q) (hc : c < M.seats.length) (hcl : M.seats.length ≤ 8) (hst0 : statE M.st c q = 0) (hx : opP q ∧ q.text.size ≤ 256 ∧ validL q.text.data.toList = true) (hk : q.kind = 9) :
  Calls Tryz.prog 50 #[.pointer (some ⟨b, 0, none⟩), .int .i64 (c : Int), .agg #[.int .u8 q.kind, .int .i64 q.slot, .int .i64 q.at_, .int .i64 q.n, .int .u32 q.id, .int .u8 q.grav, .string q.text]] w (Post b w (opS M.st c q) M) := by
 obtain ⟨g0, g1, g2, g3, g4, g5, g6, g7, g8, g9, g10, g11, g12⟩ := hx.1
 have hR : opS M.st c q = reaS M.st c q := by unfold opS; rw [if_neg (by omega), if_neg (by omega), if_neg (by omega), if_neg (by omega), if_neg (by omega), if_neg (by omega), if_neg (by omega), if_neg (by omega)]
 refine do_core b c M q w h hi hcl hst0 197 11 (fun g6 g7 g8 g9 g10 g11 g12 g13 => #[.pointer (some ⟨g9, 0, none⟩)]) (enters_of Tryz.func197 (by kernel_rfl) rfl) (fun _ _ _ _ _ _ _ _ => by rw [hk]; rfl) (fun W bm a6 a7 a8 a9 a10 a11 a12 a13 hM hX => ?_)
 rw [app1, hR]
 exact reading1_any 149 q (enters_of Tryz.func149 (by kernel_rfl) rfl) (fun g o cur x w h hok => sn_line g o cur x q w h hok hk (by have := hi.n; unfold maxLen; omega)) b c a9 M W hM hok hc (hX (a9, 149) (by simp [boxes])).2.2
theorem do_10 (b c : Nat) (M : MM) (q : OpV) (w : World) (h : MdAt w b M) (hok : MSok M.st 100000) (hi : OpIn q) (hc : c < M.seats.length) (hcl : M.seats.length ≤ 8) (hst0 : statE M.st c q = 0) (hx : opP q ∧ q.text.size ≤ 256 ∧ validL q.text.data.toList = true) (hk : q.kind = 10) :
  Calls Tryz.prog 50 #[.pointer (some ⟨b, 0, none⟩), .int .i64 (c : Int), .agg #[.int .u8 q.kind, .int .i64 q.slot, .int .i64 q.at_, .int .i64 q.n, .int .u32 q.id, .int .u8 q.grav, .string q.text]] w (Post b w (opS M.st c q) M) := by
 obtain ⟨g0, g1, g2, g3, g4, g5, g6, g7, g8, g9, g10, g11, g12⟩ := hx.1
 have hR : opS M.st c q = reaS M.st c q := by unfold opS; rw [if_neg (by omega), if_neg (by omega), if_neg (by omega), if_neg (by omega), if_neg (by omega), if_neg (by omega), if_neg (by omega), if_neg (by omega)]
 refine do_core b c M q w h hi hcl hst0 197 12 (fun g6 g7 g8 g9 g10 g11 g12 g13 => #[.pointer (some ⟨g10, 0, none⟩)]) (enters_of Tryz.func197 (by kernel_rfl) rfl) (fun _ _ _ _ _ _ _ _ => by rw [hk]; rfl) (fun W bm a6 a7 a8 a9 a10 a11 a12 a13 hM hX => ?_)
 rw [app1, hR]
 exact reading1_any 150 q (enters_of Tryz.func150 (by kernel_rfl) rfl) (fun g o cur x w h hok => sn_mark g o cur x q w h hok hk) b c a10 M W hM hok hc (hX (a10, 150) (by simp [boxes])).2.2
theorem do_11 (b c : Nat) (M : MM) (q : OpV) (w : World) (h : MdAt w b M) (hok : MSok M.st 100000) (hi : OpIn q) (hc : c < M.seats.length) (hcl : M.seats.length ≤ 8) (hst0 : statE M.st c q = 0) (hx : opP q ∧ q.text.size ≤ 256 ∧ validL q.text.data.toList = true) (hk : q.kind = 11) :
  Calls Tryz.prog 50 #[.pointer (some ⟨b, 0, none⟩), .int .i64 (c : Int), .agg #[.int .u8 q.kind, .int .i64 q.slot, .int .i64 q.at_, .int .i64 q.n, .int .u32 q.id, .int .u8 q.grav, .string q.text]] w (Post b w (opS M.st c q) M) := by
 obtain ⟨g0, g1, g2, g3, g4, g5, g6, g7, g8, g9, g10, g11, g12⟩ := hx.1
 have hR : opS M.st c q = reaS M.st c q := by unfold opS; rw [if_neg (by omega), if_neg (by omega), if_neg (by omega), if_neg (by omega), if_neg (by omega), if_neg (by omega), if_neg (by omega), if_neg (by omega)]
 refine do_core b c M q w h hi hcl hst0 197 13 (fun g6 g7 g8 g9 g10 g11 g12 g13 => #[.pointer (some ⟨g11, 0, none⟩)]) (enters_of Tryz.func197 (by kernel_rfl) rfl) (fun _ _ _ _ _ _ _ _ => by rw [hk]; rfl) (fun W bm a6 a7 a8 a9 a10 a11 a12 a13 hM hX => ?_)
 rw [app1, hR]
 exact reading1_any 151 q (enters_of Tryz.func151 (by kernel_rfl) rfl) (fun g o cur x w h hok => sn_seek g o cur x q w h hok hk (by omega) (by have := hi.at_; unfold maxLen; omega)) b c a11 M W hM hok hc (hX (a11, 151) (by simp [boxes])).2.2
theorem do_12 (b c : Nat) (M : MM) (q : OpV) (w : World) (h : MdAt w b M) (hok : MSok M.st 100000) (hi : OpIn q) (hc : c < M.seats.length) (hcl : M.seats.length ≤ 8) (hst0 : statE M.st c q = 0) (hx : opP q ∧ q.text.size ≤ 256 ∧ validL q.text.data.toList = true) (hk : q.kind = 12) :
  Calls Tryz.prog 50 #[.pointer (some ⟨b, 0, none⟩), .int .i64 (c : Int), .agg #[.int .u8 q.kind, .int .i64 q.slot, .int .i64 q.at_, .int .i64 q.n, .int .u32 q.id, .int .u8 q.grav, .string q.text]] w (Post b w (opS M.st c q) M) := by
 obtain ⟨g0, g1, g2, g3, g4, g5, g6, g7, g8, g9, g10, g11, g12⟩ := hx.1
 have hR : opS M.st c q = reaS M.st c q := by unfold opS; rw [if_neg (by omega), if_neg (by omega), if_neg (by omega), if_neg (by omega), if_neg (by omega), if_neg (by omega), if_neg (by omega), if_neg (by omega)]
 refine do_core b c M q w h hi hcl hst0 197 14 (fun g6 g7 g8 g9 g10 g11 g12 g13 => #[.pointer (some ⟨g12, 0, none⟩)]) (enters_of Tryz.func197 (by kernel_rfl) rfl) (fun _ _ _ _ _ _ _ _ => by rw [hk]; rfl) (fun W bm a6 a7 a8 a9 a10 a11 a12 a13 hM hX => ?_)
 rw [app1, hR]
 exact reading1_any 152 q (enters_of Tryz.func152 (by kernel_rfl) rfl) (fun g o cur x w h hok => sn_next g o cur x q w h hok hk (by omega) (by have := hi.n; unfold maxLen; omega)) b c a12 M W hM hok hc (hX (a12, 152) (by simp [boxes])).2.2
theorem do_13 (b c : Nat) (M : MM) (q : OpV) (w : World) (h : MdAt w b M) (hok : MSok M.st 100000) (hi : OpIn q) (hc : c < M.seats.length) (hcl : M.seats.length ≤ 8) (hst0 : statE M.st c q = 0) (hx : opP q ∧ q.text.size ≤ 256 ∧ validL q.text.data.toList = true) (hk : q.kind = 13) :
  Calls Tryz.prog 50 #[.pointer (some ⟨b, 0, none⟩), .int .i64 (c : Int), .agg #[.int .u8 q.kind, .int .i64 q.slot, .int .i64 q.at_, .int .i64 q.n, .int .u32 q.id, .int .u8 q.grav, .string q.text]] w (Post b w (opS M.st c q) M) := by
 obtain ⟨g0, g1, g2, g3, g4, g5, g6, g7, g8, g9, g10, g11, g12⟩ := hx.1
 have hR : opS M.st c q = reaS M.st c q := by unfold opS; rw [if_neg (by omega), if_neg (by omega), if_neg (by omega), if_neg (by omega), if_neg (by omega), if_neg (by omega), if_neg (by omega), if_neg (by omega)]
 refine do_core b c M q w h hi hcl hst0 197 15 (fun g6 g7 g8 g9 g10 g11 g12 g13 => #[.pointer (some ⟨g13, 0, none⟩)]) (enters_of Tryz.func197 (by kernel_rfl) rfl) (fun _ _ _ _ _ _ _ _ => by rw [hk]; rfl) (fun W bm a6 a7 a8 a9 a10 a11 a12 a13 hM hX => ?_)
 rw [app1, hR]
 exact reading1_any 153 q (enters_of Tryz.func153 (by kernel_rfl) rfl) (fun g o cur x w h hok => sn_release g o cur x q w h hok hk) b c a13 M W hM hok hc (hX (a13, 153) (by simp [boxes])).2.2
theorem do_any (b : Nat) (c : Int) (M : MM) (q : OpV) (w : World) (h : MdAt w b M) (hok : MSok M.st 100000) (hi : OpIn q) :
  Calls Tryz.prog 50 #[.pointer (some ⟨b, 0, none⟩), .int .i64 c, .agg #[.int .u8 q.kind, .int .i64 q.slot, .int .i64 q.at_, .int .i64 q.n, .int .u32 q.id, .int .u8 q.grav, .string q.text]] w (Post b w (doS M.st c q) M) := by
 have hcl : M.seats.length ≤ 8 := by have := hok.clients; have h2 : M.st.seats.length = M.seats.length := List.length_map ..; omega
 by_cases hs : statE M.st c q = 0
 ·obtain ⟨h0, h1, h2⟩ := statE_ok hs
  have hx := opE_ok h2
  have hlen : M.st.seats.length = M.seats.length := List.length_map ..
  obtain ⟨n, rfl⟩ : ∃ n : Nat, c = n := ⟨c.toNat, by omega⟩
  have hc : n < M.seats.length := by omega
  have hR : doS M.st n q = opS M.st n q := by unfold doS; rw [if_neg (by simpa using hs), Int.toNat_natCast]
  rw [hR]
  have hk : q.kind = 1 ∨ q.kind = 2 ∨ q.kind = 3 ∨ q.kind = 4 ∨ q.kind = 5 ∨ q.kind = 6 ∨ q.kind = 7 ∨ q.kind = 8 ∨ q.kind = 9 ∨ q.kind = 10 ∨ q.kind = 11 ∨ q.kind = 12 ∨ q.kind = 13 ∨ q.kind = 14 ∨ q.kind = 15 ∨ q.kind = 16 := by
   have a1 := hx.1.1
   have a2 := hx.1.2.1
   omega
  rcases hk with hk | hk | hk | hk | hk | hk | hk | hk | hk | hk | hk | hk | hk | hk | hk | hk
  ·exact do_1 b n M q w h hok hi hc hcl hs hx hk
  ·exact do_2 b n M q w h hok hi hc hcl hs hx hk
  ·exact do_3 b n M q w h hok hi hc hcl hs hx hk
  ·exact do_4 b n M q w h hok hi hc hcl hs hx hk
  ·exact do_5 b n M q w h hok hi hc hcl hs hx hk
  ·exact do_6 b n M q w h hok hi hc hcl hs hx hk
  ·exact do_7 b n M q w h hok hi hc hcl hs hx hk
  ·exact do_8 b n M q w h hok hi hc hcl hs hx hk
  ·exact do_9 b n M q w h hok hi hc hcl hs hx hk
  ·exact do_10 b n M q w h hok hi hc hcl hs hx hk
  ·exact do_11 b n M q w h hok hi hc hcl hs hx hk
  ·exact do_12 b n M q w h hok hi hc hcl hs hx hk
  ·exact do_13 b n M q w h hok hi hc hcl hs hx hk
  ·exact do_14 b n M q w h hok hi hc hcl hs hx hk
  ·exact do_15 b n M q w h hok hi hc hcl hs hx hk
  ·exact do_16 b n M q w h hok hi hc hcl hs hx hk
 ·have hR : doS M.st c q = (failR (statE M.st c q), M.st) := by unfold doS; rw [if_pos hs]
  have hd : (statE M.st c q == 0) = false := by simpa using hs
  have hE := ed2_start w q
  have hM0 := h.below hE.bl
  have hrB : w.heap.size ≤ w.heap.size + 1 := by omega
  have hsta := static_any b M c q _ hM0 hi hcl
  rw [hR]
  clear hR
  generalize statE M.st c q = E at *
  clear hok
  go_enter Tryz.func50, Tryz.ntmps50
  go_wp2_with (first | (go_at_call 100; refine hsta.mono ?_; rintro e w1 ⟨rfl, hb1⟩; have hE1 := hE.on hb1; have hM1 := hM0.below hb1; clear hsta) | (go_at_call 99; refine (fail_any _ _).mono ?_; rintro e v7 ⟨rfl, hb7⟩; have hE7 := hE1.on hb7; have hst := res_st hE7.res rfl))
  exact ⟨rfl, _, results_cell_row rfl _ _ _ _ _ _ _ rfl (setRow_heap _ _ _ _ _ _ hE7.res) Tryz.underlying51 rfl (by kernel_rfl), rfl, M, (hM1.below hb7).row hE7.res _, rfl, (KeepF.of_below hE7.bl).row hrB _, fun k hk => .inl hk⟩
end Go.Proofs.YtdeiocppghhfdaaGreat
