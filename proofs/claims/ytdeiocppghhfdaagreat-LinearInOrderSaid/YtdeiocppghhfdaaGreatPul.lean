/- The texts MdRl MdAf MdBh MdP MdCa MdBc MdBd MdCb. -/
import Derived.Test.YtdeiocppghhfdaaGreatPug
import Derived.Test.YtdeiocppghhfdaaGreatPuk
import Derived.Test.YtdeiocppghhfdaaGreatPuh
import Derived.Test.YtdeiocppghhfdaaGreatPui
import Derived.Test.YtdeiocppghhfdaaGreatPuf
import Derived.Test.YtdeiocppghhfdaaGreatPua
namespace Go.Proofs.YtdeiocppghhfdaaGreat
set_option linter.unusedVariables false
set_option linter.unusedSimpArgs false
set_option maxRecDepth 100000
set_option maxHeartbeats 8000000
open Go.RowKit Go.Lib Go.Shelf
attribute [local go_sem, local simp] resF resL_len resL_ne rset0 rset1 rset2 rset3 rset4 rset5 rset6 rset7 rset8 snF snL_len snL_ne
theorem put_pkg {w W : World} {q : OpV} {r g o : Nat} {cur : Array Value} {x : SnM} (hE : Ed2 w q r W) (hN : SnAt W g o cur x) (hr : r ≠ g) : SnAt (putSn W g o ⟨⟨false, ⟨#[]⟩, [], 0⟩, .slice none 0 0⟩) g o (segA cur o (snL ⟨⟨false, ⟨#[]⟩, [], 0⟩, .slice none 0 0⟩)) ⟨⟨false, ⟨#[]⟩, [], 0⟩, .slice none 0 0⟩ ∧ (putSn W g o ⟨⟨false, ⟨#[]⟩, [], 0⟩, .slice none 0 0⟩).heap[r]? = some (.cells (resL {}).toArray 51 (0, 0)) ∧ KeepF (fun k => k = g) W (putSn W g o ⟨⟨false, ⟨#[]⟩, [], 0⟩, .slice none 0 0⟩) :=
  ⟨hN.put ⟨rfl, .inl ⟨rfl, rfl⟩⟩, (putSn_ne _ _ _ _ _ hr).trans hE.res, KeepF.putSn _ _ _ _⟩
theorem sn_release (g o : Nat) (cur : Array Value) (x : SnM) (q : OpV) (w : World) (h : SnAt w g o cur x) (hok : SnOK x.s) (hk : q.kind = 13) :
    Calls Tryz.prog 153 #[.pointer (some ⟨g, o, none⟩), .agg #[.int .u8 q.kind, .int .i64 q.slot, .int .i64 q.at_, .int .i64 q.n, .int .u32 q.id, .int .u8 q.grav, .string q.text]] w (SnPost g o cur w x (snpS x.s q)) := by
  have hsz := hok.1
  rw [snp13 hk]
  clear hk
  have hE := ed2_start w q
  have hN0 := h.below hE.bl
  obtain ⟨⟨c0, c1, c2, c3⟩, f0, f1, f2, f3⟩ := hN0.cells
  obtain ⟨p2, p3, p6, p4, p5⟩ := hE.o2
  have hrB : w.heap.size ≤ w.heap.size + 1 := by omega
  have hgr : w.heap.size + 1 ≠ g := by have := (Array.getElem?_eq_some_iff.1 h.blk).1; omega
  obtain ⟨hN3, hz3, hK3⟩ := put_pkg hE hN0 hgr
  have hst := res_st hz3 rfl
  have hsn := hN0.stP ⟨⟨false, ⟨#[]⟩, [], 0⟩, .slice none 0 0⟩ rfl
  go_enter Tryz.func153, Tryz.ntmps153
  go_wp2
  have hp := SnAt.post2 (x := x) ⟨_, rfl, hN3⟩ hE.bl hK3 hz3 hrB (resL {}).toArray
  refine ⟨rfl, _, results_cell_row rfl _ _ _ _ _ _ _ rfl (setRow_heap _ _ _ _ _ _ hz3) Tryz.underlying51 rfl (by kernel_rfl), rfl, ?_⟩
  exact hp
end Go.Proofs.YtdeiocppghhfdaaGreat
namespace Go.Proofs.YtdeiocppghhfdaaGreat
set_option linter.unusedVariables false
set_option linter.unusedSimpArgs false
set_option maxRecDepth 100000
set_option maxHeartbeats 8000000
open Go.RowKit Go.Lib Go.Shelf
attribute [local go_sem, local simp] resF resL_len resL_ne rset0 rset1 rset2 rset3 rset4 rset5
theorem app0 (a b c : Value) : (#[a, b, c] ++ #[] : Array Value) = #[a, b, c] := by simp
theorem app1 (a b c p : Value) : (#[a, b, c] ++ #[p] : Array Value) = #[a, b, c, p] := by simp
theorem do_1 (b c : Nat) (M : MM) (q : OpV) (w : World) (h : MdAt w b M) (hok : MSok M.st 100000) (hi : OpIn q) (hc : c < M.seats.length) (hcl : M.seats.length ≤ 8) (hst0 : statE M.st c q = 0) (hx : opP q ∧ q.text.size ≤ 256 ∧ validL q.text.data.toList = true) (hk : q.kind = 1) :
    Calls Tryz.prog 50 #[.pointer (some ⟨b, 0, none⟩), .int .i64 (c : Int), .agg #[.int .u8 q.kind, .int .i64 q.slot, .int .i64 q.at_, .int .i64 q.n, .int .u32 q.id, .int .u8 q.grav, .string q.text]] w (Post b w (opS M.st c q) M) := by
  obtain ⟨g0, g1, g2, g3, g4, g5, g6, g7, g8, g9, g10, g11, g12⟩ := hx.1
  have hR : opS M.st c q = insS M.st q := by unfold opS; rw [if_pos hk]
  refine do_core b c M q w h hi hcl hst0 137 0 (fun _ _ _ _ _ _ _ _ => #[]) (enters_of Tryz.func137 (by kernel_rfl) rfl) (fun _ _ _ _ _ _ _ _ => by rw [hk]; rfl) (fun W bm a6 a7 a8 a9 a10 a11 a12 a13 hM hX => ?_)
  rw [app0, hR]
  exact minsert_any b M c q W hM hok hx.2.1 (by omega) (by omega)
theorem do_2 (b c : Nat) (M : MM) (q : OpV) (w : World) (h : MdAt w b M) (hok : MSok M.st 100000) (hi : OpIn q) (hc : c < M.seats.length) (hcl : M.seats.length ≤ 8) (hst0 : statE M.st c q = 0) (hx : opP q ∧ q.text.size ≤ 256 ∧ validL q.text.data.toList = true) (hk : q.kind = 2) :
    Calls Tryz.prog 50 #[.pointer (some ⟨b, 0, none⟩), .int .i64 (c : Int), .agg #[.int .u8 q.kind, .int .i64 q.slot, .int .i64 q.at_, .int .i64 q.n, .int .u32 q.id, .int .u8 q.grav, .string q.text]] w (Post b w (opS M.st c q) M) := by
  obtain ⟨g0, g1, g2, g3, g4, g5, g6, g7, g8, g9, g10, g11, g12⟩ := hx.1
  have hR : opS M.st c q = delS M.st q := by unfold opS; rw [if_neg (by omega), if_pos hk]
  refine do_core b c M q w h hi hcl hst0 138 1 (fun _ _ _ _ _ _ _ _ => #[]) (enters_of Tryz.func138 (by kernel_rfl) rfl) (fun _ _ _ _ _ _ _ _ => by rw [hk]; rfl) (fun W bm a6 a7 a8 a9 a10 a11 a12 a13 hM hX => ?_)
  rw [app0, hR]
  exact mremove_any b M c q W hM hok (by omega) (by omega)
theorem do_3 (b c : Nat) (M : MM) (q : OpV) (w : World) (h : MdAt w b M) (hok : MSok M.st 100000) (hi : OpIn q) (hc : c < M.seats.length) (hcl : M.seats.length ≤ 8) (hst0 : statE M.st c q = 0) (hx : opP q ∧ q.text.size ≤ 256 ∧ validL q.text.data.toList = true) (hk : q.kind = 3) :
    Calls Tryz.prog 50 #[.pointer (some ⟨b, 0, none⟩), .int .i64 (c : Int), .agg #[.int .u8 q.kind, .int .i64 q.slot, .int .i64 q.at_, .int .i64 q.n, .int .u32 q.id, .int .u8 q.grav, .string q.text]] w (Post b w (opS M.st c q) M) := by
  obtain ⟨g0, g1, g2, g3, g4, g5, g6, g7, g8, g9, g10, g11, g12⟩ := hx.1
  have hR : opS M.st c q = setS M.st q := by unfold opS; rw [if_neg (by omega), if_neg (by omega), if_pos hk]
  refine do_core b c M q w h hi hcl hst0 139 2 (fun _ _ _ _ _ _ _ _ => #[]) (enters_of Tryz.func139 (by kernel_rfl) rfl) (fun _ _ _ _ _ _ _ _ => by rw [hk]; rfl) (fun W bm a6 a7 a8 a9 a10 a11 a12 a13 hM hX => ?_)
  rw [app0, hR]
  exact msetmark_any b M c q W hM hok (by omega) (by have := hi.id0; omega) hi.id1 (by have := hi.g0; omega)
theorem do_4 (b c : Nat) (M : MM) (q : OpV) (w : World) (h : MdAt w b M) (hok : MSok M.st 100000) (hi : OpIn q) (hc : c < M.seats.length) (hcl : M.seats.length ≤ 8) (hst0 : statE M.st c q = 0) (hx : opP q ∧ q.text.size ≤ 256 ∧ validL q.text.data.toList = true) (hk : q.kind = 4) :
    Calls Tryz.prog 50 #[.pointer (some ⟨b, 0, none⟩), .int .i64 (c : Int), .agg #[.int .u8 q.kind, .int .i64 q.slot, .int .i64 q.at_, .int .i64 q.n, .int .u32 q.id, .int .u8 q.grav, .string q.text]] w (Post b w (opS M.st c q) M) := by
  obtain ⟨g0, g1, g2, g3, g4, g5, g6, g7, g8, g9, g10, g11, g12⟩ := hx.1
  have hR : opS M.st c q = drpS M.st q := by unfold opS; rw [if_neg (by omega), if_neg (by omega), if_neg (by omega), if_pos hk]
  refine do_core b c M q w h hi hcl hst0 140 3 (fun _ _ _ _ _ _ _ _ => #[]) (enters_of Tryz.func140 (by kernel_rfl) rfl) (fun _ _ _ _ _ _ _ _ => by rw [hk]; rfl) (fun W bm a6 a7 a8 a9 a10 a11 a12 a13 hM hX => ?_)
  rw [app0, hR]
  exact mdropmark_any b M c q W hM hok
theorem do_5 (b c : Nat) (M : MM) (q : OpV) (w : World) (h : MdAt w b M) (hok : MSok M.st 100000) (hi : OpIn q) (hc : c < M.seats.length) (hcl : M.seats.length ≤ 8) (hst0 : statE M.st c q = 0) (hx : opP q ∧ q.text.size ≤ 256 ∧ validL q.text.data.toList = true) (hk : q.kind = 5) :
    Calls Tryz.prog 50 #[.pointer (some ⟨b, 0, none⟩), .int .i64 (c : Int), .agg #[.int .u8 q.kind, .int .i64 q.slot, .int .i64 q.at_, .int .i64 q.n, .int .u32 q.id, .int .u8 q.grav, .string q.text]] w (Post b w (opS M.st c q) M) := by
  obtain ⟨g0, g1, g2, g3, g4, g5, g6, g7, g8, g9, g10, g11, g12⟩ := hx.1
  have hS := List.getElem?_eq_getElem hc
  generalize M.seats[c] = S at hS
  have hmem := List.mem_of_getElem? hS
  have hl : S.sl.length ≤ 8 := by
    have h1 := (hok.slots S.st (List.mem_map.2 ⟨S, hmem, rfl⟩)).1
    have h2 : S.st.slots.length = S.sl.length := List.length_map ..
    have := hok.readers
    omega
  have hmk : M.marks.length ≤ 64 := hok.marks.1
  have hR : opS M.st c q = acqS M.st c := by unfold opS; rw [if_neg (by omega), if_neg (by omega), if_neg (by omega), if_neg (by omega), if_pos hk]
  refine do_core b c M q w h hi hcl hst0 141 4 (fun _ _ _ _ _ _ _ _ => #[]) (enters_of Tryz.func141 (by kernel_rfl) rfl) (fun _ _ _ _ _ _ _ _ => by rw [hk]; rfl) (fun W bm a6 a7 a8 a9 a10 a11 a12 a13 hM hX => ?_)
  rw [app0, hR]
  exact acquire_any b c M q W hM S hS hl hcl hmk
theorem do_14 (b c : Nat) (M : MM) (q : OpV) (w : World) (h : MdAt w b M) (hok : MSok M.st 100000) (hi : OpIn q) (hc : c < M.seats.length) (hcl : M.seats.length ≤ 8) (hst0 : statE M.st c q = 0) (hx : opP q ∧ q.text.size ≤ 256 ∧ validL q.text.data.toList = true) (hk : q.kind = 14) :
    Calls Tryz.prog 50 #[.pointer (some ⟨b, 0, none⟩), .int .i64 (c : Int), .agg #[.int .u8 q.kind, .int .i64 q.slot, .int .i64 q.at_, .int .i64 q.n, .int .u32 q.id, .int .u8 q.grav, .string q.text]] w (Post b w (opS M.st c q) M) := by
  obtain ⟨g0, g1, g2, g3, g4, g5, g6, g7, g8, g9, g10, g11, g12⟩ := hx.1
  have hS := List.getElem?_eq_getElem hc
  generalize M.seats[c] = S at hS
  have hR : opS M.st c q = subS M.st c := by unfold opS; rw [if_neg (by omega), if_neg (by omega), if_neg (by omega), if_neg (by omega), if_neg (by omega), if_pos hk]
  refine do_core b c M q w h hi hcl hst0 142 5 (fun _ _ _ _ _ _ _ _ => #[]) (enters_of Tryz.func142 (by kernel_rfl) rfl) (fun _ _ _ _ _ _ _ _ => by rw [hk]; rfl) (fun W bm a6 a7 a8 a9 a10 a11 a12 a13 hM hX => ?_)
  rw [app0, hR]
  exact subscribe_any b c M q W hM S hS hcl
theorem do_15 (b c : Nat) (M : MM) (q : OpV) (w : World) (h : MdAt w b M) (hok : MSok M.st 100000) (hi : OpIn q) (hc : c < M.seats.length) (hcl : M.seats.length ≤ 8) (hst0 : statE M.st c q = 0) (hx : opP q ∧ q.text.size ≤ 256 ∧ validL q.text.data.toList = true) (hk : q.kind = 15) :
    Calls Tryz.prog 50 #[.pointer (some ⟨b, 0, none⟩), .int .i64 (c : Int), .agg #[.int .u8 q.kind, .int .i64 q.slot, .int .i64 q.at_, .int .i64 q.n, .int .u32 q.id, .int .u8 q.grav, .string q.text]] w (Post b w (opS M.st c q) M) := by
  obtain ⟨g0, g1, g2, g3, g4, g5, g6, g7, g8, g9, g10, g11, g12⟩ := hx.1
  have hS := List.getElem?_eq_getElem hc
  generalize M.seats[c] = S at hS
  have hR : opS M.st c q = recS M.st c := by unfold opS; rw [if_neg (by omega), if_neg (by omega), if_neg (by omega), if_neg (by omega), if_neg (by omega), if_neg (by omega), if_pos hk]
  refine do_core b c M q w h hi hcl hst0 143 6 (fun _ _ _ _ _ _ _ _ => #[]) (enters_of Tryz.func143 (by kernel_rfl) rfl) (fun _ _ _ _ _ _ _ _ => by rw [hk]; rfl) (fun W bm a6 a7 a8 a9 a10 a11 a12 a13 hM hX => ?_)
  rw [app0, hR]
  exact receive_any b c M q W hM S hS hcl
theorem do_16 (b c : Nat) (M : MM) (q : OpV) (w : World) (h : MdAt w b M) (hok : MSok M.st 100000) (hi : OpIn q) (hc : c < M.seats.length) (hcl : M.seats.length ≤ 8) (hst0 : statE M.st c q = 0) (hx : opP q ∧ q.text.size ≤ 256 ∧ validL q.text.data.toList = true) (hk : q.kind = 16) :
    Calls Tryz.prog 50 #[.pointer (some ⟨b, 0, none⟩), .int .i64 (c : Int), .agg #[.int .u8 q.kind, .int .i64 q.slot, .int .i64 q.at_, .int .i64 q.n, .int .u32 q.id, .int .u8 q.grav, .string q.text]] w (Post b w (opS M.st c q) M) := by
  obtain ⟨g0, g1, g2, g3, g4, g5, g6, g7, g8, g9, g10, g11, g12⟩ := hx.1
  have hR : opS M.st c q = cloS M.st := by unfold opS; rw [if_neg (by omega), if_neg (by omega), if_neg (by omega), if_neg (by omega), if_neg (by omega), if_neg (by omega), if_neg (by omega), if_pos hk]
  refine do_core b c M q w h hi hcl hst0 144 7 (fun _ _ _ _ _ _ _ _ => #[]) (enters_of Tryz.func144 (by kernel_rfl) rfl) (fun _ _ _ _ _ _ _ _ => by rw [hk]; rfl) (fun W bm a6 a7 a8 a9 a10 a11 a12 a13 hM hX => ?_)
  rw [app0, hR]
  exact close_any b M c q W hM
theorem do_6 (b c : Nat) (M : MM) (q : OpV) (w : World) (h : MdAt w b M) (hok : MSok M.st 100000) (hi : OpIn q) (hc : c < M.seats.length) (hcl : M.seats.length ≤ 8) (hst0 : statE M.st c q = 0) (hx : opP q ∧ q.text.size ≤ 256 ∧ validL q.text.data.toList = true) (hk : q.kind = 6) :
    Calls Tryz.prog 50 #[.pointer (some ⟨b, 0, none⟩), .int .i64 (c : Int), .agg #[.int .u8 q.kind, .int .i64 q.slot, .int .i64 q.at_, .int .i64 q.n, .int .u32 q.id, .int .u8 q.grav, .string q.text]] w (Post b w (opS M.st c q) M) := by
  obtain ⟨g0, g1, g2, g3, g4, g5, g6, g7, g8, g9, g10, g11, g12⟩ := hx.1
  have hR : opS M.st c q = reaS M.st c q := by unfold opS; rw [if_neg (by omega), if_neg (by omega), if_neg (by omega), if_neg (by omega), if_neg (by omega), if_neg (by omega), if_neg (by omega), if_neg (by omega)]
  refine do_core b c M q w h hi hcl hst0 197 8 (fun g6 g7 g8 g9 g10 g11 g12 g13 => #[.pointer (some ⟨g6, 0, none⟩)]) (enters_of Tryz.func197 (by kernel_rfl) rfl) (fun _ _ _ _ _ _ _ _ => by rw [hk]; rfl) (fun W bm a6 a7 a8 a9 a10 a11 a12 a13 hM hX => ?_)
  rw [app1, hR]
  exact reading1_any 146 q (enters_of Tryz.func146 (by kernel_rfl) rfl) (fun g o cur x w h hok => sn_len g o cur x q w h hok hk) b c a6 M W hM hok hc (hX (a6, 146) (by simp [boxes])).2.2
theorem do_7 (b c : Nat) (M : MM) (q : OpV) (w : World) (h : MdAt w b M) (hok : MSok M.st 100000) (hi : OpIn q) (hc : c < M.seats.length) (hcl : M.seats.length ≤ 8) (hst0 : statE M.st c q = 0) (hx : opP q ∧ q.text.size ≤ 256 ∧ validL q.text.data.toList = true) (hk : q.kind = 7) :
    Calls Tryz.prog 50 #[.pointer (some ⟨b, 0, none⟩), .int .i64 (c : Int), .agg #[.int .u8 q.kind, .int .i64 q.slot, .int .i64 q.at_, .int .i64 q.n, .int .u32 q.id, .int .u8 q.grav, .string q.text]] w (Post b w (opS M.st c q) M) := by
  obtain ⟨g0, g1, g2, g3, g4, g5, g6, g7, g8, g9, g10, g11, g12⟩ := hx.1
  have hR : opS M.st c q = reaS M.st c q := by unfold opS; rw [if_neg (by omega), if_neg (by omega), if_neg (by omega), if_neg (by omega), if_neg (by omega), if_neg (by omega), if_neg (by omega), if_neg (by omega)]
  refine do_core b c M q w h hi hcl hst0 197 9 (fun g6 g7 g8 g9 g10 g11 g12 g13 => #[.pointer (some ⟨g7, 0, none⟩)]) (enters_of Tryz.func197 (by kernel_rfl) rfl) (fun _ _ _ _ _ _ _ _ => by rw [hk]; rfl) (fun W bm a6 a7 a8 a9 a10 a11 a12 a13 hM hX => ?_)
  rw [app1, hR]
  exact reading1_any 147 q (enters_of Tryz.func147 (by kernel_rfl) rfl) (fun g o cur x w h hok => sn_read g o cur x q w h hok hk (by omega) (by have := hi.at_; unfold maxLen; omega) (by omega) (by have := hi.n; unfold maxLen; omega)) b c a7 M W hM hok hc (hX (a7, 147) (by simp [boxes])).2.2
theorem do_8 (b c : Nat) (M : MM) (q : OpV) (w : World) (h : MdAt w b M) (hok : MSok M.st 100000) (hi : OpIn q) (hc : c < M.seats.length) (hcl : M.seats.length ≤ 8) (hst0 : statE M.st c q = 0) (hx : opP q ∧ q.text.size ≤ 256 ∧ validL q.text.data.toList = true) (hk : q.kind = 8) :
    Calls Tryz.prog 50 #[.pointer (some ⟨b, 0, none⟩), .int .i64 (c : Int), .agg #[.int .u8 q.kind, .int .i64 q.slot, .int .i64 q.at_, .int .i64 q.n, .int .u32 q.id, .int .u8 q.grav, .string q.text]] w (Post b w (opS M.st c q) M) := by
  obtain ⟨g0, g1, g2, g3, g4, g5, g6, g7, g8, g9, g10, g11, g12⟩ := hx.1
  have hR : opS M.st c q = reaS M.st c q := by unfold opS; rw [if_neg (by omega), if_neg (by omega), if_neg (by omega), if_neg (by omega), if_neg (by omega), if_neg (by omega), if_neg (by omega), if_neg (by omega)]
  refine do_core b c M q w h hi hcl hst0 197 10 (fun g6 g7 g8 g9 g10 g11 g12 g13 => #[.pointer (some ⟨g8, 0, none⟩)]) (enters_of Tryz.func197 (by kernel_rfl) rfl) (fun _ _ _ _ _ _ _ _ => by rw [hk]; rfl) (fun W bm a6 a7 a8 a9 a10 a11 a12 a13 hM hX => ?_)
  rw [app1, hR]
  exact reading1_any 148 q (enters_of Tryz.func148 (by kernel_rfl) rfl) (fun g o cur x w h hok => sn_rune g o cur x q w h hok hk (by have := hi.n; unfold maxLen; omega)) b c a8 M W hM hok hc (hX (a8, 148) (by simp [boxes])).2.2
theorem do_9 (b c : Nat) (M : MM) (q : OpV) (w : World) (h : MdAt w b M) (hok : MSok M.st 100000) (hi : OpIn q) (hc : c < M.seats.length) (hcl : M.seats.length ≤ 8) (hst0 : statE M.st c q = 0) (hx : opP q ∧ q.text.size ≤ 256 ∧ validL q.text.data.toList = true) (hk : q.kind = 9) :
    Calls Tryz.prog 50 #[.pointer (some ⟨b, 0, none⟩), .int .i64 (c : Int), .agg #[.int .u8 q.kind, .int .i64 q.slot, .int .i64 q.at_, .int .i64 q.n, .int .u32 q.id, .int .u8 q.grav, .string q.text]] w (Post b w (opS M.st c q) M) := by
  obtain ⟨g0, g1, g2, g3, g4, g5, g6, g7, g8, g9, g10, g11, g12⟩ := hx.1
  have hR : opS M.st c q = reaS M.st c q := by unfold opS; rw [if_neg (by omega), if_neg (by omega), if_neg (by omega), if_neg (by omega), if_neg (by omega), if_neg (by omega), if_neg (by omega), if_neg (by omega)]
  refine do_core b c M q w h hi hcl hst0 197 11 (fun g6 g7 g8 g9 g10 g11 g12 g13 => #[.pointer (some ⟨g9, 0, none⟩)]) (enters_of Tryz.func197 (by kernel_rfl) rfl) (fun _ _ _ _ _ _ _ _ => by rw [hk]; rfl) (fun W bm a6 a7 a8 a9 a10 a11 a12 a13 hM hX => ?_)
  rw [app1, hR]
  exact reading1_any 149 q (enters_of Tryz.func149 (by kernel_rfl) rfl) (fun g o cur x w h hok => sn_line g o cur x q w h hok hk (by have := hi.n; unfold maxLen; omega)) b c a9 M W hM hok hc (hX (a9, 149) (by simp [boxes])).2.2
theorem do_10 (b c : Nat) (M : MM) (q : OpV) (w : World) (h : MdAt w b M) (hok : MSok M.st 100000) (hi : OpIn q) (hc : c < M.seats.length) (hcl : M.seats.length ≤ 8) (hst0 : statE M.st c q = 0) (hx : opP q ∧ q.text.size ≤ 256 ∧ validL q.text.data.toList = true) (hk : q.kind = 10) :
    Calls Tryz.prog 50 #[.pointer (some ⟨b, 0, none⟩), .int .i64 (c : Int), .agg #[.int .u8 q.kind, .int .i64 q.slot, .int .i64 q.at_, .int .i64 q.n, .int .u32 q.id, .int .u8 q.grav, .string q.text]] w (Post b w (opS M.st c q) M) := by
  obtain ⟨g0, g1, g2, g3, g4, g5, g6, g7, g8, g9, g10, g11, g12⟩ := hx.1
  have hR : opS M.st c q = reaS M.st c q := by unfold opS; rw [if_neg (by omega), if_neg (by omega), if_neg (by omega), if_neg (by omega), if_neg (by omega), if_neg (by omega), if_neg (by omega), if_neg (by omega)]
  refine do_core b c M q w h hi hcl hst0 197 12 (fun g6 g7 g8 g9 g10 g11 g12 g13 => #[.pointer (some ⟨g10, 0, none⟩)]) (enters_of Tryz.func197 (by kernel_rfl) rfl) (fun _ _ _ _ _ _ _ _ => by rw [hk]; rfl) (fun W bm a6 a7 a8 a9 a10 a11 a12 a13 hM hX => ?_)
  rw [app1, hR]
  exact reading1_any 150 q (enters_of Tryz.func150 (by kernel_rfl) rfl) (fun g o cur x w h hok => sn_mark g o cur x q w h hok hk) b c a10 M W hM hok hc (hX (a10, 150) (by simp [boxes])).2.2
theorem do_11 (b c : Nat) (M : MM) (q : OpV) (w : World) (h : MdAt w b M) (hok : MSok M.st 100000) (hi : OpIn q) (hc : c < M.seats.length) (hcl : M.seats.length ≤ 8) (hst0 : statE M.st c q = 0) (hx : opP q ∧ q.text.size ≤ 256 ∧ validL q.text.data.toList = true) (hk : q.kind = 11) :
    Calls Tryz.prog 50 #[.pointer (some ⟨b, 0, none⟩), .int .i64 (c : Int), .agg #[.int .u8 q.kind, .int .i64 q.slot, .int .i64 q.at_, .int .i64 q.n, .int .u32 q.id, .int .u8 q.grav, .string q.text]] w (Post b w (opS M.st c q) M) := by
  obtain ⟨g0, g1, g2, g3, g4, g5, g6, g7, g8, g9, g10, g11, g12⟩ := hx.1
  have hR : opS M.st c q = reaS M.st c q := by unfold opS; rw [if_neg (by omega), if_neg (by omega), if_neg (by omega), if_neg (by omega), if_neg (by omega), if_neg (by omega), if_neg (by omega), if_neg (by omega)]
  refine do_core b c M q w h hi hcl hst0 197 13 (fun g6 g7 g8 g9 g10 g11 g12 g13 => #[.pointer (some ⟨g11, 0, none⟩)]) (enters_of Tryz.func197 (by kernel_rfl) rfl) (fun _ _ _ _ _ _ _ _ => by rw [hk]; rfl) (fun W bm a6 a7 a8 a9 a10 a11 a12 a13 hM hX => ?_)
  rw [app1, hR]
  exact reading1_any 151 q (enters_of Tryz.func151 (by kernel_rfl) rfl) (fun g o cur x w h hok => sn_seek g o cur x q w h hok hk (by omega) (by have := hi.at_; unfold maxLen; omega)) b c a11 M W hM hok hc (hX (a11, 151) (by simp [boxes])).2.2
theorem do_12 (b c : Nat) (M : MM) (q : OpV) (w : World) (h : MdAt w b M) (hok : MSok M.st 100000) (hi : OpIn q) (hc : c < M.seats.length) (hcl : M.seats.length ≤ 8) (hst0 : statE M.st c q = 0) (hx : opP q ∧ q.text.size ≤ 256 ∧ validL q.text.data.toList = true) (hk : q.kind = 12) :
    Calls Tryz.prog 50 #[.pointer (some ⟨b, 0, none⟩), .int .i64 (c : Int), .agg #[.int .u8 q.kind, .int .i64 q.slot, .int .i64 q.at_, .int .i64 q.n, .int .u32 q.id, .int .u8 q.grav, .string q.text]] w (Post b w (opS M.st c q) M) := by
  obtain ⟨g0, g1, g2, g3, g4, g5, g6, g7, g8, g9, g10, g11, g12⟩ := hx.1
  have hR : opS M.st c q = reaS M.st c q := by unfold opS; rw [if_neg (by omega), if_neg (by omega), if_neg (by omega), if_neg (by omega), if_neg (by omega), if_neg (by omega), if_neg (by omega), if_neg (by omega)]
  refine do_core b c M q w h hi hcl hst0 197 14 (fun g6 g7 g8 g9 g10 g11 g12 g13 => #[.pointer (some ⟨g12, 0, none⟩)]) (enters_of Tryz.func197 (by kernel_rfl) rfl) (fun _ _ _ _ _ _ _ _ => by rw [hk]; rfl) (fun W bm a6 a7 a8 a9 a10 a11 a12 a13 hM hX => ?_)
  rw [app1, hR]
  exact reading1_any 152 q (enters_of Tryz.func152 (by kernel_rfl) rfl) (fun g o cur x w h hok => sn_next g o cur x q w h hok hk (by omega) (by have := hi.n; unfold maxLen; omega)) b c a12 M W hM hok hc (hX (a12, 152) (by simp [boxes])).2.2
theorem do_13 (b c : Nat) (M : MM) (q : OpV) (w : World) (h : MdAt w b M) (hok : MSok M.st 100000) (hi : OpIn q) (hc : c < M.seats.length) (hcl : M.seats.length ≤ 8) (hst0 : statE M.st c q = 0) (hx : opP q ∧ q.text.size ≤ 256 ∧ validL q.text.data.toList = true) (hk : q.kind = 13) :
    Calls Tryz.prog 50 #[.pointer (some ⟨b, 0, none⟩), .int .i64 (c : Int), .agg #[.int .u8 q.kind, .int .i64 q.slot, .int .i64 q.at_, .int .i64 q.n, .int .u32 q.id, .int .u8 q.grav, .string q.text]] w (Post b w (opS M.st c q) M) := by
  obtain ⟨g0, g1, g2, g3, g4, g5, g6, g7, g8, g9, g10, g11, g12⟩ := hx.1
  have hR : opS M.st c q = reaS M.st c q := by unfold opS; rw [if_neg (by omega), if_neg (by omega), if_neg (by omega), if_neg (by omega), if_neg (by omega), if_neg (by omega), if_neg (by omega), if_neg (by omega)]
  refine do_core b c M q w h hi hcl hst0 197 15 (fun g6 g7 g8 g9 g10 g11 g12 g13 => #[.pointer (some ⟨g13, 0, none⟩)]) (enters_of Tryz.func197 (by kernel_rfl) rfl) (fun _ _ _ _ _ _ _ _ => by rw [hk]; rfl) (fun W bm a6 a7 a8 a9 a10 a11 a12 a13 hM hX => ?_)
  rw [app1, hR]
  exact reading1_any 153 q (enters_of Tryz.func153 (by kernel_rfl) rfl) (fun g o cur x w h hok => sn_release g o cur x q w h hok hk) b c a13 M W hM hok hc (hX (a13, 153) (by simp [boxes])).2.2
theorem do_any (b : Nat) (c : Int) (M : MM) (q : OpV) (w : World) (h : MdAt w b M) (hok : MSok M.st 100000) (hi : OpIn q) :
    Calls Tryz.prog 50 #[.pointer (some ⟨b, 0, none⟩), .int .i64 c, .agg #[.int .u8 q.kind, .int .i64 q.slot, .int .i64 q.at_, .int .i64 q.n, .int .u32 q.id, .int .u8 q.grav, .string q.text]] w (Post b w (doS M.st c q) M) := by
  have hcl : M.seats.length ≤ 8 := by have := hok.clients; have h2 : M.st.seats.length = M.seats.length := List.length_map ..; omega
  by_cases hs : statE M.st c q = 0
  · obtain ⟨h0, h1, h2⟩ := statE_ok hs
    have hx := opE_ok h2
    have hlen : M.st.seats.length = M.seats.length := List.length_map ..
    obtain ⟨n, rfl⟩ : ∃ n : Nat, c = n := ⟨c.toNat, by omega⟩
    have hc : n < M.seats.length := by omega
    have hR : doS M.st n q = opS M.st n q := by unfold doS; rw [if_neg (by simpa using hs), Int.toNat_natCast]
    rw [hR]
    have hk : q.kind = 1 ∨ q.kind = 2 ∨ q.kind = 3 ∨ q.kind = 4 ∨ q.kind = 5 ∨ q.kind = 6 ∨ q.kind = 7 ∨ q.kind = 8 ∨ q.kind = 9 ∨ q.kind = 10 ∨ q.kind = 11 ∨ q.kind = 12 ∨ q.kind = 13 ∨ q.kind = 14 ∨ q.kind = 15 ∨ q.kind = 16 := by
      have a1 := hx.1.1
      have a2 := hx.1.2.1
      omega
    rcases hk with hk | hk | hk | hk | hk | hk | hk | hk | hk | hk | hk | hk | hk | hk | hk | hk
    · exact do_1 b n M q w h hok hi hc hcl hs hx hk
    · exact do_2 b n M q w h hok hi hc hcl hs hx hk
    · exact do_3 b n M q w h hok hi hc hcl hs hx hk
    · exact do_4 b n M q w h hok hi hc hcl hs hx hk
    · exact do_5 b n M q w h hok hi hc hcl hs hx hk
    · exact do_6 b n M q w h hok hi hc hcl hs hx hk
    · exact do_7 b n M q w h hok hi hc hcl hs hx hk
    · exact do_8 b n M q w h hok hi hc hcl hs hx hk
    · exact do_9 b n M q w h hok hi hc hcl hs hx hk
    · exact do_10 b n M q w h hok hi hc hcl hs hx hk
    · exact do_11 b n M q w h hok hi hc hcl hs hx hk
    · exact do_12 b n M q w h hok hi hc hcl hs hx hk
    · exact do_13 b n M q w h hok hi hc hcl hs hx hk
    · exact do_14 b n M q w h hok hi hc hcl hs hx hk
    · exact do_15 b n M q w h hok hi hc hcl hs hx hk
    · exact do_16 b n M q w h hok hi hc hcl hs hx hk
  · have hR : doS M.st c q = (failR (statE M.st c q), M.st) := by unfold doS; rw [if_pos hs]
    have hd : (statE M.st c q == 0) = false := by simpa using hs
    have hE := ed2_start w q
    have hM0 := h.below hE.bl
    have hrB : w.heap.size ≤ w.heap.size + 1 := by omega
    have hsta := static_any b M c q _ hM0 hi hcl
    rw [hR]
    clear hR
    generalize statE M.st c q = E at *
    clear hok
    go_enter Tryz.func50, Tryz.ntmps50
    go_wp2_with (first | (go_at_call 100; refine hsta.mono ?_; rintro e w1 ⟨rfl, hb1⟩; have hE1 := hE.on hb1; have hM1 := hM0.below hb1; clear hsta) | (go_at_call 99; refine (fail_any _ _).mono ?_; rintro e v7 ⟨rfl, hb7⟩; have hE7 := hE1.on hb7; have hst := res_st hE7.res rfl))
    exact ⟨rfl, _, results_cell_row rfl _ _ _ _ _ _ _ rfl (setRow_heap _ _ _ _ _ _ hE7.res) Tryz.underlying51 rfl (by kernel_rfl), rfl, M, (hM1.below hb7).row hE7.res _, rfl, (KeepF.of_below hE7.bl).row hrB _, fun k hk => .inl hk⟩
end Go.Proofs.YtdeiocppghhfdaaGreat
namespace Go.Proofs.YtdeiocppghhfdaaGreat
set_option linter.unusedVariables false
set_option linter.unusedSimpArgs false
set_option maxRecDepth 100000
set_option maxHeartbeats 8000000
open Go.RowKit Go.Lib Go.Shelf
def mdC (t : ByteArray) (v : Value) (n : Int) (c : Bool) (r : Int) (s : Value) : List Value := [.string t, v, .int .i64 n, .bool c, .int .i64 r, s]
theorem mdF (t : ByteArray) (v : Value) (n : Int) (c : Bool) (r : Int) (s : Value) : Value.agg #[.string t, v, .int .i64 n, .bool c, .int .i64 r, s] = .agg (mdC t v n c r s).toArray := rfl
theorem mdC_len (t : ByteArray) (v : Value) (n : Int) (c : Bool) (r : Int) (s : Value) : (mdC t v n c r s).length = 6 := rfl
theorem mdC_ne (t : ByteArray) (v : Value) (n : Int) (c : Bool) (r : Int) (s : Value) : mdC t v n c r s ≠ [] := by simp [mdC]
attribute [local go_sem, local simp] resF resL_len resL_ne mdF mdC_len mdC_ne
theorem rnew_pkg (W : World) (R : ResV) : ∃ W4, (storeCells ⟨W.heap.size, 0, none⟩ (resL R)).run Tryz.prog (W.alloc (.cells (resL {}).toArray 51)) = .ok () W4 ∧ W4.heap[W.heap.size]? = some (.cells (resL R).toArray 51 (0, 0)) ∧ Below W.heap.size W W4 := by
  have hz := heap_alloc_new W (.cells (resL {}).toArray 51)
  exact ⟨_, res_st hz rfl R, setRow_heap _ _ _ _ _ _ hz, below_row ((Below.refl _ W).alloc (Nat.le_refl _) _) (Nat.le_refl _) _⟩
theorem blk13 {W : World} {k : Nat} {T : TypeId} {u0 u1 u2 u3 u4 u5 u6 u7 u8 u9 u10 u11 u12 : Value} (h : W.heap[k]? = some (.cells #[u0, u1, u2, u3, u4, u5, u6, u7, u8, u9, u10, u11, u12] T (0, 0))) : W.cell? ⟨k, 0, none⟩ = some u0 ∧ W.cell? ⟨k, 1, none⟩ = some u1 ∧ W.cell? ⟨k, 2, none⟩ = some u2 ∧ W.cell? ⟨k, 3, none⟩ = some u3 ∧ W.cell? ⟨k, 4, none⟩ = some u4 ∧ W.cell? ⟨k, 5, none⟩ = some u5 ∧ W.cell? ⟨k, 6, none⟩ = some u6 ∧ W.cell? ⟨k, 7, none⟩ = some u7 ∧ W.cell? ⟨k, 8, none⟩ = some u8 ∧ W.cell? ⟨k, 9, none⟩ = some u9 ∧ W.cell? ⟨k, 10, none⟩ = some u10 ∧ W.cell? ⟨k, 11, none⟩ = some u11 ∧ W.cell? ⟨k, 12, none⟩ = some u12 := by
  refine ⟨?_, ?_, ?_, ?_, ?_, ?_, ?_, ?_, ?_, ?_, ?_, ?_, ?_⟩ <;> simp [World.cell?, h]
theorem blk7 {W : World} {k : Nat} {T : TypeId} {u0 u1 u2 u3 u4 u5 u6 : Value} (h : W.heap[k]? = some (.cells #[u0, u1, u2, u3, u4, u5, u6] T (0, 0))) : W.cell? ⟨k, 0, none⟩ = some u0 ∧ W.cell? ⟨k, 1, none⟩ = some u1 ∧ W.cell? ⟨k, 2, none⟩ = some u2 ∧ W.cell? ⟨k, 3, none⟩ = some u3 ∧ W.cell? ⟨k, 4, none⟩ = some u4 ∧ W.cell? ⟨k, 5, none⟩ = some u5 ∧ W.cell? ⟨k, 6, none⟩ = some u6 := by
  refine ⟨?_, ?_, ?_, ?_, ?_, ?_, ?_⟩ <;> simp [World.cell?, h]
theorem MdAt.c4 {W : World} {b : Nat} {M : MM} (h : MdAt W b M) : W.cell? ⟨b, 4, none⟩ = some (.int .i64 M.readers) := by simp [World.cell?, h.blk, mdL]
theorem MdAt.take {W : World} {b b2 : Nat} {M N : MM} (h : MdAt W b M) (h2 : MdAt W b2 N) {av asn : Option Addr} {cv cs : Nat} (hm : N.mv = .slice av N.marks.length cv) (hs : N.sv = .slice asn N.seats.length cs) :
    (storeCells ⟨b, 0, none⟩ (mdC N.text (.slice av N.marks.length cv) N.number N.closed N.readers (.slice asn N.seats.length cs))).run Tryz.prog W = .ok () (W.setRow b (mdC N.text (.slice av N.marks.length cv) N.number N.closed N.readers (.slice asn N.seats.length cs)).toArray) ∧
    MdAt (W.setRow b (mdC N.text (.slice av N.marks.length cv) N.number N.closed N.readers (.slice asn N.seats.length cs)).toArray) b N := by
  have e : mdC N.text (.slice av N.marks.length cv) N.number N.closed N.readers (.slice asn N.seats.length cs) = mdL N := by unfold mdC mdL; rw [hm, hs]
  refine ⟨run_st h.blk rfl _ rfl (by simp [mdC, Value.oneCell']), ?_⟩
  rw [e]
  have hk : ∀ k, k < W.heap.size → k ≠ b → (W.setRow b (mdL N).toArray).heap[k]? = W.heap[k]? := fun k _ hk => setRow_other _ _ _ _ hk
  exact ⟨setRow_heap _ _ _ _ _ _ h.blk, own_keep h2.marks h.blk (by decide) hk, own_keep h2.seats h.blk (by decide) hk, fun S hS => own_keep (h2.slots S hS) h.blk (by decide) hk, fun S hS x hx => own_keep (h2.smarks S hS x hx) h.blk (by decide) hk, h2.some_, h2.nodup⟩
structure ItV where
  k : Int := 0
  f : Int := 0
  t : Int := 0
  da : Option Addr := none
  dn : Nat := 0
  dc : Nat := 0
def sameB (r : ResV) (i : ItV) (s : ResV) : Bool := decide (i.dn = 0) && (r.err == s.err) && (r.rev == s.rev) && (r.slot == s.slot) && (r.at_ == s.at_) && (r.grav == s.grav) && (r.text.toList == s.text.toList) && (r.m1 == s.m1 && r.m2 == s.m2 && r.m3 == s.m3) && (i.k == 0) && (i.f == 0) && (i.t == 0)
theorem same_i (r s : ResV) (i : ItV) (w : World) (hn : i.dn ≤ maxLen) : Calls Tryz.prog 103 #[.agg #[.int .i64 r.err, .int .i64 r.rev, .int .i64 r.slot, .int .i64 r.at_, .int .u8 r.grav, .string r.text, .int .i64 r.m1, .int .i64 r.m2, .int .i64 r.m3, .int .u8 i.k, .int .i64 i.f, .int .i64 i.t, .slice i.da i.dn i.dc], .agg (resL s).toArray] w fun e w' => e = .returned (.bool (sameB r i s)) ∧ Below w.heap.size w w' := same_any r s i.k i.f i.t i.da i.dn i.dc w hn
theorem same_0 (r s : ResV) (w : World) : Calls Tryz.prog 103 #[.agg (resL r).toArray, .agg (resL s).toArray] w fun e w' => e = .returned (.bool (sameB r {} s)) ∧ Below w.heap.size w w' := same_any r s 0 0 0 none 0 0 w (Nat.zero_le _)
def accB (st : MS) (c : Int) (q : OpV) (r : ResV) (i : ItV) : Bool :=
  if statE st c q ≠ 0 then false
  else if q.kind = 15 then ((doS st c q).1.err == 17) && sameB r {} {} && (i.k == 1 || i.k == 2)
  else if q.kind = 1 ∨ q.kind = 2 then (sameB r i (failR 6) && ((doS st c q).1.err == 0)) || (sameB r i (failR 14) && !((doS st c q).1.err == 13))
  else if q.kind = 3 ∨ q.kind = 4 then sameB r i (failR 14) && !((doS st c q).1.err == 13)
  else false
def accS (st : MS) (c : Int) (q : OpV) (r : ResV) (i : ItV) : Bool × MS := if sameB r i (doS st c q).1 then (true, (doS st c q).2) else (accB st c q r i, st)
def AccPost (b : Nat) (w : World) (R : Bool × MS) (M : MM) (e : Ending) (w' : World) : Prop := e = .returned (.bool R.1) ∧ ∃ M', MdAt w' b M' ∧ M'.st = R.2 ∧ KeepF (M.fp b) w w' ∧ (∀ k, M'.fp b k → M.fp b k ∨ w.heap.size ≤ k)
theorem accept_true (b : Nat) (c : Int) (M : MM) (q : OpV) (r : ResV) (i : ItV) (w : World) (h : MdAt w b M) (hok : MSok M.st 100000) (hi : OpIn q) (hin : i.dn ≤ maxLen) (hS : sameB r i (doS M.st c q).1 = true) :
    Calls Tryz.prog 53 #[.pointer (some ⟨b, 0, none⟩), .int .i64 c, .agg #[.int .u8 q.kind, .int .i64 q.slot, .int .i64 q.at_, .int .i64 q.n, .int .u32 q.id, .int .u8 q.grav, .string q.text], .agg #[.int .i64 r.err, .int .i64 r.rev, .int .i64 r.slot, .int .i64 r.at_, .int .u8 r.grav, .string r.text, .int .i64 r.m1, .int .i64 r.m2, .int .i64 r.m3, .int .u8 i.k, .int .i64 i.f, .int .i64 i.t, .slice i.da i.dn i.dc]] w (AccPost b w (accS M.st c q r i) M) := by
  have hB0 := ((Below.refl w.heap.size w).alloc (Nat.le_refl _) (.cells #[.int .u8 q.kind, .int .i64 q.slot, .int .i64 q.at_, .int .i64 q.n, .int .u32 q.id, .int .u8 q.grav, .string q.text] 54)).alloc (by simp) (.cells #[.int .i64 r.err, .int .i64 r.rev, .int .i64 r.slot, .int .i64 r.at_, .int .u8 r.grav, .string r.text, .int .i64 r.m1, .int .i64 r.m2, .int .i64 r.m3, .int .u8 i.k, .int .i64 i.f, .int .i64 i.t, .slice i.da i.dn i.dc] 51)
  have hq0 := (heap_alloc_old (w.alloc (.cells #[.int .u8 q.kind, .int .i64 q.slot, .int .i64 q.at_, .int .i64 q.n, .int .u32 q.id, .int .u8 q.grav, .string q.text] 54)) (.cells #[.int .i64 r.err, .int .i64 r.rev, .int .i64 r.slot, .int .i64 r.at_, .int .u8 r.grav, .string r.text, .int .i64 r.m1, .int .i64 r.m2, .int .i64 r.m3, .int .u8 i.k, .int .i64 i.f, .int .i64 i.t, .slice i.da i.dn i.dc] 51) (show w.heap.size < _ by simp)).trans (heap_alloc_new w _)
  have hr0 := heap_alloc_new (w.alloc (.cells #[.int .u8 q.kind, .int .i64 q.slot, .int .i64 q.at_, .int .i64 q.n, .int .u32 q.id, .int .u8 q.grav, .string q.text] 54)) (.cells #[.int .i64 r.err, .int .i64 r.rev, .int .i64 r.slot, .int .i64 r.at_, .int .u8 r.grav, .string r.text, .int .i64 r.m1, .int .i64 r.m2, .int .i64 r.m3, .int .u8 i.k, .int .i64 i.f, .int .i64 i.t, .slice i.da i.dn i.dc] 51)
  rw [World.size_alloc] at hr0
  have HOK := Lib.hid hok
  clear hok
  have hM0 := h.below hB0
  obtain ⟨R, hR⟩ : ∃ R, doS M.st c q = R := ⟨_, rfl⟩
  have hcl : M.seats.length ≤ 8 := by have := HOK.out.clients; have h2 : M.st.seats.length = M.seats.length := List.length_map ..; omega
  rw [hR] at hS
  have hA : accS M.st c q r i = (true, R.2) := by unfold accS; rw [hR, if_pos hS]
  rw [hA]
  go_enter Tryz.func53, Tryz.ntmps53
  go_wp2_with (first | (go_at_call 102; refine (copy_any b M _ 100000 hM0 HOK.out).mono ?_; rintro e w2 ⟨b2, M2, rfl, hM2, hst2, hb2, hf2⟩; have hq2 := (hb2.block _ (by simp; omega)).trans hq0; have hr2 := (hb2.block _ (by simp)).trans hr0; have hB2 := hB0.trans (hb2.mono (by simp; omega)); have hf2' : ∀ k, M2.fp b2 k → w.heap.size + 1 + 1 ≤ k := (fun k hk => by have := hf2 k hk; simpa using this); obtain ⟨y0, y1, y2, y3, y4, y5, y6⟩ := blk7 hq2; have hdo := do_any b2 c M2 q _ hM2 (by rw [hst2]; exact HOK.out) hi; rw [hst2, hR] at hdo; clear hf2 hb2) | (go_at_call 50; refine hdo.mono ?_; rintro e w3 ⟨rfl, M3, hM3, hst3, hk3, hf3⟩; have hq3 := (hk3.block _ (Array.getElem?_eq_some_iff.1 hq2).1 (fun hk => absurd (hf2' _ hk) (by omega))).trans hq2; have hr3 := (hk3.block _ (Array.getElem?_eq_some_iff.1 hr2).1 (fun hk => absurd (hf2' _ hk) (by omega))).trans hr2; have hB3 : Below w.heap.size w w3 := ⟨hk3.os.trans hB2.os, hk3.tape.trans hB2.tape, hk3.output.trans hB2.output, Nat.le_trans hB2.size hk3.size, fun k hk => (hk3.block k (by have := hB2.size; omega) (fun hf => absurd (hf2' _ hf) (by omega))).trans (hB2.block k hk)⟩; obtain ⟨W4, hs4, hw4, hb4⟩ := rnew_pkg w3 R.1; have hB4 := hB3.trans (hb4.mono hB3.size); have hq4 := (hb4.block _ (Array.getElem?_eq_some_iff.1 hq3).1).trans hq3; have hr4 := (hb4.block _ (Array.getElem?_eq_some_iff.1 hr3).1).trans hr3; obtain ⟨a0, a1, a2, a3, a4, a5, a6, a7, a8, a9, a10, a11, a12⟩ := blk13 hr4; obtain ⟨d0, d1, d2, d3, d4, d5, d6, d7, d8, d9, d10, d11, d12⟩ := blk13 hw4; have hf3' : ∀ k, M3.fp b2 k → w.heap.size ≤ k := (fun k hk => (hf3 k hk).elim (fun h => by have := hf2' k h; omega) (fun h => by have := hB2.size; omega)); clear y0 y1 y2 y3 y4 y5 y6 hdo) | (go_at_call 103; refine (same_i r R.1 i _ hin).mono ?_; rw [hS]; rintro e w5 ⟨rfl, hb5⟩; have hB5 := hB4.trans (hb5.mono hB4.size); clear a0 a1 a2 a3 a4 a5 a6 a7 a8 a9 a10 a11 a12 d0 d1 d2 d3 d4 d5 d6 d7 d8 d9 d10 d11 d12; have hM5 := h.below hB5; have hN5 := (hM3.below hb4).below hb5; obtain ⟨av, cv, hmv⟩ := own_slice hN5.marks; obtain ⟨ag, cg, hsv⟩ := own_slice hN5.seats; have g0 := hN5.c0; have g1 := hN5.c1 hmv; have g2 := hN5.c2; have g3 := hN5.c3; have g4 := hN5.c4; have g5 := hN5.c5 hsv; obtain ⟨hst6, hM6⟩ := hM5.take hN5 hmv hsv))
  go_returns
  exact ⟨rfl, M3, hM6, hst3, (KeepF.of_below hB5).trans (KeepF.mono (F := fun k => k = b) ⟨rfl, rfl, rfl, by rw [setRow_size]; exact Nat.le_refl _, fun k _ hk => setRow_other _ _ _ _ hk⟩ (fun k hk => .inl hk)), fun k hk => hk.elim (fun e => .inl (.inl e)) (fun e => .inr (hf3' k (.inr e)))⟩
theorem accept_stat (b : Nat) (c : Int) (M : MM) (q : OpV) (r : ResV) (i : ItV) (w : World) (h : MdAt w b M) (hok : MSok M.st 100000) (hi : OpIn q) (hin : i.dn ≤ maxLen) (hS : sameB r i (doS M.st c q).1 = false) (hz0 : statE M.st c q ≠ 0) :
    Calls Tryz.prog 53 #[.pointer (some ⟨b, 0, none⟩), .int .i64 c, .agg #[.int .u8 q.kind, .int .i64 q.slot, .int .i64 q.at_, .int .i64 q.n, .int .u32 q.id, .int .u8 q.grav, .string q.text], .agg #[.int .i64 r.err, .int .i64 r.rev, .int .i64 r.slot, .int .i64 r.at_, .int .u8 r.grav, .string r.text, .int .i64 r.m1, .int .i64 r.m2, .int .i64 r.m3, .int .u8 i.k, .int .i64 i.f, .int .i64 i.t, .slice i.da i.dn i.dc]] w (AccPost b w (accS M.st c q r i) M) := by
  have hB0 := ((Below.refl w.heap.size w).alloc (Nat.le_refl _) (.cells #[.int .u8 q.kind, .int .i64 q.slot, .int .i64 q.at_, .int .i64 q.n, .int .u32 q.id, .int .u8 q.grav, .string q.text] 54)).alloc (by simp) (.cells #[.int .i64 r.err, .int .i64 r.rev, .int .i64 r.slot, .int .i64 r.at_, .int .u8 r.grav, .string r.text, .int .i64 r.m1, .int .i64 r.m2, .int .i64 r.m3, .int .u8 i.k, .int .i64 i.f, .int .i64 i.t, .slice i.da i.dn i.dc] 51)
  have hq0 := (heap_alloc_old (w.alloc (.cells #[.int .u8 q.kind, .int .i64 q.slot, .int .i64 q.at_, .int .i64 q.n, .int .u32 q.id, .int .u8 q.grav, .string q.text] 54)) (.cells #[.int .i64 r.err, .int .i64 r.rev, .int .i64 r.slot, .int .i64 r.at_, .int .u8 r.grav, .string r.text, .int .i64 r.m1, .int .i64 r.m2, .int .i64 r.m3, .int .u8 i.k, .int .i64 i.f, .int .i64 i.t, .slice i.da i.dn i.dc] 51) (show w.heap.size < _ by simp)).trans (heap_alloc_new w _)
  have hr0 := heap_alloc_new (w.alloc (.cells #[.int .u8 q.kind, .int .i64 q.slot, .int .i64 q.at_, .int .i64 q.n, .int .u32 q.id, .int .u8 q.grav, .string q.text] 54)) (.cells #[.int .i64 r.err, .int .i64 r.rev, .int .i64 r.slot, .int .i64 r.at_, .int .u8 r.grav, .string r.text, .int .i64 r.m1, .int .i64 r.m2, .int .i64 r.m3, .int .u8 i.k, .int .i64 i.f, .int .i64 i.t, .slice i.da i.dn i.dc] 51)
  rw [World.size_alloc] at hr0
  have HOK := Lib.hid hok
  clear hok
  have hM0 := h.below hB0
  obtain ⟨R, hR⟩ : ∃ R, doS M.st c q = R := ⟨_, rfl⟩
  have hcl : M.seats.length ≤ 8 := by have := HOK.out.clients; have h2 : M.st.seats.length = M.seats.length := List.length_map ..; omega
  rw [hR] at hS
  have hA : accS M.st c q r i = (false, M.st) := by unfold accS accB; rw [hR, if_neg (by simp [hS]), if_pos hz0]
  rw [hA]
  obtain ⟨E, hz⟩ : ∃ E, statE M.st c q = E := ⟨_, rfl⟩
  rw [hz] at hz0
  have hd : (E == 0) = false := by simpa using hz0
  clear hA
  go_enter Tryz.func53, Tryz.ntmps53
  go_wp2_with (first | (go_at_call 102; refine (copy_any b M _ 100000 hM0 HOK.out).mono ?_; rintro e w2 ⟨b2, M2, rfl, hM2, hst2, hb2, hf2⟩; have hq2 := (hb2.block _ (by simp; omega)).trans hq0; have hr2 := (hb2.block _ (by simp)).trans hr0; have hB2 := hB0.trans (hb2.mono (by simp; omega)); have hf2' : ∀ k, M2.fp b2 k → w.heap.size + 1 + 1 ≤ k := (fun k hk => by have := hf2 k hk; simpa using this); obtain ⟨y0, y1, y2, y3, y4, y5, y6⟩ := blk7 hq2; have hdo := do_any b2 c M2 q _ hM2 (by rw [hst2]; exact HOK.out) hi; rw [hst2, hR] at hdo; clear hf2 hb2) | (go_at_call 50; refine hdo.mono ?_; rintro e w3 ⟨rfl, M3, hM3, hst3, hk3, hf3⟩; have hq3 := (hk3.block _ (Array.getElem?_eq_some_iff.1 hq2).1 (fun hk => absurd (hf2' _ hk) (by omega))).trans hq2; have hr3 := (hk3.block _ (Array.getElem?_eq_some_iff.1 hr2).1 (fun hk => absurd (hf2' _ hk) (by omega))).trans hr2; have hB3 : Below w.heap.size w w3 := ⟨hk3.os.trans hB2.os, hk3.tape.trans hB2.tape, hk3.output.trans hB2.output, Nat.le_trans hB2.size hk3.size, fun k hk => (hk3.block k (by have := hB2.size; omega) (fun hf => absurd (hf2' _ hf) (by omega))).trans (hB2.block k hk)⟩; obtain ⟨W4, hs4, hw4, hb4⟩ := rnew_pkg w3 R.1; have hB4 := hB3.trans (hb4.mono hB3.size); have hq4 := (hb4.block _ (Array.getElem?_eq_some_iff.1 hq3).1).trans hq3; have hr4 := (hb4.block _ (Array.getElem?_eq_some_iff.1 hr3).1).trans hr3; obtain ⟨a0, a1, a2, a3, a4, a5, a6, a7, a8, a9, a10, a11, a12⟩ := blk13 hr4; obtain ⟨d0, d1, d2, d3, d4, d5, d6, d7, d8, d9, d10, d11, d12⟩ := blk13 hw4; have hf3' : ∀ k, M3.fp b2 k → w.heap.size ≤ k := (fun k hk => (hf3 k hk).elim (fun h => by have := hf2' k h; omega) (fun h => by have := hB2.size; omega)); clear y0 y1 y2 y3 y4 y5 y6 hdo) | (go_at_call 103; refine (same_i r R.1 i _ hin).mono ?_; rw [hS]; rintro e w5 ⟨rfl, hb5⟩; have hB5 := hB4.trans (hb5.mono hB4.size); clear a0 a1 a2 a3 a4 a5 a6 a7 a8 a9 a10 a11 a12 d0 d1 d2 d3 d4 d5 d6 d7 d8 d9 d10 d11 d12; have hq5 := (hb5.block _ (Array.getElem?_eq_some_iff.1 hq4).1).trans hq4; have hr5 := (hb5.block _ (Array.getElem?_eq_some_iff.1 hr4).1).trans hr4; have hw5 := (hb5.block _ (Array.getElem?_eq_some_iff.1 hw4).1).trans hw4; have hM5 := h.below hB5; obtain ⟨y0, y1, y2, y3, y4, y5, y6⟩ := blk7 hq5; have hsta := static_any b M c q w5 hM5 hi hcl; rw [hz] at hsta; clear hb4 hs4 hb5 hk3 hM3 hf3 hf3' hf2') | (go_at_call 100; refine hsta.mono ?_; rintro e w6 ⟨rfl, hb6⟩; have hB6 := hB5.trans (hb6.mono hB5.size); have hq6 := (hb6.block _ (Array.getElem?_eq_some_iff.1 hq5).1).trans hq5; have hr6 := (hb6.block _ (Array.getElem?_eq_some_iff.1 hr5).1).trans hr5; have hw6 := (hb6.block _ (Array.getElem?_eq_some_iff.1 hw5).1).trans hw5; have k6 := (blk7 hq6).1; clear y0 y1 y2 y3 y4 y5 y6 hsta))
  go_returns
  exact ⟨rfl, M, h.below hB6, rfl, KeepF.of_below hB6, fun k hk => .inl hk⟩
end Go.Proofs.YtdeiocppghhfdaaGreat
namespace Go.Proofs.YtdeiocppghhfdaaGreat
set_option linter.unusedVariables false
set_option linter.unusedSimpArgs false
set_option maxRecDepth 100000
set_option maxHeartbeats 8000000
structure ActV where
  client : Int
  q : OpV
def runS (st : MS) (l : List ActV) : MS := l.foldl (fun s a => (doS s a.client a.q).2) st
theorem runS_ok {st : MS} {K : Int} : ∀ {l : List ActV}, MSok st K → (∀ a ∈ l, OpIn a.q) → MSok (runS st l) (K + l.length) := by
  intro l
  induction l generalizing st K with
  | nil => intro h _; exact h.mono (by simp)
  | cons a l ih =>
    intro h hl
    have := ih (st := (doS st a.client a.q).2) (K := K + 1) (doS_ok h (hl a (by simp))) (fun b hb => hl b (by simp [hb]))
    exact this.mono (by rw [List.length_cons]; omega)
theorem inB_iff {v lo hi : Int} (h : inB v lo hi = true) : lo ≤ v ∧ v ≤ hi := by simpa [inB] using h
theorem cfgE_ok {c : CfgV} (h : cfgE c = 0) : (0 ≤ c.clients ∧ c.clients ≤ 8) ∧ (0 ≤ c.readers ∧ c.readers ≤ 8) ∧ c.text.size ≤ 65536 ∧ validL c.text.data.toList = true := by
  unfold cfgE at h
  split at h
  · rename_i hb
    unfold cfgB at hb
    simp only [Bool.and_eq_true] at hb
    obtain ⟨⟨⟨⟨⟨⟨_, _⟩, h1⟩, h2⟩, _⟩, _⟩, _⟩ := hb
    split at h
    · simp at h
    · split at h
      · rename_i h3 h4; exact ⟨inB_iff h1, inB_iff h2, by omega, h4⟩
      · simp at h
  · simp at h
theorem newS_ok {c : CfgV} (h : cfgE c = 0) : MSok (newS c) 0 := by
  obtain ⟨h1, h2, h3, h4⟩ := cfgE_ok h
  refine ⟨h3, h4, ⟨by simp [newS], List.Pairwise.nil, fun m hm => by simp [newS] at hm⟩, fun m hm => by simp [newS] at hm, Int.le_refl _, Int.le_refl _, by show c.readers.toNat ≤ 8; omega, by show (List.replicate _ _).length ≤ 8; rw [List.length_replicate]; omega, fun s hs => ?_⟩
  obtain ⟨_, rfl⟩ := List.mem_replicate.1 hs
  refine ⟨List.length_replicate .., fun x hx => ?_⟩
  obtain ⟨_, rfl⟩ := List.mem_replicate.1 hx
  exact zeroSn_ok
theorem set_getD {α : Type} [Inhabited α] (l : List α) (k : Nat) : l.set k (l.getD k default) = l := by
  apply List.ext_getElem?
  intro i
  by_cases h : k = i
  · subst h
    by_cases hk : k < l.length
    · rw [List.getElem?_set_self hk, List.getD_eq_getElem?_getD, List.getElem?_eq_getElem hk]; rfl
    · rw [List.getElem?_eq_none (by rw [List.length_set]; omega), List.getElem?_eq_none (by omega)]
  · rw [List.getElem?_set_ne h]
theorem put_self (st : MS) (c : Nat) : st.put c (st.seat c) = st := by unfold MS.put MS.seat; rw [set_getD]
theorem putSlot_self (st : MS) (c k : Nat) : st.putSlot c k ((st.seat c).slots.getD k default) = st := by unfold MS.putSlot; rw [set_getD]; exact put_self st c
structure SameT (a b : MS) : Prop where
  text : a.text = b.text
  marks : a.marks = b.marks
  number : a.number = b.number
  closed : a.closed = b.closed
theorem SameT.refl (a : MS) : SameT a a := ⟨rfl, rfl, rfl, rfl⟩
theorem SameT.trans {a b c : MS} (h : SameT a b) (k : SameT b c) : SameT a c := ⟨h.text.trans k.text, h.marks.trans k.marks, h.number.trans k.number, h.closed.trans k.closed⟩
theorem statE_of {st : MS} {c : Int} {q : OpV} (h0 : 0 ≤ c) (h1 : c < st.seats.length) (hq : opE q = 0) : statE st c q = 0 := by unfold statE; rw [if_neg (by omega)]; exact hq
end Go.Proofs.YtdeiocppghhfdaaGreat
namespace Go.Proofs.YtdeiocppghhfdaaGreat
set_option linter.unusedVariables false
set_option linter.unusedSimpArgs false
set_option maxRecDepth 100000
set_option maxHeartbeats 8000000
open Go.RowKit Go.WideShapes Go.ChangeShapes Go.Deep
def actL (a : ActV) : List Value := [.int .i64 a.client, .int .u8 a.q.kind, .int .i64 a.q.slot, .int .i64 a.q.at_, .int .i64 a.q.n, .int .u32 a.q.id, .int .u8 a.q.grav, .string a.q.text]
def actsL (l : List ActV) : List Value := l.flatMap actL
theorem actL_len (a : ActV) : (actL a).length = 8 := rfl
def cfgL (c : CfgV) : List Value := [.int .i64 c.slots, .int .u64 c.gens, .int .i64 c.clients, .int .i64 c.readers, .int .i64 c.queue, .int .i64 c.batch, .int .i64 c.feed, .string c.text]
theorem cfgL_len (c : CfgV) : (cfgL c).length = 8 := rfl
def ArgActs (w : World) (p : Option Addr) (l : List ActV) : Prop := l = [] ∨ ∃ b off, p = some ⟨b, off, none⟩ ∧ b < w.heap.size ∧ (∀ j u, (actsL l)[j]? = some u → w.cell? ⟨b, off + j, none⟩ = some u) ∧ l.length < 9223372036854775808 ∧ ∀ a ∈ l, OpIn a.q
section
variable {H : Type} {enc : TypeId × Value → H} {w : World} {base : Nat} {spare : Nat → Bool} {held : Bool}
theorem cfg_cells {fuel : Nat} {cs : List Value} {x : DataW H × List MemPlace} (h : DataW.trod enc Tryz.prog w base spare held fuel 24 cs = some x) : ∃ c : CfgV, cs = cfgL c := by
  have hlen : cs.length = 8 := by
    obtain ⟨_, _, _, _, hl, _⟩ := DataW.trod_struct Tryz.underlying24 h
    rw [hl]
    kernel_rfl
  obtain ⟨_, _, h_0⟩ := field_of Tryz.underlying24 h 0 _ rfl
  obtain ⟨z0, x0, w0⟩ := int_cell Tryz.underlying3 h_0
  obtain ⟨_, _, h_1⟩ := field_of Tryz.underlying24 h 1 _ rfl
  obtain ⟨z1, x1, w1⟩ := int_cell Tryz.underlying22 h_1
  obtain ⟨_, _, h_2⟩ := field_of Tryz.underlying24 h 2 _ rfl
  obtain ⟨z2, x2, w2⟩ := int_cell Tryz.underlying3 h_2
  obtain ⟨_, _, h_3⟩ := field_of Tryz.underlying24 h 3 _ rfl
  obtain ⟨z3, x3, w3⟩ := int_cell Tryz.underlying3 h_3
  obtain ⟨_, _, h_4⟩ := field_of Tryz.underlying24 h 4 _ rfl
  obtain ⟨z4, x4, w4⟩ := int_cell Tryz.underlying3 h_4
  obtain ⟨_, _, h_5⟩ := field_of Tryz.underlying24 h 5 _ rfl
  obtain ⟨z5, x5, w5⟩ := int_cell Tryz.underlying3 h_5
  obtain ⟨_, _, h_6⟩ := field_of Tryz.underlying24 h 6 _ rfl
  obtain ⟨z6, x6, w6⟩ := int_cell Tryz.underlying3 h_6
  obtain ⟨_, _, h_7⟩ := field_of Tryz.underlying24 h 7 _ rfl
  obtain ⟨z7, x7⟩ := str_cell Tryz.underlying9 h_7
  refine ⟨⟨z0, z1, z2, z3, z4, z5, z6, z7⟩, ?_⟩
  apply List.ext_getElem?
  intro j
  match j with
  | 0 => exact x0
  | 1 => exact x1
  | 2 => exact x2
  | 3 => exact x3
  | 4 => exact x4
  | 5 => exact x5
  | 6 => exact x6
  | 7 => exact x7
  | n + 8 => rw [List.getElem?_eq_none (by omega), List.getElem?_eq_none (by rw [cfgL_len]; omega)]
theorem open_cfg {b0 : Nat} {v : Value} {d : DataW H} {ps : List MemPlace} (hval : Value.okWide Tryz.prog w .any b0 24 v) (hd : DataW.Trod enc Tryz.prog w base spare held 24 v d ps) : ∃ c : CfgV, v = c.v := by
  obtain ⟨cs, rfl, _⟩ := okWide_struct Tryz.underlying24 hval
  obtain ⟨fuel, hf⟩ := hd
  obtain ⟨c, hc⟩ := cfg_cells hf
  have hc2 : cs.toList = cfgL c := hc
  refine ⟨c, ?_⟩
  show Value.agg cs = .agg (cfgL c).toArray
  rw [← hc2]
end
end Go.Proofs.YtdeiocppghhfdaaGreat
namespace Go.Proofs.YtdeiocppghhfdaaGreat
set_option linter.unusedVariables false
set_option linter.unusedSimpArgs false
set_option maxRecDepth 100000
set_option maxHeartbeats 8000000
open Go.RowKit Go.Lib Go.Shelf
theorem newS_st {c : CfgV} {n r : Nat} {D : List SeM} (hn : c.clients = n) (hr : c.readers = r) (hD : D.map (·.st) = List.replicate n ⟨false, List.replicate r zeroSn⟩) (sv : Value) : (⟨c.text, .slice none 0 0, [], 0, false, r, sv, D⟩ : MM).st = newS c := by
  show (⟨c.text, [], 0, false, r, D.map (·.st)⟩ : MS) = _
  rw [hD]
  unfold newS
  rw [hn, hr]
  rfl
theorem new_any (c : CfgV) (w : World) : Calls Tryz.prog 49 #[c.v] w fun e w' => (cfgE c ≠ 0 ∧ e = .returned (.tuple #[.pointer none, .int .i64 (cfgE c)]) ∧ Below w.heap.size w w') ∨
    (cfgE c = 0 ∧ ∃ b M, e = .returned (.tuple #[.pointer (some ⟨b, 0, none⟩), .int .i64 0]) ∧ MdAt w' b M ∧ M.st = newS c ∧ Below w.heap.size w w' ∧ ∀ k, M.fp b k → w.heap.size ≤ k) := by
  have hB0 := (Below.refl w.heap.size w).alloc (Nat.le_refl _) (.cells #[.int .i64 c.slots, .int .u64 c.gens, .int .i64 c.clients, .int .i64 c.readers, .int .i64 c.queue, .int .i64 c.batch, .int .i64 c.feed, .string c.text] 24)
  have hz0 := heap_alloc_new w (.cells #[.int .i64 c.slots, .int .u64 c.gens, .int .i64 c.clients, .int .i64 c.readers, .int .i64 c.queue, .int .i64 c.batch, .int .i64 c.feed, .string c.text] 24)
  have hck := fun W => storeCheck_any c W
  unfold CfgV.v at hck ⊢
  by_cases he : cfgE c = 0
  · rw [he] at hck
    have hcl : 0 ≤ c.clients ∧ c.clients ≤ 8 ∧ 0 ≤ c.readers ∧ c.readers ≤ 8 := by
      unfold cfgE at he
      split at he
      · rename_i hb
        simp [cfgB, inB] at hb
        omega
      · cases he
    obtain ⟨n, hn⟩ : ∃ n : Nat, c.clients = n := ⟨c.clients.toNat, by omega⟩
    obtain ⟨r, hr⟩ : ∃ n : Nat, c.readers = n := ⟨c.readers.toNat, by omega⟩
    have hn8 : n ≤ 8 := by omega
    have hr8 : r ≤ 8 := by omega
    refine Calls.mono (R := fun e w' => ∃ b M, e = .returned (.tuple #[.pointer (some ⟨b, 0, none⟩), .int .i64 0]) ∧ MdAt w' b M ∧ M.st = newS c ∧ Below w.heap.size w w' ∧ ∀ k, M.fp b k → w.heap.size ≤ k) ?_ (fun e w' h => .inr ⟨he, h⟩)
    clear he hcl
    rw [hn, hr] at hck hz0 hB0
    go_enter Tryz.func49, Tryz.ntmps49
    go_wp2_with (go_at_call 98; refine (hck _).mono ?_; rintro e w1 ⟨rfl, hb1⟩; have hB1 := hB0.trans (hb1.mono (by simp)); have hz1 := (hb1.block _ (by simp)).trans hz0; clear hck hz0 hb1 hB0)
    have kx : ∀ W, Below w1.heap.size w1 W → W.cell? ⟨w.heap.size, 7, none⟩ = some (.string c.text) ∧ W.cell? ⟨w.heap.size, 3, none⟩ = some (.int .i64 r) ∧ W.cell? ⟨w.heap.size, 2, none⟩ = some (.int .i64 n) := fun W hW => by
      have hz := (hW.block _ (Array.getElem?_eq_some_iff.1 hz1).1).trans hz1
      refine ⟨?_, ?_, ?_⟩ <;> simp [World.cell?, hz]
    have Kx := Lib.hid kx
    clear kx
    have hx0 := (Below.refl w1.heap.size w1).drew
    obtain ⟨V1, hmk, hs1, hg1, hbV⟩ := make_seats w1.drew n (by omega)
    have hx6 := hx0.trans hbV
    have hx8 := hx6.alloc hx6.size (.cells (mdL ⟨c.text, .slice none 0 0, [], 0, false, r, .slice (some ⟨w1.heap.size, 0, none⟩) n n, []⟩).toArray 136)
    have hs1' : V1.heap.size = w1.heap.size + 1 := hs1
    clear hs1
    refine wp_region_noPanic ?_
    refine wp_region_held_drew (S := fun W => W.cell? ⟨w.heap.size, 7, none⟩ = some (.string c.text) ∧ W.cell? ⟨w.heap.size, 3, none⟩ = some (.int .i64 r) ∧ W.cell? ⟨w.heap.size, 2, none⟩ = some (.int .i64 n)) (by kernel_rfl) ?_ (fun hHeld => ?_)
    · first | exact Kx.out _ hx8' | exact Kx.out _ hx6' | exact Kx.out _ hx0
    iterate 6 (((first | refine np_n ?_ ?_ ?_ | refine np_t 0 ?_ ?_ ?_); rotate_left 1; (· (intro w hSw; (try dsimp only at hSw); go_simp; all_goals with_reducible rfl)); (try simp only [nSO])))
    (refine np_step (i := 6) rfl (by kernel_rfl) (fun K hK => ?_); rw [if_pos (by rfl)]; go_simp; ((have hx6' := hx6)); (try go_wp2_with fail); refine hK.out _ _ ?_ (fun hHeld => ?_); (· (first | exact Kx.out _ hx8' | exact Kx.out _ hx6' | exact Kx.out _ hx0)); clear hK K; (try simp only [nSO]))
    (refine np_n ?_ ?_ ?_; rotate_left 1; (· (intro w hSw; (try dsimp only at hSw); go_simp; all_goals with_reducible rfl)); (try simp only [nSO]))
    (refine np_step (i := 8) rfl (by kernel_rfl) (fun K hK => ?_); rw [if_pos (by rfl)]; go_simp; ((have hx8' := hx8)); (try go_wp2_with fail); refine hK.out _ _ ?_ (fun hHeld => ?_); (· (first | exact Kx.out _ hx8' | exact Kx.out _ hx6' | exact Kx.out _ hx0)); clear hK K; (try simp only [nSO]))
    (refine np_n ?_ ?_ ?_; rotate_left 1; (· (intro w hSw; (try dsimp only at hSw); go_simp; all_goals with_reducible rfl)); (try simp only [nSO]))
    refine wpAnyH_done (by kernel_rfl) ?_ _
    refine NoPanic.normal ?_
    obtain ⟨M0, hM0⟩ : ∃ M0 : MM, M0 = ⟨c.text, .slice none 0 0, [], 0, false, r, .slice (some ⟨w1.heap.size, 0, none⟩) n n, []⟩ := ⟨_, rfl⟩
    have hBd : Bld w.heap.size (V1.alloc (.cells #[.string c.text, .slice none 0 0, .int .i64 0, .bool false, .int .i64 r, .slice (some ⟨w1.heap.size, 0, none⟩) n n] 136)) (w1.heap.size + 1) w1.heap.size n M0 [] := by
      subst hM0
      refine ⟨?_, rfl, ⟨rfl, .inl ⟨rfl, rfl⟩⟩, ?_, Nat.zero_le _, (fun S hS => by cases hS), (fun S hS => by cases hS), (fun S hS => by cases hS), by simp⟩
      · rw [← hs1']; exact heap_alloc_new V1 _
      · exact (heap_alloc_old _ _ (Array.getElem?_eq_some_iff.1 hg1).1).trans hg1
    have hBV : Below w.heap.size w (V1.alloc (.cells #[.string c.text, .slice none 0 0, .int .i64 0, .bool false, .int .i64 r, .slice (some ⟨w1.heap.size, 0, none⟩) n n] 136)) := hB1.trans (hx8.mono hB1.size)
    have hc3 := (Kx.out _ hx8).2.1
    have hc3' : (V1.alloc (.cells #[.string c.text, .slice none 0 0, .int .i64 0, .bool false, .int .i64 r, .slice (some ⟨w1.heap.size, 0, none⟩) n n] 136)).cell? ⟨w.heap.size, 3, none⟩ = some (.int .i64 r) := hc3
    have hwg : w.heap.size < w1.heap.size := (Array.getElem?_eq_some_iff.1 hz1).1
    clear hc3 hx0 hx6 hx8 hHeld Kx hmk hbV hg1 hz1
    generalize V1.alloc (.cells #[.string c.text, .slice none 0 0, .int .i64 0, .bool false, .int .i64 r, .slice (some ⟨w1.heap.size, 0, none⟩) n n] 136) = V at *
    have hsv : M0.sv = .slice (some ⟨w1.heap.size, 0, none⟩) n n := hBd.sv
    have c5 : ∀ W D, Bld w.heap.size W (w1.heap.size + 1) w1.heap.size n M0 D → W.cell? ⟨w1.heap.size + 1, 5, none⟩ = some (.slice (some ⟨w1.heap.size, 0, none⟩) n n) := fun W D h => by rw [← hsv]; simp [World.cell?, h.blk, mdL]
    have C5 := Lib.hid c5
    have d5 := c5 _ _ hBd
    clear c5
    go_wp2
    go_loopw [6, 26, 27, 28, 29, 30, 31, 32, 33, 34, 35, 36, 37, 38, 39] (fun x6 i x27 x28 x29 x30 x31 x32 x33 x34 x35 x36 x37 x38 x39 wr => ∃ k : Nat, i = .int .i64 k ∧ k ≤ n ∧ ∃ D : List SeM, D.length = k ∧ D.map (·.st) = List.replicate k ⟨false, List.replicate r zeroSn⟩ ∧ Bld w.heap.size wr (w1.heap.size + 1) w1.heap.size n M0 D ∧ Below w.heap.size w wr ∧ wr.cell? ⟨w.heap.size, 3, none⟩ = some (.int .i64 r)) (fun x6 i x27 x28 x29 x30 x31 x32 x33 x34 x35 x36 x37 x38 x39 wr => n - (intOf i).toNat)
    case atStart => exact ⟨0, rfl, by omega, [], rfl, rfl, hBd, hBV, hc3'⟩
    case round =>
      obtain ⟨k, rfl, hk, D, hD, hDs, hBd, hBV, hc3⟩ := hrel
      by_cases hlt : k < n
      · have hkD : D.length < n := by omega
        have e5 := C5.out _ _ hBd
        obtain ⟨V2, hmk, hs2, hg2, hb2⟩ := make_slots wr.drew r (by omega)
        have hb2' : Below wr.heap.size wr V2 := (Below.refl _ _).drew.trans hb2
        have hBd2 := hBd.below hb2'
        have hgk : (D ++ List.replicate (n - D.length) zSe)[k]? = some zSe := by
          rw [rep_split n D.length hkD, List.getElem?_append_right (by omega), ← hD, Nat.sub_self]; rfl
        obtain ⟨_, a1, af⟩ := hBd2.cell hgk
        have af1 := af (k * 2 + 1)
        have a1' : V2.cell? ⟨w1.heap.size, k * 2 + 1, none⟩ = some (.slice none 0 0) := a1
        clear a1 af
        have hs2' : V2.heap.size = wr.heap.size + 1 := hs2
        have q0 : wr.drew.cell? ⟨w1.heap.size + 1, 5, none⟩ = some (.slice (some ⟨w1.heap.size, 0, none⟩) n n) ∧ wr.drew.cell? ⟨w.heap.size, 3, none⟩ = some (.int .i64 r) := ⟨e5, hc3⟩
        have q2 : V2.cell? ⟨w1.heap.size + 1, 5, none⟩ = some (.slice (some ⟨w1.heap.size, 0, none⟩) n n) ∧ V2.cell? ⟨w.heap.size, 3, none⟩ = some (.int .i64 r) := ⟨cell_below e5 hb2', cell_below hc3 hb2'⟩
        have hk3 : KeepF (fun j => j = w1.heap.size) V2 (V2.setCell ⟨w1.heap.size, k * 2 + 1, none⟩ (.slice (some ⟨wr.heap.size, 0, none⟩) r r)) := KeepF.set (F := fun j => j = w1.heap.size) (a := ⟨w1.heap.size, k * 2 + 1, none⟩) rfl _
        have q3 := And.intro (hk3.cell (show ¬ (w1.heap.size + 1 = w1.heap.size) by omega) q2.1) (hk3.cell (show ¬ (w.heap.size = w1.heap.size) by omega) q2.2)
        have hBd3 := hBd.push (W' := V2.setCell ⟨w1.heap.size, k * 2 + 1, none⟩ (.slice (some ⟨wr.heap.size, 0, none⟩) r r)) ⟨false, .slice (some ⟨wr.heap.size, 0, none⟩) r r, List.replicate r zSn⟩ hkD (by
            have h1 := hBd2.seats
            rw [rep_split n D.length hkD] at h1
            have h2 := blk_set h1 (k * 2 + 1) (.slice (some ⟨wr.heap.size, 0, none⟩) r r)
            rw [← hD, ses_set1 D zSe _ _ (List.replicate r zSn)] at h2
            rw [← hD]
            exact h2) (fun j hj hn => (setCell_ne _ _ _ _ hn).trans (hb2'.block j hj)) (by have := hBV.size; omega)
            (own_keep (slots_own hg2 (by omega)) hBd2.seats (by decide) (fun j _ hn => setCell_ne _ _ _ _ hn)) (by simp [Value.ownBlock]) (fun x hx => by
              rw [(List.mem_replicate.1 hx).2]; exact ⟨rfl, .inl ⟨rfl, rfl⟩⟩)
        have hB3 : Below w.heap.size w (V2.setCell ⟨w1.heap.size, k * 2 + 1, none⟩ (.slice (some ⟨wr.heap.size, 0, none⟩) r r)) :=
          ⟨hk3.os.trans (hBV.trans (hb2'.mono hBV.size)).os, hk3.tape.trans (hBV.trans (hb2'.mono hBV.size)).tape, hk3.output.trans (hBV.trans (hb2'.mono hBV.size)).output, Nat.le_trans (hBV.trans (hb2'.mono hBV.size)).size hk3.size, fun j hj => (setCell_ne _ _ _ _ (show j ≠ w1.heap.size by omega)).trans ((hBV.trans (hb2'.mono hBV.size)).block j hj)⟩
        clear hs2 q2 hk3
        go_wp2
        refine wp_region_noPanic ?_
        refine wp_region_held_drew (S := fun W => W.cell? ⟨w1.heap.size + 1, 5, none⟩ = some (.slice (some ⟨w1.heap.size, 0, none⟩) n n) ∧ W.cell? ⟨w.heap.size, 3, none⟩ = some (.int .i64 r)) (by kernel_rfl) ?_ (fun hHeld => ?_)
        · first | exact q3' | exact q2' | exact q0
        iterate 7 (((first | refine np_n ?_ ?_ ?_ | refine np_t 0 ?_ ?_ ?_); rotate_left 1; (· (intro w hSw; (try dsimp only at hSw); go_simp; all_goals with_reducible rfl)); (try simp only [nSO])))
        (refine np_step (i := 7) rfl (by kernel_rfl) (fun K hK => ?_); rw [if_pos (by rfl)]; go_simp; ((have q2' := And.intro (cell_below e5 hb2') (cell_below hc3 hb2'))); (try go_wp2_with fail); refine hK.out _ _ ?_ (fun hHeld => ?_); (· (first | exact q3' | exact q2' | exact q0)); clear hK K; (try simp only [nSO]))
        iterate 2 ((refine np_n ?_ ?_ ?_; rotate_left 1; (· (intro w hSw; (try dsimp only at hSw); go_simp; all_goals with_reducible rfl)); (try simp only [nSO])))
        (refine np_step (i := 10) rfl (by kernel_rfl) (fun K hK => ?_); rw [if_pos (by rfl)]; go_simp; ((have q3' := q3)); (try go_wp2_with fail); refine hK.out _ _ ?_ (fun hHeld => ?_); (· (first | exact q3' | exact q2' | exact q0)); clear hK K; (try simp only [nSO]))
        refine wpAnyH_done (by kernel_rfl) ?_ _
        refine NoPanic.normal ?_
        go_wp2
        go_roundw
        case rel => exact ⟨k + 1, by go_num, by omega, _, by rw [List.length_append, hD]; rfl, by rw [List.map_append, hDs, List.replicate_succ']; congr 1; show [SeM.st ⟨false, _, List.replicate r zSn⟩] = _; simp [SeM.st, zSn], hBd3, hB3, q3.2⟩
        case measure => simp [intOf]; omega
      · have hkn : k = n := by omega
        go_wp2
        go_returns
        have hDn : D.length = n := by omega
        rw [hkn] at hDs
        refine ⟨_, _, rfl, hBd.mdAt hDn (by unfold maxLen; omega), ?_, hBV, ?_⟩
        · rw [hM0]; exact newS_st hn hr hDs _
        · rintro j (h | h | ⟨S, hS, h⟩)
          · omega
          · have h2 : M0.sv.ownBlock = some j := h
            rw [hsv] at h2
            injection h2 with h2
            have h3 : w1.heap.size = j := h2
            omega
          · exact (World.ownsRow.lt (hBd.slots S hS) j h).1
  · refine Calls.mono (R := fun e w' => e = .returned (.tuple #[.pointer none, .int .i64 (cfgE c)]) ∧ Below w.heap.size w w') ?_ (fun e w' h => .inl ⟨he, h⟩)
    have hd : (cfgE c == 0) = false := by simpa using he
    generalize cfgE c = E at *
    go_enter Tryz.func49, Tryz.ntmps49
    go_wp2_with (go_at_call 98; refine (hck _).mono ?_; rintro e w1 ⟨rfl, hb1⟩; have hB1 := hB0.trans (hb1.mono (by simp)))
    go_returns
    exact ⟨rfl, hB1⟩
end Go.Proofs.YtdeiocppghhfdaaGreat
namespace Go.Proofs.YtdeiocppghhfdaaGreat
set_option linter.unusedVariables false
set_option linter.unusedSimpArgs false
set_option maxRecDepth 100000
set_option maxHeartbeats 8000000
open Go.RowKit Go.Lib Go.Shelf
theorem text_any (b : Nat) (M : MM) (w : World) (h : MdAt w b M) : Calls Tryz.prog 51 #[.pointer (some ⟨b, 0, none⟩)] w fun e w' => e = .returned (.string M.text) ∧ w = w' := by
  have c0 := h.c0
  go_enter Tryz.func51, Tryz.ntmps51
  go_wp2
  go_returns
  exact ⟨rfl, rfl⟩
theorem number_any (b : Nat) (M : MM) (w : World) (h : MdAt w b M) : Calls Tryz.prog 52 #[.pointer (some ⟨b, 0, none⟩)] w fun e w' => e = .returned (.int .i64 M.number) ∧ w = w' := by
  have c0 := h.c2
  go_enter Tryz.func52, Tryz.ntmps52
  go_wp2
  go_returns
  exact ⟨rfl, rfl⟩
theorem marks_any (b : Nat) (M : MM) (w : World) (h : MdAt w b M) (hs : M.marks.length ≤ 1000) : Calls Tryz.prog 85 #[.pointer (some ⟨b, 0, none⟩)] w fun e w' => ∃ v, e = .returned v ∧ MOwn w' w.heap.size v M.marks ∧ Below w.heap.size w w' := by
  obtain ⟨am, cm, hmv⟩ := own_slice h.marks
  have h1 := h.marks
  rw [hmv] at h1
  obtain ⟨hrow, _⟩ := mrow_own rfl h1
  have c1 := h.c1 hmv
  go_enter Tryz.func85, Tryz.ntmps85
  go_wp2_with (go_at_call 132; refine (clone_any am cm M.marks _ hrow hs).mono ?_; rintro e w1 ⟨v, rfl, hov, hb1⟩)
  go_returns
  exact ⟨_, rfl, hov, hb1⟩
end Go.Proofs.YtdeiocppghhfdaaGreat
namespace Go.Proofs.YtdeiocppghhfdaaGreat
set_option linter.unusedVariables false
set_option linter.unusedSimpArgs false
set_option maxRecDepth 100000
set_option maxHeartbeats 8000000
open Go.RowKit Go.Lib Go.Shelf
theorem MdAt.fp_ty {W : World} {b k : Nat} {M : MM} (h : MdAt W b M) (hk : M.fp b k) : ∃ cs T, W.heap[k]? = some (.cells cs T (0, 0)) ∧ (T = tMd ∨ T = tSe ∨ T = tSn) := by
  rcases hk with rfl | hk | ⟨S, hS, hk⟩
  · exact ⟨_, _, h.blk, .inl rfl⟩
  · rcases h.seats.2 with ⟨e1, _⟩ | ⟨g, cap, cur, e1, hB, hg, _⟩
    · rw [e1] at hk; cases hk
    · rw [e1] at hk; injection hk with hk; subst hk; exact ⟨_, _, hg, .inr (.inl rfl)⟩
  · rcases (h.slots S hS).2 with ⟨e1, _⟩ | ⟨g, cap, cur, e1, hB, hg, _⟩
    · rw [e1] at hk; cases hk
    · rw [e1] at hk; injection hk with hk; subst hk; exact ⟨_, _, hg, .inr (.inr rfl)⟩
theorem MdAt.keep {W W' : World} {b g : Nat} {M : MM} {cs : Array Value} {T : TypeId} (h : MdAt W b M) (hk : KeepF (M.fp b) W W') (hg : W.heap[g]? = some (.cells cs T (0, 0))) (h1 : T ≠ tMd) (h2 : T ≠ tSe) (h3 : T ≠ tSn) : W'.heap[g]? = some (.cells cs T (0, 0)) := by
  refine (hk.block g (Array.getElem?_eq_some_iff.1 hg).1 fun hf => ?_).trans hg
  obtain ⟨cs', T', hg', hT⟩ := h.fp_ty hf
  rw [hg] at hg'; injection hg' with hg'; injection hg' with _ e _
  subst e
  rcases hT with e | e | e
  · exact h1 e
  · exact h2 e
  · exact h3 e
theorem MdAt.keepOwn {W W' : World} {b B s n : Nat} {M : MM} {e : TypeId} {v : Value} {xs : List Value} (h : MdAt W b M) (hk : KeepF (M.fp b) W W') (ho : W.ownsRow B e s v n xs) (h1 : e ≠ tMd) (h2 : e ≠ tSe) (h3 : e ≠ tSn) : W'.ownsRow B e s v n xs := by
  refine ⟨ho.1, ?_⟩
  rcases ho.2 with hn | ⟨g, cap, cur, rfl, hB, hg, rest⟩
  · exact .inl hn
  · exact .inr ⟨g, cap, cur, rfl, hB, h.keep hk hg h1 h2 h3, rest⟩
structure Run (w0 W : World) (b : Nat) (M : MM) : Prop where
  at_ : MdAt W b M
  own : ∀ k, M.fp b k → w0.heap.size ≤ k
  bl : Below w0.heap.size w0 W
theorem Run.on {w0 W W' : World} {b : Nat} {M : MM} (h : Run w0 W b M) (hb : Below W.heap.size W W') : Run w0 W' b M := ⟨h.at_.below hb, h.own, h.bl.trans (hb.mono h.bl.size)⟩
theorem Run.keep {w0 W W' : World} {b : Nat} {M : MM} (h : Run w0 W b M) (hk : KeepF (M.fp b) W W') : Below w0.heap.size w0 W' :=
  ⟨hk.os.trans h.bl.os, hk.tape.trans h.bl.tape, hk.output.trans h.bl.output, Nat.le_trans h.bl.size hk.size, fun k hk' => (hk.block k (by have := h.bl.size; omega) (fun hf => absurd (h.own k hf) (by omega))).trans (h.bl.block k hk')⟩
theorem MM.fits {M : MM} {K : Int} (h : MSok M.st K) : M.seats.length ≤ 8 ∧ (∀ S ∈ M.seats, S.sl.length ≤ 8) ∧ M.marks.length ≤ 64 := by
  have e : M.st.seats.length = M.seats.length := List.length_map ..
  refine ⟨by have := h.clients; omega, fun S hS => ?_, h.marks.1⟩
  have h1 := (h.slots S.st (List.mem_map_of_mem hS)).1
  have h2 : S.st.slots.length = S.sl.length := List.length_map ..
  have := h.readers
  omega
theorem do_run (b : Nat) (c : Int) (M : MM) (q : OpV) (w0 W : World) (K : Int) (h : Run w0 W b M) (hok : MSok M.st K) (hK : K ≤ 100000) (hi : OpIn q) :
    Calls Tryz.prog 50 #[.pointer (some ⟨b, 0, none⟩), .int .i64 c, .agg #[.int .u8 q.kind, .int .i64 q.slot, .int .i64 q.at_, .int .i64 q.n, .int .u32 q.id, .int .u8 q.grav, .string q.text]] W fun e W' => ∃ M', e = .returned (.agg (resL (doS M.st c q).1).toArray) ∧ Run w0 W' b M' ∧ M'.st = (doS M.st c q).2 ∧ KeepF (M.fp b) W W' ∧ MSok M'.st (K + 1) := by
  refine (do_any b c M q W h.at_ (hok.mono hK) hi).mono ?_
  rintro e W' ⟨rfl, M', hM, hst, hk, hf⟩
  refine ⟨M', rfl, ⟨hM, fun k hk => (hf k hk).elim (h.own k) (fun h' => Nat.le_trans h.bl.size h'), h.keep hk⟩, hst, hk, ?_⟩
  rw [hst]; exact doS_ok hok hi
theorem actsL_get : ∀ (l : List ActV) (k j : Nat) (a : ActV), l[k]? = some a → j < 8 → (actsL l)[k * 8 + j]? = (actL a)[j]?
  | [], k, _, _, h, _ => by simp at h
  | x :: l, 0, j, a, h, hj => by
    simp at h; subst h
    show (actL x ++ actsL l)[0 * 8 + j]? = _
    rw [List.getElem?_append_left (by rw [actL_len]; omega)]; simp
  | x :: l, k + 1, j, a, h, hj => by
    show (actL x ++ actsL l)[(k + 1) * 8 + j]? = _
    rw [List.getElem?_append_right (by rw [actL_len]; omega), actL_len, show (k + 1) * 8 + j - 8 = k * 8 + j by omega]
    exact actsL_get l k j a (by simpa using h) hj
theorem acts_at {W : World} {bl off : Nat} {l : List ActV} (h : ∀ j u, (actsL l)[j]? = some u → W.cell? ⟨bl, off + j, none⟩ = some u) {k : Nat} {a : ActV} (hk : l[k]? = some a) :
    W.cell? ⟨bl, off + k * 8, none⟩ = some (.int .i64 a.client) ∧ W.cell? ⟨bl, off + k * 8 + 1, none⟩ = some (.int .u8 a.q.kind) ∧ W.cell? ⟨bl, off + k * 8 + 2, none⟩ = some (.int .i64 a.q.slot) ∧ W.cell? ⟨bl, off + k * 8 + 3, none⟩ = some (.int .i64 a.q.at_) ∧ W.cell? ⟨bl, off + k * 8 + 4, none⟩ = some (.int .i64 a.q.n) ∧ W.cell? ⟨bl, off + k * 8 + 5, none⟩ = some (.int .u32 a.q.id) ∧ W.cell? ⟨bl, off + k * 8 + 6, none⟩ = some (.int .u8 a.q.grav) ∧ W.cell? ⟨bl, off + k * 8 + 7, none⟩ = some (.string a.q.text) := by
  have g : ∀ j, j < 8 → W.cell? ⟨bl, off + k * 8 + j, none⟩ = (actL a)[j]? := fun j hj => by
    have h1 := actsL_get l k j a hk hj
    obtain ⟨u, hu⟩ : ∃ u, (actL a)[j]? = some u := ⟨_, List.getElem?_eq_getElem (by rw [actL_len]; omega)⟩
    rw [hu] at h1 ⊢
    rw [Nat.add_assoc]
    exact h _ _ h1
  exact ⟨g 0 (by omega), g 1 (by omega), g 2 (by omega), g 3 (by omega), g 4 (by omega), g 5 (by omega), g 6 (by omega), g 7 (by omega)⟩
theorem ArgActs.on {w W : World} {p : Option Addr} {l : List ActV} (h : ArgActs w p l) (hb : Below w.heap.size w W) : ArgActs W p l := by
  rcases h with h | ⟨b, off, h1, h2, h3, h4, h5⟩
  · exact .inl h
  · exact .inr ⟨b, off, h1, Nat.lt_of_lt_of_le h2 hb.size, fun j u hj => (hb.cell (p := ⟨b, off + j, none⟩) h2).trans (h3 j u hj), h4, h5⟩
theorem ArgActs.ok {w : World} {p : Option Addr} {l : List ActV} (h : ArgActs w p l) : ∀ a ∈ l, OpIn a.q := by
  rcases h with rfl | ⟨b, off, h1, h2, h3, h4, h5⟩
  · intro a ha; cases ha
  · exact h5
theorem ArgActs.get {w : World} {p : Option Addr} {l : List ActV} (h : ArgActs w p l) {k : Nat} {a : ActV} (hk : l[k]? = some a) : ∃ bl off, p = some ⟨bl, off, none⟩ ∧ l.length < 9223372036854775808 ∧ ∀ W, Below w.heap.size w W → W.cell? ⟨bl, off + k * 8, none⟩ = some (.int .i64 a.client) ∧ W.cell? ⟨bl, off + k * 8 + 1, none⟩ = some (.int .u8 a.q.kind) ∧ W.cell? ⟨bl, off + k * 8 + 2, none⟩ = some (.int .i64 a.q.slot) ∧ W.cell? ⟨bl, off + k * 8 + 3, none⟩ = some (.int .i64 a.q.at_) ∧ W.cell? ⟨bl, off + k * 8 + 4, none⟩ = some (.int .i64 a.q.n) ∧ W.cell? ⟨bl, off + k * 8 + 5, none⟩ = some (.int .u32 a.q.id) ∧ W.cell? ⟨bl, off + k * 8 + 6, none⟩ = some (.int .u8 a.q.grav) ∧ W.cell? ⟨bl, off + k * 8 + 7, none⟩ = some (.string a.q.text) := by
  rcases h with rfl | ⟨b, off, h1, h2, h3, h4, h5⟩
  · simp at hk
  · exact ⟨b, off, h1, h4, fun W hb => acts_at (fun j u hj => (hb.cell (p := ⟨b, off + j, none⟩) h2).trans (h3 j u hj)) hk⟩
theorem blk8 {W : World} {k : Nat} {T : TypeId} {u0 u1 u2 u3 u4 u5 u6 u7 : Value} (h : W.heap[k]? = some (.cells #[u0, u1, u2, u3, u4, u5, u6, u7] T (0, 0))) : W.cell? ⟨k, 0, none⟩ = some u0 ∧ W.cell? ⟨k, 1, none⟩ = some u1 ∧ W.cell? ⟨k, 2, none⟩ = some u2 ∧ W.cell? ⟨k, 3, none⟩ = some u3 ∧ W.cell? ⟨k, 4, none⟩ = some u4 ∧ W.cell? ⟨k, 5, none⟩ = some u5 ∧ W.cell? ⟨k, 6, none⟩ = some u6 ∧ W.cell? ⟨k, 7, none⟩ = some u7 := by
  refine ⟨?_, ?_, ?_, ?_, ?_, ?_, ?_, ?_⟩ <;> simp [World.cell?, h]
theorem new_no (c : CfgV) (w : World) (hc : cfgE c ≠ 0) : Calls Tryz.prog 49 #[c.v] w fun e w' => e = .returned (.tuple #[.pointer none, .int .i64 (cfgE c)]) ∧ Below w.heap.size w w' := (new_any c w).mono fun e w' h => h.elim (fun h => ⟨h.2.1, h.2.2⟩) (fun h => absurd h.1 hc)
theorem new_ok (c : CfgV) (w0 w : World) (hc : cfgE c = 0) (hb : Below w0.heap.size w0 w) : Calls Tryz.prog 49 #[c.v] w fun e w' => ∃ b M, e = .returned (.tuple #[.pointer (some ⟨b, 0, none⟩), .int .i64 0]) ∧ Run w0 w' b M ∧ M.st = newS c ∧ Below w.heap.size w w' := (new_any c w).mono fun e w' h => h.elim (fun h => absurd hc h.1) (fun ⟨_, b, M, h1, h2, h3, h4, h5⟩ => ⟨b, M, h1, ⟨h2, fun k hk => Nat.le_trans hb.size (h5 k hk), hb.trans (h4.mono hb.size)⟩, h3, h4⟩)
end Go.Proofs.YtdeiocppghhfdaaGreat
