/- few of the history laws: the plain part. -/
import Derived.Test.YtjinnlmmlbmodaaHisS
namespace Go.Proofs.Ytjinnlmmlbmodaa
open Go.RowKit Go.Lib Go.Shelf

/-- A call whose delta is cut to 100 pieces. -/
def cut100 (c : CallV) : CallV := { c with ps := c.ps.take 100 }
theorem cut100_len (c : CallV) : (cut100 c).ps.length ≤ 100 := by unfold cut100; simp; omega
theorem cut100_pure (c : CallV) : (cut100 c).pure = cut100 c.pure := rfl
/-- What few returns. -/
def fewL (cs : List CallV) : List CallV := (cs.take 24).map fun c => (cut100 c).pure
theorem few_len (cs : List CallV) : (fewL cs).length ≤ 24 := by unfold fewL; simp; omega
theorem few_step {cs : List CallV} {k : Nat} {c : CallV} (h : cs[k]? = some c) (hk : k < 24) : fewL (cs.take (k + 1)) = fewL (cs.take k) ++ [(cut100 c).pure] := by
  unfold fewL
  rw [List.take_take, List.take_take, Nat.min_eq_right (by omega), Nat.min_eq_right (by omega), List.take_add_one, h, Option.toList_some, List.map_append]
  rfl
end Go.Proofs.Ytjinnlmmlbmodaa
