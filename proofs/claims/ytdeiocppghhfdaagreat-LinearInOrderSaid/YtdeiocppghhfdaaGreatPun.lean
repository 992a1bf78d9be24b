/- The texts MdCe. -/
import Derived.Test.YtdeiocppghhfdaaGreatPue
namespace Go.Proofs.YtdeiocppghhfdaaGreat
set_option linter.unusedVariables false
set_option linter.unusedSimpArgs false
set_option maxRecDepth 100000
set_option maxHeartbeats 8000000
open Go.RowKit Go.Lib Go.Shelf
attribute [local go_sem, local simp] resF resL_len resL_ne
theorem mrow_cells {W : World} {a : Option Addr} {l : List MkV} (h : MRow W a l) {k : Nat} {m : MkV} (hk : l[k]? = some m) : ∃ b off, a = some ⟨b, off, none⟩ ∧ W.cell? ⟨b, off + k * 3, none⟩ = some (.int .u32 m.id) ∧ W.cell? ⟨b, off + k * 3 + 1, none⟩ = some (.int .i64 m.at_) ∧ W.cell? ⟨b, off + k * 3 + 2, none⟩ = some (.int .u8 m.grav) := by
  rcases h with ⟨_, rfl⟩ | ⟨b, off, h1, h2, h3⟩
  · simp at hk
  · refine ⟨b, off, h1, ?_, ?_, ?_⟩
    · have := h3 k m hk 0 _ rfl; simpa using this
    · have := h3 k m hk 1 _ rfl; rw [Nat.add_assoc]; exact this
    · have := h3 k m hk 2 _ rfl; rw [Nat.add_assoc]; exact this
end Go.Proofs.YtdeiocppghhfdaaGreat
