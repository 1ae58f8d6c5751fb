import Derived.Test.YtcbiplmgaiipgaaEvE
import Derived.Test.YtcbiplmgaiipgaaKeep1
set_option linter.unusedVariables false
set_option linter.unusedSimpArgs false
set_option linter.unusedSectionVars false
-- texts of bytes; the first ones made small
namespace Go.Proofs.Ytcbiplmgaiipgaa
open Go hiding Fn
open Ev tab
/-- the first ones made small -/
def lowP (ps : List (List Nat)) (i : Nat) : List (List Nat) := (ps.take i).map lowL ++ ps.drop i
theorem any_take {α : Type} {p : α → Bool} {l : List α} {i : Nat} (d : α) (h : ∀ j, j < i → p (l.getD j d) = false) (hi : i = l.length) : l.any p = false := by
  rw [List.any_eq_false]
  intro x hx
  obtain ⟨j, hj, rfl⟩ := List.mem_iff_getElem.1 hx
  have := h j (by omega)
  rw [List.getD, List.getElem?_eq_getElem hj] at this
  simpa using this
theorem any_at {α : Type} {p : α → Bool} {l : List α} {i : Nat} (d : α) (h : i < l.length) (hp : p (l.getD i d) = true) : l.any p = true := by
  rw [List.any_eq_true]
  refine ⟨l[i], List.getElem_mem h, ?_⟩
  rw [List.getD, List.getElem?_eq_getElem h] at hp
  exact hp
end Go.Proofs.Ytcbiplmgaiipgaa
