import Derived.Test.YtddohjlkjakdlaaEvE
import Derived.Test.YtddohjlkjakdlaaTok
set_option linter.unusedVariables false
set_option linter.unusedSimpArgs false
set_option linter.unusedSectionVars false
set_option linter.unusedVariables false
set_option linter.unusedSimpArgs false
-- fields as arguments
namespace Go.Proofs.Ytddohjlkjakdlaa
open Go hiding Fn
open Ev tab

theorem field_of {e : List V} (h : ShL [.st, .st] e) : ∃ f : Fld, e = fd f ∧ Txt f.1 ∧ Txt f.2 ∧ sizL e = f.1.length + f.2.length + 2 := by
  obtain ⟨v, r, rfl, h1, h, e1⟩ := h.cons'
  obtain ⟨w, r, rfl, h2, h, e2⟩ := h.cons'
  cases h.nil'
  obtain ⟨a, rfl, ha, ea⟩ := text_of h1
  obtain ⟨b, rfl, hb, eb⟩ := text_of h2
  refine ⟨(a, b), rfl, ha, hb, ?_⟩
  rw [e1, e2, ea, eb]
  simp only [sizL]; omega
theorem fields_of {es : List (List V)} (h : ShE [.st, .st] es) : ∃ l : List Fld, es = fds l ∧ (∀ f, f ∈ l → Txt f.1 ∧ Txt f.2) ∧ l.length ≤ sizE es ∧ ∀ f, f ∈ l → f.1.length ≤ sizE es ∧ f.2.length ≤ sizE es := by
  induction es with
  | nil => exact ⟨[], rfl, fun _ h => (List.not_mem_nil h).elim, Nat.zero_le _, fun _ h => (List.not_mem_nil h).elim⟩
  | cons e es ih =>
    cases h with
    | cons a r =>
      obtain ⟨f, rfl, h1, h2, h3⟩ := field_of a
      obtain ⟨l, rfl, h4, h5, h6⟩ := ih r
      refine ⟨f :: l, rfl, ?_, ?_, ?_⟩
      · intro g hg
        rcases List.mem_cons.1 hg with rfl | hg
        · exact ⟨h1, h2⟩
        · exact h4 g hg
      · simp only [sizE, List.length_cons]; omega
      · intro g hg
        simp only [sizE]
        rcases List.mem_cons.1 hg with rfl | hg
        · omega
        · have := h6 g hg; omega
end Go.Proofs.Ytddohjlkjakdlaa
