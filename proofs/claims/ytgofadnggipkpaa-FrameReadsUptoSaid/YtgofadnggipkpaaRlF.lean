import Derived.Test.YtgofadnggipkpaaEvE
import Derived.Test.YtgofadnggipkpaaRlE
set_option linter.unusedVariables false
set_option linter.unusedSimpArgs false
set_option linter.unusedSectionVars false
-- FrameReads: its arguments
namespace Go.Proofs.Ytgofadnggipkpaa.rf
open Go hiding Fn
open Ev tab rl
theorem pcs_of {es : List (List V)} (h : ShE [.sl [.it .u8]] es) : ∃ l : List (List Int), es = pcs l ∧ l.length ≤ sizE es ∧ ∀ b, b ∈ l → Bytes b ∧ b.length ≤ sizE es := by
  induction es with
  | nil => exact ⟨[], rfl, Nat.zero_le _, fun b hb => nomatch hb⟩
  | cons e es ih =>
    cases h with
    | cons a r =>
      obtain ⟨l, rfl, h2, h3⟩ := ih r
      obtain ⟨v, r', rfl, a1, a2, a3⟩ := a.cons'
      cases a2.nil'
      obtain ⟨es', rfl, b1, b2⟩ := slice_of a1
      obtain ⟨b, rfl, b3, b4⟩ := bytes_of b1
      have hs : sizE ([V.vs 1 (bs b)] :: pcs l) = sizL [V.vs 1 (bs b)] + sizE (pcs l) + 1 ∨ sizE ([V.vs 1 (bs b)] :: pcs l) = sizL [V.vs 1 (bs b)] + sizE (pcs l) := by
        first | exact .inl rfl | exact .inr rfl | (left; simp only [sizE]; omega)
      have a3' : sizL [V.vs 1 (bs b)] = siz (V.vs 1 (bs b)) + 0 := a3
      have b2' : siz (V.vs 1 (bs b)) = sizE (bs b) + 1 := b2
      refine ⟨b :: l, rfl, ?_, ?_⟩
      · show l.length + 1 ≤ sizE ([V.vs 1 (bs b)] :: pcs l)
        omega
      · intro x hx
        show Bytes x ∧ x.length ≤ sizE ([V.vs 1 (bs b)] :: pcs l)
        rcases List.mem_cons.1 hx with rfl | hx
        · exact ⟨b3, by omega⟩
        · have := h3 x hx
          exact ⟨this.1, by omega⟩
theorem reads_law (xs : List V) (h : ShP [(false, [.it .i64]), (false, [.bo]), (false, [.bo]), (false, [.sl [.sl [.it .u8]]])] xs) (hs : sizP xs ≤ 1048576) : ∃ L k hp', runF (callF F L k) L c5 xs h0 = .ret (.bo true) hp' := by
  obtain ⟨v, r, rfl, h1, h, e1⟩ := h.one'
  obtain ⟨w, r, rfl, h2, h, e2⟩ := h.one'
  obtain ⟨x, r, rfl, h3, h, e3⟩ := h.one'
  obtain ⟨y, r, rfl, h4, h, e4⟩ := h.one'
  cases h.nil'
  obtain ⟨most, rfl, -⟩ := int_of h1
  obtain ⟨pr, rfl⟩ := bool_of h2
  obtain ⟨sy, rfl⟩ := bool_of h3
  obtain ⟨es, rfl, h5, e5⟩ := slice_of h4
  obtain ⟨l, rfl, q1, q2⟩ := pcs_of h5
  exact law_of d5 rfl (reads_run most pr sy l (by omega) (fun b hb => ⟨(q2 b hb).1, by have := (q2 b hb).2; omega⟩))
end Go.Proofs.Ytgofadnggipkpaa.rf
