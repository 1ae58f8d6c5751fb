import Derived.Test.YtddohjlkjakdlaaEvE
import Derived.Test.YtddohjlkjakdlaaBnd2
set_option linter.unusedVariables false
set_option linter.unusedSimpArgs false
-- StoreBounded: its arguments read
namespace Go.Proofs.Ytddohjlkjakdlaa
open Go hiding Fn
open Ev tab
theorem shl_split : ∀ (a : List TD) {b : List TD} {vs : List V}, ShL (a ++ b) vs → ∃ v1 v2, vs = v1 ++ v2 ∧ ShL a v1 ∧ ShL b v2 ∧ sizL vs = sizL v1 + sizL v2
  | [], b, vs, h => ⟨[], vs, rfl, .nil, h, by simp [sizL]⟩
  | t :: a, b, vs, h => by
    obtain ⟨v, r, rfl, h1, h2, e⟩ := ShL.cons' (ts := a ++ b) h
    obtain ⟨v1, v2, rfl, h3, h4, e2⟩ := shl_split a h2
    exact ⟨v :: v1, v2, rfl, .cons h1 h3, h4, by simp only [sizL] at *; omega⟩
theorem ak_of {vs : List V} (h : ShL [.it .i64, .st, .st, .st, .st, .sl [.st, .st], .it .i64, .it .i64, .sl [.st, .st], .it .i64, .st, .it .i64, .it .i64, .st, .st, .st, .st, .sl [.st, .st], .it .i64, .st] vs) (hs : sizL vs ≤ 1048576) : ∃ a : Ak, vs = rowAk a ∧ AOK a := by
  obtain ⟨v, r, rfl, a1, h, e1⟩ := h.cons'
  obtain ⟨v1, r, rfl, h1, h, e2⟩ := shl_split [.st, .st, .st, .st, .sl [.st, .st], .it .i64, .it .i64, .sl [.st, .st], .it .i64, .st, .it .i64, .it .i64] (b := [.st, .st, .st, .st, .sl [.st, .st], .it .i64, .st]) h
  obtain ⟨v2, r, rfl, h2, h, e3⟩ := shl_split [.st, .st, .st, .st, .sl [.st, .st], .it .i64] (b := [.st]) h
  obtain ⟨w, r, rfl, a2, h, e4⟩ := h.cons'
  cases h.nil'
  obtain ⟨k, rfl, _⟩ := int_of a1
  obtain ⟨key, rfl, _, _⟩ := text_of a2
  obtain ⟨e, rfl, f1, f2, t1, t2, t3, t4, t5, n1, n2, n3, n4, n5⟩ := en_of h1
  obtain ⟨q, rfl, f3, _⟩ := rq_of h2
  refine ⟨⟨k, e, q, key⟩, rfl, f1.bok (by omega), f2.bok (by omega), f3.bok (by omega), f2.t, ?_, ?_, ?_⟩
  · show e.q.s.length ≤ _; omega
  · show e.q.a.length ≤ _; omega
  · show e.q.p.length ≤ _; omega
theorem aks_of {es : List (List V)} (h : ShE [.it .i64, .st, .st, .st, .st, .sl [.st, .st], .it .i64, .it .i64, .sl [.st, .st], .it .i64, .st, .it .i64, .it .i64, .st, .st, .st, .st, .sl [.st, .st], .it .i64, .st] es) (hs : sizE es ≤ 1048576) : ∃ l : List Ak, es = aks l ∧ (∀ a, a ∈ l → AOK a) ∧ l.length ≤ sizE es := by
  induction es with
  | nil => exact ⟨[], rfl, fun a h => (nomatch h), by simp [sizE]⟩
  | cons e es ih =>
    cases h with
    | cons a r =>
      have e1 : sizE (e :: es) = sizL e + sizE es + 1 ∨ sizE (e :: es) = sizL e + sizE es := by
        first | exact .inl rfl | exact .inr rfl
      obtain ⟨l, rfl, h1, h2⟩ := ih r (by omega)
      have hpos : 1 ≤ sizL e := by
        obtain ⟨v, r', rfl, b1, -, e2⟩ := ShL.cons' a
        obtain ⟨k, rfl, _⟩ := int_of b1
        simp only [sizL, siz]; omega
      obtain ⟨x, rfl, h3⟩ := ak_of a (by omega)
      exact ⟨x :: l, rfl, fun y hy => by
        rcases List.mem_cons.1 hy with rfl | hy
        · exact h3
        · exact h1 y hy, by rw [List.length_cons]; omega⟩
theorem bnd_law (xs : List V) (h : ShP [(false, [.it .i64]), (false, [.sl [.it .i64, .st, .st, .st, .st, .sl [.st, .st], .it .i64, .it .i64, .sl [.st, .st], .it .i64, .st, .it .i64, .it .i64, .st, .st, .st, .st, .sl [.st, .st], .it .i64, .st]])] xs) (hb : sizP xs ≤ 1048576) : ∃ L k hp', runF (callF F L k) L c8 xs h0 = .ret (.bo true) hp' := by
  obtain ⟨z, r, rfl, h4, h, e4⟩ := h.one'
  obtain ⟨y, r, rfl, h3, h, e3⟩ := h.one'
  cases h.nil'
  obtain ⟨es, rfl, h5, e5⟩ := slice_of h3
  obtain ⟨l, rfl, h6, e6⟩ := aks_of h5 (by omega)
  obtain ⟨c, rfl, _⟩ := int_of h4
  exact law_of d8 rfl (bnd_run c l (by omega) h6)
end Go.Proofs.Ytddohjlkjakdlaa
