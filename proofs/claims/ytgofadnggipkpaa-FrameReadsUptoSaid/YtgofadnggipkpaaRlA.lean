import Derived.Test.YtgofadnggipkpaaEvE
import Derived.Test.YtgofadnggipkpaaRfD
set_option linter.unusedVariables false
set_option linter.unusedSimpArgs false
set_option linter.unusedSectionVars false
-- FrameReads: the loop (EvHp EvOwn)
namespace Go.Proofs.Ytgofadnggipkpaa.rl
open Go hiding Fn
open Ev tab
def frs (l : List Frm) : List (List V) := l.map fun f => fr f.1 f.2.1 f.2.2.1 f.2.2.2
def frsz : List Frm → Nat
  | [] => 0
  | f :: r => f.2.2.2.length + 12 + frsz r
end Go.Proofs.Ytgofadnggipkpaa.rl
namespace Go.Proofs.Ytgofadnggipkpaa.rf
open Go hiding Fn
open Ev tab rl
attribute [local irreducible] EvP EvD EvL EvC evGds evLs C.run sK bK gK pK fK lpB stepD
/-- texts of bytes, as a slice's elements -/
def PcV (hp : Hp) (pv : V) (l : List (List Int)) : Prop := ∃ rows, Rd hp pv 1 rows ∧ rows.length = l.length ∧ ∀ i, i < l.length → ∃ v, rows.getD i [] = [v] ∧ By hp v (l.getD i [])
theorem Rd.ex {hp hp' : Hp} {v : V} {sz Q : Nat} {rows : List (List V)} (h : Rd hp v sz rows) (e : Ex hp hp' Q) (hQ : ∀ b, hget hp Q = some b → b.sz ≠ sz) : Rd hp' v sz rows := by
  rcases h with h | h | ⟨id, i, fr, all, rfl, q1, q2, q3, q4⟩
  · exact .inl h
  · exact .inr (.inl h)
  · exact .inr (.inr ⟨id, i, fr, all, rfl, Nat.lt_of_lt_of_le q1 e.next, e.get id _ (fun e2 => by subst e2; exact hQ _ q2 rfl) q2, q3, q4⟩)
theorem PcV.ex {hp hp' : Hp} {pv : V} {l : List (List Int)} {Q : Nat} (h : PcV hp pv l) (e : Ex hp hp' Q) (hQ : ∀ b, hget hp Q = some b → b.sz ≠ 1) : PcV hp' pv l := by
  obtain ⟨rows, h1, h2, h3⟩ := h
  refine ⟨rows, Rd.ex h1 e hQ, h2, fun i hi => ?_⟩
  obtain ⟨v, a, b⟩ := h3 i hi
  exact ⟨v, a, b.mono e hQ⟩
theorem PcV.ez {hp hp' : Hp} {pv : V} {l : List (List Int)} (h : PcV hp pv l) (z : Ez hp hp') : PcV hp' pv l := by
  obtain ⟨rows, h1, h2, h3⟩ := h
  refine ⟨rows, ?_, h2, fun i hi => ?_⟩
  · rcases h1 with h | h | ⟨id, i, fr, all, rfl, q1, q2, q3, q4⟩
    · exact .inl h
    · exact .inr (.inl h)
    · obtain ⟨f, e, _⟩ := z.get _ _ q2
      exact .inr (.inr ⟨id, i, f, all, rfl, by rw [z.next]; exact q1, e, q3, q4⟩)
  · obtain ⟨v, a, b⟩ := h3 i hi
    exact ⟨v, a, b.mono1 z.to1⟩
end Go.Proofs.Ytgofadnggipkpaa.rf
