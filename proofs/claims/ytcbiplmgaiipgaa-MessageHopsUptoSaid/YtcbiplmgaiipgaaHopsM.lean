import Derived.Test.YtcbiplmgaiipgaaEvE
import Derived.Test.YtcbiplmgaiipgaaHops
set_option linter.unusedVariables false
set_option linter.unusedSimpArgs false
-- MessageHops: the plain law
namespace Go.Proofs.Ytcbiplmgaiipgaa
open Go hiding Fn
open Ev tab
def sixL : List (List Nat) := hops ++ [sTe]
def nmP (N : List (List Nat)) (f : Fld) : Bool := !(N.any fun n => decide (n = f.1))
theorem nmP_hop (P : List (List Nat)) (f : Fld) : nmP (sixL ++ P) f = hopP P f := by
  have e : ∀ L : List (List Nat), (L.any fun n => decide (n = f.1)) = decide (f.1 ∈ L) := fun L => by
    rw [Bool.eq_iff_iff]; simp
  unfold nmP hopP sixL hopB
  rw [e]
  rw [Bool.eq_iff_iff]
  simp [not_or, and_assoc]
theorem hops_law (l : List Fld) : l.filter (nmP (sixL ++ partsL l)) = hopL l := by
  unfold hopL
  congr 1; funext f; exact nmP_hop _ f
theorem hop_none (l : List Fld) : partsL (hopL l) = [] := by
  have h : valsF (hopL l) sConn = [] := by
    unfold valsF
    rw [List.map_eq_nil_iff, List.filter_eq_nil_iff]
    intro f hf
    have := (List.mem_filter.1 hf).2
    unfold hopP at this
    simp only [Bool.and_eq_true, Bool.not_eq_true'] at this
    intro e
    have e := of_decide_eq_true e
    rw [e] at this
    have h2 : hopB sConn = true := by decide
    rw [h2] at this
    cases this.1
  unfold partsL allF
  rw [h]; rfl
theorem hop_twice (l : List Fld) : hopL (hopL l) = hopL l := by
  show (hopL l).filter (hopP (partsL (hopL l))) = hopL l
  rw [hop_none]
  refine List.filter_eq_self.2 fun f hf => ?_
  have := (List.mem_filter.1 hf).2
  unfold hopP at this ⊢
  simp only [Bool.and_eq_true, Bool.not_eq_true'] at this ⊢
  exact ⟨this.1, this.2.1, by simp⟩
theorem hopL_jok {l : List Fld} (h : JOK l) : JOK (hopL l) := by
  have := List.length_filter_le (hopP (partsL l)) l
  exact ⟨by have := h.1; unfold hopL; omega, fun f hf => h.2 f (List.mem_filter.1 hf).1⟩
theorem hopL_tok {l : List Fld} (h : TOK l) : TOK (hopL l) := fun f hf => h f (List.mem_filter.1 hf).1
end Go.Proofs.Ytcbiplmgaiipgaa
