import Derived.Test.YtcbiplmgaiipgaaEvE
import Derived.Test.YtcbiplmgaiipgaaKeep1
import Derived.Test.YtcbiplmgaiipgaaFlds
set_option linter.unusedVariables false
set_option linter.unusedSimpArgs false
set_option linter.unusedSectionVars false
-- fields, requests, responses, entries as arguments
namespace Go.Proofs.Ytcbiplmgaiipgaa
open Go hiding Fn
open Ev tab
attribute [local irreducible] EvD EvL EvC evGds evLs C.run sK bK gK pK fK lpB stepD

/-- how much fields may hold -/
structure FB (l : List Fld) (m : Nat) : Prop where
  t : TOK l
  n : l.length ≤ m
  s : ∀ f, f ∈ l → f.1.length ≤ m ∧ f.2.length ≤ m
theorem fb_of {v : V} (h : Sh1 (.sl [.st, .st]) v) : ∃ l, v = .vs 2 (fds l) ∧ FB l (siz v) := by
  obtain ⟨es, rfl, he, ze⟩ := slice_of h
  obtain ⟨l, rfl, tm, lm, lq⟩ := fields_of he
  refine ⟨l, rfl, tm, by omega, fun f hf => by have := lq f hf; omega⟩
end Go.Proofs.Ytcbiplmgaiipgaa
