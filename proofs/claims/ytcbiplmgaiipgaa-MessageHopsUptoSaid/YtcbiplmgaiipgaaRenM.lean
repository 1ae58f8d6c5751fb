import Derived.Test.YtcbiplmgaiipgaaEvE
import Derived.Test.YtcbiplmgaiipgaaAskM
set_option linter.unusedVariables false
set_option linter.unusedSimpArgs false
-- renewed entries: the plain law
namespace Go.Proofs.Ytcbiplmgaiipgaa
open Go hiding Fn
open Ev tab
def sAge : List Nat := [97, 103, 101]
def renP (s : List Fld) (f : Fld) : Bool := (contB f.1 || !hasF s f.1) && (hasF s sAge || !decide (f.1 = sAge))
def renQ (f : Fld) : Bool := !contB f.1
def renL (l s : List Fld) : List Fld := l.filter (renP s) ++ s.filter renQ
def renE (e : En) (s : Rs) (a c : Int) : En := { e with s := { e.s with fs := renL e.s.fs s.fs }, asked := a, came := c }
theorem hasF_mem {s : List Fld} {f : Fld} (h : f ∈ s) : hasF s f.1 = true := by
  unfold hasF valsF
  refine decide_eq_true ?_
  rw [List.length_map]
  exact List.length_pos_of_mem (List.mem_filter.2 ⟨h, by simp⟩)
theorem hasF_none {s : List Fld} {n : List Nat} (h : hasF s n = false) {f : Fld} (hf : f ∈ s) : f.1 ≠ n := by
  intro e
  subst e
  rw [hasF_mem hf] at h; cases h
theorem ren_twice (l s : List Fld) : renL (renL l s) s = renL l s := by
  unfold renL
  rw [List.filter_append, List.filter_filter, List.filter_filter]
  have h1 : (s.filter fun a => renP s a && renQ a) = [] := by
    rw [List.filter_eq_nil_iff]
    intro f hf
    unfold renP renQ
    rw [hasF_mem hf]
    cases contB f.1 <;> simp
  have h2 : (l.filter fun a => renP s a && renP s a) = l.filter (renP s) := by
    congr 1; funext a; rw [Bool.and_self]
  rw [h1, h2, List.append_nil]
theorem ren_nil (l : List Fld) : renL l [] = l.filter fun f => !decide (f.1 = sAge) := by
  unfold renL
  rw [List.filter_nil, List.append_nil]
  congr 1; funext a
  unfold renP
  have : ∀ n, hasF [] n = false := fun n => rfl
  rw [this, this]; simp
/-- the document's own -/
def mrgP (s : List Fld) (f : Fld) : Bool := contB f.1 || !hasF s f.1
theorem mrg_eq (l s : List Fld) : renL l s = if hasF s sAge then l.filter (mrgP s) ++ s.filter renQ else (l.filter (mrgP s) ++ s.filter renQ).filter (fun f => !decide (f.1 = sAge)) := by
  unfold renL
  cases h : hasF s sAge with
  | true =>
    rw [if_pos rfl]
    congr 2; funext a
    unfold renP mrgP
    rw [h]; simp
  | false =>
    rw [if_neg (by simp), List.filter_append, List.filter_filter, List.filter_filter]
    congr 1
    · congr 1; funext a
      unfold renP mrgP
      rw [h, Bool.false_or, Bool.and_comm]
    · refine List.filter_congr fun f hf => ?_
      have := hasF_none h hf
      simp [this]
theorem renL_len (l s : List Fld) : (renL l s).length ≤ l.length + s.length := by
  unfold renL
  rw [List.length_append]
  have := List.length_filter_le (renP s) l
  have := List.length_filter_le renQ s
  omega
theorem renL_mem {l s : List Fld} {f : Fld} (h : f ∈ renL l s) : f ∈ l ∨ f ∈ s := by
  unfold renL at h
  rcases List.mem_append.1 h with h | h
  · exact .inl (List.mem_filter.1 h).1
  · exact .inr (List.mem_filter.1 h).1
theorem renL_bok {l s : List Fld} (hl : JOK l) (hs : JOK s) : BOK (renL l s) := by
  have := renL_len l s
  refine ⟨by have := hl.1; have := hs.1; omega, fun f hf => ?_⟩
  rcases renL_mem hf with h | h
  · exact hl.bok.2 f h
  · exact hs.bok.2 f h
theorem renL_all {l s : List Fld} (hl : JOK l) (hs : JOK s) (i : Nat) (n : List Nat) : (allF ((renL l s).take i) n).length ≤ 1000000000 := by
  have h1 := joinL_len 3100 (valsF ((renL l s).take i) n) (fun t ht => by
    simp only [valsF, List.mem_map, List.mem_filter] at ht
    obtain ⟨f, ⟨hf, _⟩, rfl⟩ := ht
    rcases renL_mem (List.mem_of_mem_take hf) with h | h
    · exact (hl.2 f h).2
    · exact (hs.2 f h).2)
  have h2 := valsF_len ((renL l s).take i) n
  have h3 := renL_len l s
  rw [List.length_take] at h2
  have : (valsF ((renL l s).take i) n).length * (3100 + 2) ≤ 6200 * 3102 := Nat.mul_le_mul (by have := hl.1; have := hs.1; omega) (by omega)
  unfold allF
  omega
end Go.Proofs.Ytcbiplmgaiipgaa
