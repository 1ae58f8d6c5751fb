import Derived.Test.YtcbiplmgaiipgaaEvE
import Derived.Test.YtcbiplmgaiipgaaAskW
import Derived.Test.YtcbiplmgaiipgaaTagsM
set_option linter.unusedVariables false
set_option linter.unusedSimpArgs false
-- MergeAsks: the plain law
namespace Go.Proofs.Ytcbiplmgaiipgaa
open Go hiding Fn
open Ev tab
theorem vals_filter {l : List Fld} {n : List Nat} (h : condB n = true) : valsF (l.filter (askP true false)) n = [] := by
  unfold valsF
  rw [List.filter_filter]
  have : (l.filter fun a => decide (a.1 = n) && askP true false a) = [] := by
    rw [List.filter_eq_nil_iff]
    intro f _
    unfold askP
    by_cases e : f.1 = n
    · rw [e, h]; simp
    · simp [e]
  rw [this]; rfl
def sRange : List Nat := [114, 97, 110, 103, 101]
def asksF (s : List Nat) (l : List Fld) : List Fld := l.filter (askP true false) ++ [(sInm, s)]
def etF (s : List Nat) : List Fld := [([97], [98]), (sEtag, s)]
theorem et_only (s : List Nat) : onlyF (etF s) sEtag = some s ∧ onlyF (etF s) sLast = none := by
  have h1 : valsF (etF s) sEtag = [s] := by simp [valsF, etF, sEtag]
  have h2 : valsF (etF s) sLast = [] := by simp [valsF, etF, sEtag, sLast]
  constructor
  · unfold onlyF allF; rw [h1]; rfl
  · unfold onlyF; rw [h2]; rfl
theorem asks_askL (s : List Nat) (l : List Fld) : askL (onlyF (etF s) sEtag) (onlyF (etF s) sLast) l = asksF s l := by
  rw [(et_only s).1, (et_only s).2]
  unfold askL asksF
  simp
theorem asks_vals (s : List Nat) (l : List Fld) : valsF (asksF s l) sInm = [s] ∧ valsF (asksF s l) sRange = [] := by
  unfold asksF
  refine ⟨?_, ?_⟩
  · rw [valsF_append, vals_filter (by decide)]; simp [valsF]
  · rw [valsF_append, vals_filter (by decide)]; simp [valsF, sInm, sRange]
theorem asks_same (w : Bool) (tag : List Nat) (l : List Fld) (ht : tagOK tag) : sameS (etF (wq w tag)) (asksF (wq w tag) l) = true := by
  obtain ⟨h1, _⟩ := asks_vals (wq w tag) l
  have hh : hasF (asksF (wq w tag) l) sInm = true := by unfold hasF; rw [h1]; rfl
  have ha : allF (asksF (wq w tag) l) sInm = wq w tag := by unfold allF; rw [h1]; rfl
  unfold sameS
  rw [hh, if_pos rfl, ha, (et_only _).1, spl_tag w tag (fun c hc => by have := tagC_ne (ht c hc); omega)]
  show (hitB _ _ || false) = true
  rw [hit_wq, Bool.or_false]; simp
theorem asks_jok {s : List Nat} {l : List Fld} (hs : s.length ≤ 100) (h1 : l.length ≤ 2000) (h2 : ∀ f, f ∈ l → f.1.length ≤ 2000 ∧ f.2.length ≤ 2000) : JOK (asksF s l) := by
  have := List.length_filter_le (askP true false) l
  refine ⟨by unfold asksF; rw [List.length_append]; simp; omega, fun f hf => ?_⟩
  unfold asksF at hf
  rcases List.mem_append.1 hf with hf | hf
  · have := h2 f (List.mem_filter.1 hf).1; omega
  · rw [List.mem_singleton] at hf; subst hf
    have : sInm.length = 13 := rfl
    exact ⟨by show sInm.length ≤ _; omega, by show s.length ≤ _; omega⟩
end Go.Proofs.Ytcbiplmgaiipgaa
