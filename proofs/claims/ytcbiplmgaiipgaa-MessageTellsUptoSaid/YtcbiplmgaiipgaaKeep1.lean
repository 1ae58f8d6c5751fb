import Derived.Test.YtcbiplmgaiipgaaEvE
import Derived.Test.YtcbiplmgaiipgaaSameM
import Derived.Test.YtcbiplmgaiipgaaTok2
set_option linter.unusedVariables false
set_option linter.unusedSimpArgs false
set_option linter.unusedSectionVars false
-- what the laws of layers 20 and 22 lean on: sizes; the document's own lists
namespace Go.Proofs.Ytcbiplmgaiipgaa
open Go hiding Fn
open Ev tab
attribute [local irreducible] EvD EvL EvC evGds evLs C.run sK bK gK pK fK lpB stepD

/-- fields of bytes -/
def TOK (l : List Fld) : Prop := ∀ f, f ∈ l → Txt f.1 ∧ Txt f.2
/-- fields of no wild length -/
def BOK (l : List Fld) : Prop := l.length ≤ 10000000 ∧ ∀ f, f ∈ l → f.1.length ≤ 10000000 ∧ f.2.length ≤ 10000000
theorem BOK.get {l : List Fld} (h : BOK l) (i : Nat) : (l.getD i f0).1.length ≤ 10000000 ∧ (l.getD i f0).2.length ≤ 10000000 := by
  by_cases hi : i < l.length
  · rw [List.getD, List.getElem?_eq_getElem hi]; exact h.2 _ (List.getElem_mem hi)
  · rw [List.getD, List.getElem?_eq_none (by omega)]; exact ⟨Nat.zero_le _, Nat.zero_le _⟩
theorem JOK.take {l : List Fld} (h : JOK l) (i : Nat) : JOK (l.take i) := ⟨by have := h.1; rw [List.length_take]; omega, fun f hf => h.2 f (List.mem_of_mem_take hf)⟩
def lkGo (n : Nat) : List Fld → Bool
  | [] => true
  | f :: r => if 2000 < n + f.1.length + f.2.length + 1 then false else lkGo (n + f.1.length + f.2.length + 1) r
def lkB (l : List Fld) : Bool := lkGo 0 l
def smB (e : En) : Bool := lkB e.q.fs && (lkB e.s.fs && decide (e.body.length ≤ 2000))
theorem rblank_ok (c : Nat) : EvP F 95 c95 [.it .u8 (Int.ofNat c)] [.bo (blankB c)] := by
  refine EvP.ofQ d95 rfl rfl rfl ?_
  repeat' (first | refine EvQ.run ?_ | (refine EvQ.pickB rfl rfl rfl ?_) | (refine EvQ.cond rfl (fun h => ?_) (fun h => ?_) <;> ((first | replace h := X.nm h | skip); try have hne := ne_len h)) | (refine EvQ.g1 rfl (fun h => ?_) (fun h => ?_) <;> ((first | replace h := X.nm h | skip); try have hne := ne_len h)) | (refine EvQ.pick rfl (fun _ => rfl) (fun _ => rfl) (fun h => ?_) (fun h => ?_) <;> ((first | replace h := X.nm h | skip); try have hne := ne_len h)) | refine EvQ.fin X.rs ?_ | refine EvQ.fin1 (fun _ => rfl) rfl ?_)
  all_goals
    refine PQ.bo ?_
    rw [Bool.eq_iff_iff]
    simp [blankB, ieqD] at *
    try omega
/-- what is left of a list to split: in a quoted text or not; behind its end -/
def rsT (n : Nat) (s : List Nat) (i f : Nat) (q : Bool) (acc : List (List Nat)) : Option (List (List Nat)) :=
  if i ≤ s.length then (if q = true then (match quoGo (s.drop i) i with | none => none | some j => splGo n s j f acc) else splGo n s i f acc) else (if q = true then none else some acc)
end Go.Proofs.Ytcbiplmgaiipgaa
