import Derived.Test.YtddohjlkjakdlaaEvE
import Derived.Test.YtddohjlkjakdlaaSplit
import Derived.Test.YtddohjlkjakdlaaAll
set_option linter.unusedVariables false
set_option linter.unusedSimpArgs false
set_option linter.unusedSectionVars false
set_option linter.unusedVariables false
set_option linter.unusedSimpArgs false
-- would an entry answer a request's conditions?
namespace Go.Proofs.Ytddohjlkjakdlaa
open Go hiding Fn
open Ev tab
attribute [local irreducible] EvD EvL EvC evGds evLs C.run sK bK gK pK fK lpB stepD

def hasF (l : List Fld) (n : List Nat) : Bool := decide (0 < (valsF l n).length)
/-- requests, responses, entries -/
structure Rq where
  m : List Nat
  s : List Nat
  a : List Nat
  p : List Nat
  fs : List Fld
  n : Int
structure Rs where
  k : Int
  fs : List Fld
  n : Int
structure En where
  q : Rq
  s : Rs
  body : List Nat
  asked : Int
  came : Int
def rowRq (q : Rq) : List V := [.st q.m, .st q.s, .st q.a, .st q.p, .vs 2 (fds q.fs), .it .i64 q.n]
def rowEn (e : En) : List V := [.st e.q.m, .st e.q.s, .st e.q.a, .st e.q.p, .vs 2 (fds e.q.fs), .it .i64 e.q.n, .it .i64 e.s.k, .vs 2 (fds e.s.fs), .it .i64 e.s.n, .st e.body, .it .i64 e.asked, .it .i64 e.came]
theorem rowRq_clo (q : Rq) : CloL [.one, .one, .one, .one, .sl [.one, .one], .one] (rowRq q) := .cons (clo_st _) (.cons (clo_st _) (.cons (clo_st _) (.cons (clo_st _) (.cons (clo_vs [.one, .one] _) (.cons (clo_it _ _) .nil)))))
theorem rowEn_clo (e : En) : CloL [.one, .one, .one, .one, .sl [.one, .one], .one, .one, .sl [.one, .one], .one, .one, .one, .one] (rowEn e) := .cons (clo_st _) (.cons (clo_st _) (.cons (clo_st _) (.cons (clo_st _) (.cons (clo_vs [.one, .one] _) (.cons (clo_it _ _) (.cons (clo_it _ _) (.cons (clo_vs [.one, .one] _) (.cons (clo_it _ _) (.cons (clo_st _) (.cons (clo_it _ _) (.cons (clo_it _ _) .nil)))))))))))

theorem putS_le {acc : List (List Nat)} {t : List Nat} {k : Nat} (h : ∀ x, x ∈ acc → x.length ≤ k) (ht : t.length ≤ k) : ∀ x, x ∈ putS acc t → x.length ≤ k := by
  intro x hx
  unfold putS at hx
  split at hx
  · exact h x hx
  · rcases List.mem_append.1 hx with q | q
    · exact h x q
    · rw [List.mem_singleton] at q; subst q
      have h1 : (t.dropWhile blankB).length ≤ t.length := (List.dropWhile_sublist _).length_le
      have h2 : (trimS t).length ≤ (t.dropWhile blankB).length := by
        unfold trimS trimR
        rw [List.length_reverse]
        have := (List.dropWhile_sublist (p := blankB) (l := (t.dropWhile blankB).reverse)).length_le
        rw [List.length_reverse] at this
        exact this
      omega
theorem splGo_le (s : List Nat) : ∀ (n i f : Nat) (acc r : List (List Nat)), (∀ x, x ∈ acc → x.length ≤ s.length) → splGo n s i f acc = some r → ∀ x, x ∈ r → x.length ≤ s.length
  | 0, _, _, _, _, _, h => by simp [splGo] at h
  | n + 1, i, f, acc, r, ha, h => by
    have ht : ∀ k, ((s.drop f).take k).length ≤ s.length := fun k => by rw [List.length_take, List.length_drop]; omega
    unfold splGo at h
    split at h
    · split at h
      · exact splGo_le s n _ _ _ r (putS_le ha (ht _)) h
      · split at h
        · split at h
          · cases h
          · exact splGo_le s n _ _ _ r ha h
        · exact splGo_le s n _ _ _ r ha h
    · cases h; exact putS_le ha (ht _)
theorem splS_le (s : List Nat) : ∀ x, x ∈ (splS s).getD [] → x.length ≤ s.length := by
  cases h : splS s with
  | none => intro x hx; exact absurd hx List.not_mem_nil
  | some r => exact splGo_le s _ _ _ _ r (fun x hx => absurd hx List.not_mem_nil) h
theorem splGo_len (s : List Nat) : ∀ (n i f : Nat) (acc r : List (List Nat)), splGo n s i f acc = some r → r.length ≤ acc.length + n
  | 0, _, _, _, _, h => by simp [splGo] at h
  | n + 1, i, f, acc, r, h => by
    unfold splGo at h
    split at h
    · split at h
      · have := splGo_len s n _ _ _ r h
        have := putS_len acc ((s.drop f).take (i - f)); omega
      · split at h
        · split at h
          · cases h
          · have := splGo_len s n _ _ _ r h; omega
        · have := splGo_len s n _ _ _ r h; omega
    · cases h
      have := putS_len acc ((s.drop f).take (s.length - f)); omega
theorem splS_len (s : List Nat) : ((splS s).getD []).length ≤ s.length + 1 := by
  cases h : splS s with
  | none => exact Nat.zero_le _
  | some r => have := splGo_len s _ _ _ _ r h; simpa using this
end Go.Proofs.Ytddohjlkjakdlaa
