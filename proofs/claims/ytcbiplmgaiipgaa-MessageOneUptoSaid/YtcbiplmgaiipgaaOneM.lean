import Derived.Test.YtcbiplmgaiipgaaEvE
import Derived.Test.YtcbiplmgaiipgaaResp
set_option linter.unusedVariables false
set_option linter.unusedSimpArgs false
-- MessageOne: the plain law
namespace Go.Proofs.Ytcbiplmgaiipgaa
open Go hiding Fn
open Ev tab

theorem headGo_mem {f : Fld} (hf : ∀ h, putH h f = none) : ∀ (l : List Fld) (seen : List (List Nat)) (h : Hd), f ∈ l → headGo seen h l = none
  | [], _, _, m => (List.not_mem_nil m).elim
  | g :: r, seen, h, m => by
    simp only [headGo]
    split
    · rfl
    · rcases List.mem_cons.1 m with rfl | m
      · rw [hf]
      · cases putH h g with
        | none => rfl
        | some h' => exact headGo_mem hf r _ h' m
theorem reqF_bad {f : Fld} {l : List Fld} (hf : ∀ h, putH h f = none) (hp : fplB f = false) (m : f ∈ l) : reqF l = none := by
  unfold reqF
  rw [← List.take_append_drop (kOf l) l] at m
  rcases List.mem_append.1 m with m | m
  · rw [show headS (l.take (kOf l)) = none from headGo_mem hf _ _ _ m]
  · have : plainF (l.drop (kOf l)) = false := by
      unfold plainF
      rw [List.all_eq_false]
      exact ⟨f, m, by simp [hp]⟩
    cases headS (l.take (kOf l)) with
    | none => rfl
    | some h => simp [restB, this]
theorem resF_bad {f : Fld} {l : List Fld} (hf : f.1 ≠ sStatus) (hp : fplB f = false) (m : f ∈ l) : resF l = none := by
  cases l with
  | nil => rfl
  | cons g r =>
    unfold resF
    rcases List.mem_cons.1 m with rfl | m
    · simp [statB, hf]
    · have : plainF r = false := by
        unfold plainF
        rw [List.all_eq_false]
        exact ⟨f, m, by simp [hp]⟩
      simp [restB, this]
theorem not_both (l : List Fld) : ((reqF l).isSome && (resF l).isSome) = false := by
  cases l with
  | nil => rfl
  | cons g r =>
    by_cases h : g.1 = sStatus
    · have hk : kOf (g :: r) = kOf r + 1 := by
        have : colonB g = true := by unfold colonB; rw [h]; rfl
        simp only [kOf, List.takeWhile, this, List.length_cons]
      have : reqF (g :: r) = none := by
        unfold reqF
        rw [hk, List.take_succ_cons, show headS (g :: r.take (kOf r)) = none from headGo_mem (f := g) (fun h' => by
          unfold putH
          rw [h]
          rfl) _ _ _ List.mem_cons_self]
      rw [this]; rfl
    · have : resF (g :: r) = none := by unfold resF; simp [statB, h]
      rw [this]; simp
def greatC (c : Nat) : Bool := decide (65 ≤ c) && decide (c ≤ 90)
def greatB (s : List Nat) : Bool := s.any greatC
theorem great_low {s : List Nat} (h : greatB s = true) : lowL s ≠ s := by
  intro e
  obtain ⟨c, hc, hg⟩ := List.any_eq_true.1 h
  simp only [greatC, Bool.and_eq_true, decide_eq_true_eq] at hg
  obtain ⟨i, hi, rfl⟩ := List.mem_iff_getElem.1 hc
  have : (lowL s)[i]'(by simp [lowL]; exact hi) = s[i] := by simp only [e]
  simp only [lowL, List.getElem_map, lowC] at this
  rw [if_pos hg] at this
  omega
theorem great_ne {s t : List Nat} (h : greatB s = true) (ht : greatB t = false) : s ≠ t := by
  intro e; rw [e, ht] at h; cases h
def sConn : List Nat := [99, 111, 110, 110, 101, 99, 116, 105, 111, 110]
/-- the field that is put in -/
def badF (name : List Nat) : Fld := (if greatB name then name else sConn, [120])
theorem bad_all (name : List Nat) : (∀ h, putH h (badF name) = none) ∧ fplB (badF name) = false ∧ (badF name).1 ≠ sStatus := by
  unfold badF
  cases hg : greatB name with
  | true =>
    have e1 := great_low hg
    refine ⟨fun h => ?_, ?_, ?_⟩
    · simp only [putH, if_true]
      rw [if_neg (great_ne hg rfl), if_neg (great_ne hg rfl), if_neg (great_ne hg rfl), if_neg (great_ne hg rfl)]
    · simp [fplB, namedB, e1]
    · exact great_ne hg rfl
  | false =>
    refine ⟨fun h => ?_, ?_, ?_⟩
    · rfl
    · have : hopB sConn = true := by decide
      simp [fplB, this]
    · simp [sConn, sStatus]
def putIn (l : List Fld) (k : Nat) (f : Fld) : List Fld := l.take k ++ [f] ++ l.drop k
theorem one_none (l : List Fld) (k : Nat) (name : List Nat) : reqF (putIn l k (badF name)) = none ∧ resF (putIn l k (badF name)) = none := by
  obtain ⟨h1, h2, h3⟩ := bad_all name
  have m : badF name ∈ putIn l k (badF name) := by simp [putIn]
  exact ⟨reqF_bad h1 h2 m, resF_bad h3 h2 m⟩
end Go.Proofs.Ytcbiplmgaiipgaa
