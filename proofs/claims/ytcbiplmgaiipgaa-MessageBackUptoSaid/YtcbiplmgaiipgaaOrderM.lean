import Derived.Test.YtcbiplmgaiipgaaEvE
import Derived.Test.YtcbiplmgaiipgaaHelp2
set_option linter.unusedVariables false
set_option linter.unusedSimpArgs false
set_option linter.unusedSectionVars false
-- MessageOrder: the plain law
namespace Go.Proofs.Ytcbiplmgaiipgaa
open Go hiding Fn
open Ev tab
attribute [local irreducible] EvD EvL EvC evGds evLs C.run sK bK gK pK fK lpB stepD

set_option maxHeartbeats 8000000 in
/-- a request is the same as itself -/
theorem requests_ok (q : Option (Hd × List Fld × Int)) (hl : ∀ h fs n, q = some (h, fs, n) → fs.length ≤ 100000000) : EvP F 23 c23 [.ag (rowQ q), .ag (rowQ q)] [.bo true] := by
  obtain ⟨m, s, a, p, fs, n, e, hf⟩ : ∃ m s a p fs n, rowQ q = [.st m, .st s, .st a, .st p, .vs 2 (fds fs), .it .i64 n] ∧ fs.length ≤ 100000000 := by
    cases q with
    | none => exact ⟨[], [], [], [], [], 0, rfl, Nat.zero_le _⟩
    | some q =>
      obtain ⟨h, fs, n⟩ := q
      exact ⟨h.m, h.s, h.a, h.p, fs, n, rfl, hl h fs n rfl⟩
  rw [e]
  have hs := sameF_ok fs fs hf
  rw [decide_eq_true rfl] at hs
  have b1 : beqL m m = true := by rw [beqLD]; exact decide_eq_true rfl
  have b2 : beqL s s = true := by rw [beqLD]; exact decide_eq_true rfl
  have b3 : beqL a a = true := by rw [beqLD]; exact decide_eq_true rfl
  have b4 : beqL p p = true := by rw [beqLD]; exact decide_eq_true rfl
  have b5 : ieq n n = true := by rw [ieqD]; exact decide_eq_true rfl
  refine EvP.of d23 rfl rfl rfl (v := .bo _) (h := h0) (h' := h0) ?_ (.s (clo_bo _) (.nil _))
  refine X.fn ?_
  refine X.run ?_
  refine X.pcall (hs) X.c rfl rfl rfl ?_
  refine X.run ?_
  exact X.fin (fun _ => rfl) (congrArg V.bo b5) rfl

def sGet : List Nat := [71, 69, 84]
def four (a p : List Nat) : List Fld := [(sMethod, sGet), (sScheme, sHttps), (sAuth, a), (sPath, p)]
def turned (a p : List Nat) (k : Nat) : List Fld := (four a p).drop k ++ (four a p).take k
theorem head_last (seen : List (List Nat)) (h : Hd) (f : Fld) (r : List Fld) (h1 : sMethod ∈ seen) (h2 : sScheme ∈ seen) (h3 : sAuth ∈ seen) (h4 : sPath ∈ seen) : headGo seen h (f :: r) = none := by
  simp only [headGo]
  by_cases hs : f.1 ∈ seen
  · rw [if_pos (.inl hs)]
  · by_cases hv : valueB f.2 = false
    · rw [if_pos (.inr hv)]
    · have e1 : ¬ f.1 = sMethod := fun e => hs (e ▸ h1)
      have e2 : ¬ f.1 = sScheme := fun e => hs (e ▸ h2)
      have e3 : ¬ f.1 = sAuth := fun e => hs (e ▸ h3)
      have e4 : ¬ f.1 = sPath := fun e => hs (e ▸ h4)
      rw [if_neg (by simp [hs, hv])]
      simp only [putH]
      rw [if_neg e1, if_neg e2, if_neg e3, if_neg e4]
theorem vGet : valueB sGet = true := by decide
theorem vHttps : valueB sHttps = true := by decide
/-- the head of four fields in any order -/
theorem head_four (a p : List Nat) (k : Nat) (hk : k ≤ 3) (r : List Fld) : headS (turned a p k ++ r) = if valueB a = true ∧ valueB p = true ∧ r = [] then some ⟨sGet, sHttps, a, p⟩ else none := by
  have d1 : (sScheme = sMethod) = False := by simp [sScheme, sMethod]
  have d2 : (sAuth = sMethod) = False := by simp [sAuth, sMethod]
  have d3 : (sAuth = sScheme) = False := by simp [sAuth, sScheme]
  have d4 : (sPath = sMethod) = False := by simp [sPath, sMethod]
  have d5 : (sPath = sScheme) = False := by simp [sPath, sScheme]
  have d6 : (sPath = sAuth) = False := by simp [sPath, sAuth]
  have c1 : (sMethod = sScheme) = False := by simp [sScheme, sMethod]
  have c2 : (sMethod = sAuth) = False := by simp [sAuth, sMethod]
  have c3 : (sScheme = sAuth) = False := by simp [sAuth, sScheme]
  have c4 : (sMethod = sPath) = False := by simp [sPath, sMethod]
  have c5 : (sScheme = sPath) = False := by simp [sPath, sScheme]
  have c6 : (sAuth = sPath) = False := by simp [sPath, sAuth]
  have hz : k = 0 ∨ k = 1 ∨ k = 2 ∨ k = 3 := by omega
  cases ha : valueB a <;> cases hp : valueB p <;> rcases hz with rfl | rfl | rfl | rfl <;> cases r with
  | nil => simp [headS, turned, four, headGo, putH, vGet, vHttps, ha, hp, d1, d2, d3, d4, d5, d6, c1, c2, c3, c4, c5, c6, hd0]
  | cons f r =>
    simp [headS, turned, four, headGo.eq_2 _ _ (sMethod, _), headGo.eq_2 _ _ (sScheme, _), headGo.eq_2 _ _ (sAuth, _), headGo.eq_2 _ _ (sPath, _), putH, vGet, vHttps, ha, hp, d1, d2, d3, d4, d5, d6, c1, c2, c3, c4, c5, c6, hd0]
    try exact head_last _ _ _ _ (by simp) (by simp) (by simp) (by simp)

theorem kOf_append {a b : List Fld} (h : a.all colonB = true) : kOf (a ++ b) = a.length + kOf b := by
  induction a with
  | nil => simp
  | cons f a ih =>
    simp only [List.all_cons, Bool.and_eq_true] at h
    have e : kOf (f :: (a ++ b)) = kOf (a ++ b) + 1 := by simp only [kOf, List.takeWhile, h.1, List.length_cons]
    rw [List.cons_append, e, ih h.2, List.length_cons]; omega
theorem turned_colon (a p : List Nat) (k : Nat) : (turned a p k).all colonB = true := by
  have h : (four a p).all colonB = true := rfl
  rw [List.all_eq_true] at h ⊢
  intro x hx
  rcases List.mem_append.1 hx with q | q
  · exact h x (List.mem_of_mem_drop q)
  · exact h x (List.mem_of_mem_take q)
theorem turned_length (a p : List Nat) (k : Nat) (hk : k ≤ 3) : (turned a p k).length = 4 := by simp [turned, four]; omega
/-- what four fields in any order, and others behind them, tell -/
theorem reqF_turned (a p : List Nat) (k : Nat) (hk : k ≤ 3) (more : List Fld) : reqF (turned a p k ++ more) =
    (if valueB a = true ∧ valueB p = true ∧ more.take (kOf more) = [] then (if rightB ⟨sGet, sHttps, a, p⟩ && restB (more.drop (kOf more)) then some (⟨sGet, sHttps, a, p⟩, restL (more.drop (kOf more)), restN (more.drop (kOf more))) else none) else none) := by
  have e1 := kOf_append (b := more) (turned_colon a p k)
  have e2 := turned_length a p k hk
  have e3 : (turned a p k ++ more).take (kOf (turned a p k ++ more)) = turned a p k ++ more.take (kOf more) := by
    rw [e1, List.take_length_add_append]
  have e4 : (turned a p k ++ more).drop (kOf (turned a p k ++ more)) = more.drop (kOf more) := by
    rw [e1, List.drop_length_add_append]
  unfold reqF
  rw [e3, e4, head_four a p k hk]
  split
  · rename_i h
    split at h
    · cases h
    · rename_i hc; rw [if_neg hc]
  · rename_i h' h
    split at h
    · rename_i hc
      cases h
      rw [if_pos hc]
    · cases h
theorem reqF_behind (f : Fld) (l : List Fld) (h : colonB f = false) : reqF (f :: l) = none := by
  have e : kOf (f :: l) = 0 := by simp [kOf, List.takeWhile, h]
  unfold reqF
  rw [e, List.take_zero]
  show (if rightB hd0 && _ then _ else none) = none
  have : rightB hd0 = false := rfl
  rw [this]; rfl
end Go.Proofs.Ytcbiplmgaiipgaa
