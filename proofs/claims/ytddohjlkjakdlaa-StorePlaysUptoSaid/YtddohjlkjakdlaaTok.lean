import Derived.Test.YtddohjlkjakdlaaEvE
import Derived.Test.YtddohjlkjakdlaaTabx1
set_option linter.unusedVariables false
set_option linter.unusedSimpArgs false
set_option linter.unusedSectionVars false
set_option linter.unusedVariables false
set_option linter.unusedSimpArgs false
-- names and values
namespace Go.Proofs.Ytddohjlkjakdlaa
open Go hiding Fn
open Ev tab
attribute [local irreducible] EvD EvL EvC evGds evLs C.run sK bK gK pK fK lpB stepD

def blankB (c : Nat) : Bool := c == 32 || c == 9
def signs : List Nat := [33, 35, 36, 37, 38, 39, 42, 43, 45, 46, 94, 95, 124, 126, 96]
def signB (c : Nat) : Bool := decide (97 ≤ c ∧ c ≤ 122) || decide (65 ≤ c ∧ c ≤ 90) || decide (48 ≤ c ∧ c ≤ 57) || signs.contains c

theorem blank_ok (c : Nat) : EvP F 68 c68 [.it .u8 (Int.ofNat c)] [.bo (blankB c)] := by
  refine EvP.of d68 rfl rfl rfl (v := .bo _) (h := h0) (h' := h0) ?_ (.s (clo_bo _) (.nil _))
  refine X.fn ?_
  repeat' (first | refine X.run1 ?_ | refine X.cond rfl (fun h => ?_) (fun h => ?_) | refine X.g1 rfl (fun h => ?_) (fun h => ?_) | refine X.pick rfl (fun h => ⟨_, fun _ => rfl, ?_⟩) (fun h => ⟨_, fun _ => rfl, ?_⟩))
  all_goals
    refine X.fin (fun _ => rfl) (congrArg V.bo ?_) rfl
    rw [Bool.eq_iff_iff]
    simp [blankB, ilt_eq, ieqD] at *
    try omega

theorem idxB_pos (c : Nat) : ∀ l : List Nat, ilt (idxB c l) 0 = !(l.contains c)
  | [] => rfl
  | b :: r => by
    have ih := idxB_pos c r
    unfold idxB
    cases h : Nat.beq b c with
    | true =>
      have : b = c := Nat.eq_of_beq_eq_true h
      subst this
      simp [ilt_eq, idxB]
    | false =>
      have hne : ¬ c = b := fun e => by rw [e, Nat.beq_refl] at h; cases h
      simp only [cond_false]
      cases hi : idxB c r with
      | ofNat n =>
        have h2 : ¬ (n : Int) < 0 := by omega
        have h3 : ¬ (n : Int) + 1 < 0 := by omega
        rw [hi, ilt_eq] at ih
        simp [h2] at ih
        simp [ilt_eq, hne, h3, ih]
      | negSucc n =>
        rw [hi, ilt_eq] at ih
        have h1 : ¬ (0 : Int) ≤ Int.negSucc n := by omega
        simp [h1] at ih
        simp [ilt_eq, hne, ih]
theorem ixb115_ok (l : List Nat) (c : Nat) (hc : c < 256) : EvP F 80 c80 [.st l, .it .u8 (Int.ofNat c)] [.it .i64 (idxB c l)] := by
  refine EvP.of d80 rfl rfl rfl (v := .it .i64 _) (h := h0) (h' := h0) ?_ (.s (clo_it _ _) (.nil _))
  refine X.fn ?_
  refine X.run ?_
  refine X.fin (fun _ => rfl) (congrArg (V.it .i64) ?_) rfl
  show idxB ((Int.ofNat c).toNat % 256) l = _
  rw [show (Int.ofNat c).toNat % 256 = c from Nat.mod_eq_of_lt hc]
theorem ixb111_ok (l : List Nat) (c : Nat) (hc : c < 256) : EvP F 77 c77 [.st l, .it .u8 (Int.ofNat c)] [.it .i64 (idxB c l)] := by
  refine EvP.of d77 rfl rfl rfl (v := .it .i64 _) (h := h0) (h' := h0) ?_ (.s (clo_it _ _) (.nil _))
  refine X.fn ?_
  refine X.run ?_
  refine X.pcall (ixb115_ok l c hc) X.c rfl rfl rfl ?_
  refine X.run ?_
  exact X.fin (fun _ => rfl) rfl rfl

set_option maxHeartbeats 8000000 in
theorem sign_ok (c : Nat) (hc : c < 256) : EvP F 72 c72 [.it .u8 (Int.ofNat c)] [.bo (signB c)] := by
  refine EvP.of d72 rfl rfl rfl (v := .bo _) (h := h0) (h' := h0) ?_ (.s (clo_bo _) (.nil _))
  refine X.fn ?_
  by_cases hr : (97 ≤ c ∧ c ≤ 122) ∨ (65 ≤ c ∧ c ≤ 90) ∨ (48 ≤ c ∧ c ≤ 57)
  · have hs : signB c = true := by simp [signB]; omega
    rw [hs]
    rcases hr with h | h | h
    · refine X.run ?_
      exact X.fin (fun _ => rfl) rfl rfl
    · refine X.run ?_
      exact X.fin (fun _ => rfl) rfl rfl
    · refine X.run ?_
      exact X.fin (fun _ => rfl) rfl rfl
  · have hs : signB c = signs.contains c := by
      have h1 : ¬ (97 ≤ c ∧ c ≤ 122) := by omega
      have h2 : ¬ (65 ≤ c ∧ c ≤ 90) := by omega
      have h3 : ¬ (48 ≤ c ∧ c ≤ 57) := by omega
      simp only [signB, h1, h2, h3, decide_false, Bool.false_or]
    have hi := idxB_pos c signs
    rw [hs]
    rcases (by omega : c < 48 ∨ (58 ≤ c ∧ c < 65) ∨ (91 ≤ c ∧ c < 97) ∨ 123 ≤ c) with h | h | h | h
    · refine X.run ?_
      refine X.pcall (ixb111_ok signs c hc) X.c rfl rfl rfl ?_
      refine X.run ?_
      exact X.fin (fun _ => rfl) (congrArg V.bo (by show (!(ilt (idxB c signs) 0)) = _; rw [hi, Bool.not_not])) rfl
    · refine X.run ?_
      refine X.pcall (ixb111_ok signs c hc) X.c rfl rfl rfl ?_
      refine X.run ?_
      exact X.fin (fun _ => rfl) (congrArg V.bo (by show (!(ilt (idxB c signs) 0)) = _; rw [hi, Bool.not_not])) rfl
    · refine X.run ?_
      refine X.pcall (ixb111_ok signs c hc) X.c rfl rfl rfl ?_
      refine X.run ?_
      exact X.fin (fun _ => rfl) (congrArg V.bo (by show (!(ilt (idxB c signs) 0)) = _; rw [hi, Bool.not_not])) rfl
    · refine X.run ?_
      refine X.pcall (ixb111_ok signs c hc) X.c rfl rfl rfl ?_
      refine X.run ?_
      exact X.fin (fun _ => rfl) (congrArg V.bo (by show (!(ilt (idxB c signs) 0)) = _; rw [hi, Bool.not_not])) rfl

/-- bytes -/
def Txt (s : List Nat) : Prop := ∀ n, n ∈ s → n < 256
theorem Txt.get {s : List Nat} (h : Txt s) (i : Nat) : s.getD i 0 < 256 := by
  simp only [List.getD]
  cases e : s[i]? with
  | none => decide
  | some x => exact h x (List.mem_of_getElem? e)
theorem all_of {s : List Nat} {p : Nat → Bool} (h : ∀ j, j < s.length → p (s.getD j 0) = true) : s.all p = true := by
  rw [List.all_eq_true]
  intro x hx
  obtain ⟨i, hi, rfl⟩ := List.mem_iff_getElem.1 hx
  have := h i hi
  simpa [List.getD, hi] using this
theorem all_not {s : List Nat} {p : Nat → Bool} {j : Nat} (hj : j < s.length) (h : p (s.getD j 0) = false) : s.all p = false := by
  rw [List.all_eq_false]
  refine ⟨s[j], List.getElem_mem hj, ?_⟩
  simp [List.getD, hj] at h
  simp [h]

def tokenB (s : List Nat) : Bool := s.all signB && !s.isEmpty
def L93 : C := d65.body.lps.getD 0 .skip
set_option maxHeartbeats 8000000 in
theorem token_ok (s : List Nat) (hs : Txt s) (hl : s.length ≤ 100000000) : EvP F 65 c65 [.st s] [.bo (tokenB s)] := by
  have loop : ∀ (tm : Tm) (lo : Lo) (hp : Hp), [0, 5, 6].map (fun s => (s, tm s)) = [(0, .st s), (5, .it .i64 (Int.ofNat s.length)), (6, .it .i64 (Int.ofNat 0))] → ∃ r, EvL F [0, 5, 6] [] (lpB L93) ⟨tm, lo, hp⟩ r ∧
      ((s.all signB = true ∧ ∃ tm lo hp, r = .exit 0 ⟨tm, lo, hp⟩ ∧ tm 0 = .st s) ∨ (s.all signB = false ∧ ∃ tm lo hp, r = .ret ⟨tm, lo, hp⟩ ∧ tm 2 = .bo false)) := by
    refine fun tm lo hp hk => EvL.inv (S := Nat) (fun i => [(0, .st s), (5, .it .i64 (Int.ofNat s.length)), (6, .it .i64 (Int.ofNat i))]) (fun i _ _ => i ≤ s.length ∧ ∀ j, j < i → signB (s.getD j 0) = true) (fun i => s.length - i) _ ?_ 0 tm lo hp ⟨by omega, fun j h => by omega⟩ hk
    intro i lo hp ⟨h1, h2⟩
    by_cases h : i < s.length
    · have hc := sign_ok (s.getD i 0) (hs.get i)
      cases hb : signB (s.getD i 0) with
      | true =>
        rw [hb] at hc
        left
        iterate 3 apply Exists.intro
        refine ⟨i + 1, ?_, ?_, ⟨h, fun j hj => ?_⟩, by omega⟩
        · refine X.run ?_
          refine X.pcall (hc) X.c rfl rfl rfl ?_
          refine X.run ?_
          exact EvD.done _
        · exact X.kv
        · rcases Nat.lt_or_ge j i with q | q
          · exact h2 j q
          · rw [show j = i by omega]; exact hb
      | false =>
        rw [hb] at hc
        right
        apply EvL.endR
        · refine X.run ?_
          refine X.pcall (hc) X.c rfl rfl rfl ?_
          refine X.run ?_
          exact EvD.done _
        · exact .inr ⟨all_not h hb, _, _, _, rfl, rfl⟩
    · right
      apply EvL.endE
      · refine X.run ?_
        exact EvD.done _
      · exact .inl ⟨all_of fun j hj => h2 j (by omega), _, _, _, rfl, rfl⟩
  obtain ⟨r, hL, h | h⟩ := loop (tmOf [(0, .st s), (5, .it .i64 (Int.ofNat s.length)), (6, .it .i64 (Int.ofNat 0))]) (fun _ => none) h0 rfl
  · obtain ⟨ha, tm, lo, hp, rfl, e0⟩ := h
    have hL := hL.pe e0
    refine EvP.of d65 rfl rfl rfl (v := .bo _) (h := hp) (h' := hp) ?_ (.s (clo_bo _) (.nil _))
    refine X.fn ?_
    refine X.run ?_
    refine X.loop (hL.congr rfl rfl rfl) ?_
    refine X.run ?_
    refine X.fin (fun _ => rfl) (congrArg V.bo ?_) rfl
    show (!(beqL s [])) = _
    rw [tokenB, ha, beqLD]
    cases s <;> rfl
  · obtain ⟨ha, tm, lo, hp, rfl, e0⟩ := h
    have hL := hL.pr e0
    refine EvP.of d65 rfl rfl rfl (v := .bo _) (h := hp) (h' := hp) ?_ (.s (clo_bo _) (.nil _))
    refine X.fn ?_
    refine X.run ?_
    refine X.loop (hL.congr rfl rfl rfl) ?_
    refine X.run ?_
    refine X.fin (fun _ => rfl) (congrArg V.bo ?_) rfl
    rw [tokenB, ha]; rfl
end Go.Proofs.Ytddohjlkjakdlaa
