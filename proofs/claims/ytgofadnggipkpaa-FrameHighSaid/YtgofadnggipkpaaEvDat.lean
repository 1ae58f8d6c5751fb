import Derived.Test.YtgofadnggipkpaaEvArgs2
import Derived.Test.YtgofadnggipkpaaEvStep
set_option linter.unusedVariables false
namespace Ev
open Go

theorem bytes_of {es : List (List V)} (h : ShE [.it .u8] es) : ∃ l : List Int, es = bs l ∧ (∀ n, n ∈ l → 0 ≤ n ∧ n ≤ 255) ∧ sizE es = l.length := by
  induction es with
  | nil => exact ⟨[], rfl, by simp, by simp [sizE]⟩
  | cons e es ih =>
    cases h with
    | cons a r =>
      obtain ⟨l, rfl, h2, h3⟩ := ih r
      cases a with
      | cons b c =>
        cases c
        cases b with
        | it k n hw =>
          refine ⟨n :: l, rfl, ?_, ?_⟩
          · intro m hm
            rcases List.mem_cons.1 hm with rfl | hm
            · exact bounds_u8 hw
            · exact h2 m hm
          · simp only [sizE, sizL, siz, h3, List.length_cons]; omega

theorem slice_of {ts : List TD} {v : V} (h : Sh1 (.sl ts) v) : ∃ es, v = .vs ts.length es ∧ ShE ts es ∧ siz v = sizE es + 1 := by
  cases h with
  | sl ts n hn es h => subst hn; exact ⟨es, rfl, h, rfl⟩
theorem int_of {k : IntKind} {v : V} (h : Sh1 (.it k) v) : ∃ n, v = .it k n ∧ (Lit.int k n).wf = true := by
  cases h with | it k n hw => exact ⟨n, rfl, hw⟩
theorem bool_of {v : V} (h : Sh1 .bo v) : ∃ b, v = .bo b := by
  cases h with | bo b => exact ⟨b, rfl⟩
theorem text_of {v : V} (h : Sh1 .st v) : ∃ l : List Nat, v = .st l ∧ (∀ n, n ∈ l → n < 256) ∧ siz v = l.length + 1 := by
  cases h with
  | st l => exact ⟨l.map UInt8.toNat, rfl, by intro n hn; simp only [List.mem_map] at hn; obtain ⟨x, _, rfl⟩ := hn; exact x.toNat_lt, rfl⟩

theorem ShP.one' {t : TD} {ps : List Par} {xs : List V} (h : ShP ((false, [t]) :: ps) xs) : ∃ v r, xs = v :: r ∧ Sh1 t v ∧ ShP ps r ∧ sizP xs = siz v + sizP r := by
  cases h with | one a r => exact ⟨_, _, rfl, a, r, a.sizP⟩
theorem ShP.grp' {ts : List TD} {ps : List Par} {xs : List V} (h : ShP ((true, ts) :: ps) xs) : ∃ vs r, xs = .ag vs :: r ∧ ShL ts vs ∧ ShP ps r ∧ sizP xs = sizL vs + sizP r := by
  cases h with | grp a r => exact ⟨_, _, rfl, a, r, rfl⟩
theorem ShP.nil' {xs : List V} (h : ShP [] xs) : xs = [] := by cases h; rfl
theorem ShL.cons' {t : TD} {ts : List TD} {vs : List V} (h : ShL (t :: ts) vs) : ∃ v r, vs = v :: r ∧ Sh1 t v ∧ ShL ts r ∧ sizL vs = siz v + sizL r := by
  cases h with | cons a r => exact ⟨_, _, rfl, a, r, rfl⟩
theorem ShL.nil' {vs : List V} (h : ShL [] vs) : vs = [] := by cases h; rfl

/-- a law's run out of its steps -/
theorem law_of {F : Nat → Option Ev.Fn} (d : DFn) {xs : List V} (hl : Nat.beq xs.length d.ps.length = true) (h : ∃ hp, EvD F (stepD d xs h0) (Rt (.bo true) hp)) : ∃ L k hp', runF (callF F L k) L d.den xs h0 = .ret (.bo true) hp' := by
  obtain ⟨hp, h⟩ := h
  rw [stepD_eq] at h
  exact law_run (fn := d.den) hl h
end Ev
