import Derived.Test.YtgofadnggipkpaaEvE
import Derived.Test.YtgofadnggipkpaaFeed3
set_option linter.unusedVariables false
set_option linter.unusedSimpArgs false
namespace Go.Proofs.Ytgofadnggipkpaa
open Go hiding Fn
open Ev tab

theorem get_append_left {a b : List Int} {j : Nat} (h : j < a.length) : (a ++ b)[j]?.getD 0 = a[j]?.getD 0 := by rw [List.getElem?_append_left h]
theorem nOf_append {a b : List Int} (h : 9 ≤ a.length) : nOf (a ++ b) = nOf a := by
  unfold nOf
  rw [get_append_left (by omega), get_append_left (by omega), get_append_left (by omega)]
theorem sOf_append {a b : List Int} (h : 9 ≤ a.length) : sOf (a ++ b) = sOf a := by
  unfold sOf
  rw [get_append_left (by omega), get_append_left (by omega), get_append_left (by omega), get_append_left (by omega)]

/-- fuel enough is fuel enough -/
theorem feedM_fuel (most : Int) : ∀ (n m : Nat) (b : List Int), b.length < n → b.length < m → Bytes b → feedM most n b = feedM most m b := by
  intro n
  induction n with
  | zero => intro m b h; omega
  | succ n ih =>
    intro m b hn hm hb
    cases m with
    | zero => omega
    | succ m =>
      unfold feedM
      have h0 := hb.get 0
      have h1 := hb.get 1
      have h2 := hb.get 2
      have hp : 0 ≤ nOf b := by unfold nOf; omega
      by_cases c1 : b.length < 9
      · simp [c1]
      by_cases c2 : most < nOf b
      · simp [c1, c2]
      by_cases c3 : (b.length : Int) < 9 + nOf b
      · simp [c1, c2, c3]
      simp only [c1, c2, c3, if_false]
      rw [ih m (b.drop (9 + (nOf b).toNat)) (by simp; omega) (by simp; omega) (hb.drop _)]

/-- what is left is an end of what came, or nothing -/
theorem feedM_rest (most : Int) : ∀ (n : Nat) (b : List Int), (feedM most n b).2.1 = [] ∨ ∃ k, (feedM most n b).2.1 = b.drop k := by
  intro n
  induction n with
  | zero => intro b; exact .inr ⟨0, by simp [feedM]⟩
  | succ n ih =>
    intro b
    by_cases c1 : b.length < 9
    · exact .inr ⟨0, by simp [feedM, c1]⟩
    by_cases c2 : most < nOf b
    · exact .inl (by simp [feedM, c1, c2])
    by_cases c3 : (b.length : Int) < 9 + nOf b
    · exact .inr ⟨0, by simp [feedM, c1, c2, c3]⟩
    have e : (feedM most (n + 1) b).2.1 = (feedM most n (b.drop (9 + (nOf b).toNat))).2.1 := by simp [feedM, c1, c2, c3]
    rw [e]
    rcases ih (b.drop (9 + (nOf b).toNat)) with h | ⟨k, h⟩
    · exact .inl h
    · exact .inr ⟨9 + (nOf b).toNat + k, by rw [h, List.drop_drop]⟩
theorem feedM_rest_len (most : Int) (n : Nat) (b : List Int) : (feedM most n b).2.1.length ≤ b.length := by
  rcases feedM_rest most n b with h | ⟨k, h⟩
  · rw [h]; simp
  · rw [h]; simp
theorem feedM_rest_bytes (most : Int) (n : Nat) {b : List Int} (hb : Bytes b) : Bytes (feedM most n b).2.1 := by
  rcases feedM_rest most n b with h | ⟨k, h⟩
  · rw [h]; intro x hx; cases hx
  · rw [h]; exact hb.drop k

/-- what is told of two pieces is what is told of them together -/
theorem feedM_append (most : Int) : ∀ (n : Nat) (a b : List Int), (a ++ b).length < n → Bytes (a ++ b) →
    feedM most n (a ++ b) = if (feedM most n a).2.2 then ((feedM most n a).1, [], true) else
      ((feedM most n a).1 ++ (feedM most n ((feedM most n a).2.1 ++ b)).1, (feedM most n ((feedM most n a).2.1 ++ b)).2) := by
  intro n
  induction n with
  | zero => intro a b h; omega
  | succ n ih =>
    intro a b hn hb
    have ha : Bytes a := fun x hx => hb x (List.mem_append_left _ hx)
    have h0 := ha.get 0
    have h1 := ha.get 1
    have h2 := ha.get 2
    have hp : 0 ≤ nOf a := by unfold nOf; omega
    by_cases c1 : a.length < 9
    · have e : feedM most (n + 1) a = ([], a, false) := by simp [feedM, c1]
      rw [e]; simp
    have c1 : 9 ≤ a.length := by omega
    have hl : (a ++ b).length = a.length + b.length := by simp
    by_cases c2 : most < nOf a
    · have e : feedM most (n + 1) a = ([], [], true) := by simp [feedM, c2]; omega
      have e' : feedM most (n + 1) (a ++ b) = ([], [], true) := by
        unfold feedM; rw [nOf_append c1, if_neg (by omega), if_pos c2]
      rw [e, e']; simp
    by_cases c3 : (a.length : Int) < 9 + nOf a
    · have e : feedM most (n + 1) a = ([], a, false) := by
        unfold feedM; rw [if_neg (by omega), if_neg c2, if_pos c3]
      rw [e]; simp
    · have k : 9 + (nOf a).toNat ≤ a.length := by omega
      have e : feedM most (n + 1) a = ((a[3]?.getD 0, a[4]?.getD 0, sOf a, (a.drop 9).take (nOf a).toNat) :: (feedM most n (a.drop (9 + (nOf a).toNat))).1, (feedM most n (a.drop (9 + (nOf a).toNat))).2) := by
        conv => lhs; unfold feedM
        rw [if_neg (by omega), if_neg c2, if_neg c3]
      have e' : feedM most (n + 1) (a ++ b) = ((a[3]?.getD 0, a[4]?.getD 0, sOf a, (a.drop 9).take (nOf a).toNat) :: (feedM most n (a.drop (9 + (nOf a).toNat) ++ b)).1, (feedM most n (a.drop (9 + (nOf a).toNat) ++ b)).2) := by
        conv => lhs; unfold feedM
        rw [nOf_append c1, sOf_append c1, if_neg (by omega), if_neg c2, if_neg (by omega), get_append_left (by omega), get_append_left (by omega)]
        rw [List.drop_append_of_le_length k, List.drop_append_of_le_length (by omega), List.take_append_of_le_length (by simp; omega)]
      have hb' : Bytes (a.drop (9 + (nOf a).toNat) ++ b) := by
        intro x hx
        rcases List.mem_append.1 hx with q | q
        · exact ha x (List.mem_of_mem_drop q)
        · exact hb x (List.mem_append_right _ q)
      have := ih (a.drop (9 + (nOf a).toNat)) b (by simp; omega) hb'
      rw [e, e', this]
      cases q : (feedM most n (a.drop (9 + (nOf a).toNat))).2.2 with
      | true => simp
      | false =>
        have r1 := feedM_rest_len most n (a.drop (9 + (nOf a).toNat))
        have r2 := feedM_rest_bytes most n (ha.drop (9 + (nOf a).toNat))
        have hbb : Bytes b := fun x hx => hb x (List.mem_append_right _ hx)
        simp only [List.length_drop] at r1
        have := feedM_fuel most n (n + 1) ((feedM most n (a.drop (9 + (nOf a).toNat))).2.1 ++ b) (by simp; omega) (by simp; omega) (r2.append hbb)
        simp [this]

theorem feedA_fuel (most : Int) {n : Nat} {b : List Int} (h : b.length < n) (hb : Bytes b) : feedA most b = feedM most n b := feedM_fuel most _ _ b (by omega) h hb

/-- piece by piece -/
theorem feedA_append (most : Int) (a b : List Int) (hb : Bytes (a ++ b)) :
    feedA most (a ++ b) = if (feedA most a).2.2 then ((feedA most a).1, [], true) else ((feedA most a).1 ++ (feedA most ((feedA most a).2.1 ++ b)).1, (feedA most ((feedA most a).2.1 ++ b)).2) := by
  have ha : Bytes a := fun x hx => hb x (List.mem_append_left _ hx)
  have hbb : Bytes b := fun x hx => hb x (List.mem_append_right _ hx)
  obtain ⟨N, hN⟩ : ∃ N, N = (a ++ b).length + 1 := ⟨_, rfl⟩
  have hl : N = a.length + b.length + 1 := by rw [hN]; simp
  have e1 : feedA most a = feedM most N a := feedA_fuel most (by omega) ha
  have r1 := feedM_rest_len most N a
  have r2 := feedM_rest_bytes most N ha
  have e2 : feedA most ((feedM most N a).2.1 ++ b) = feedM most N ((feedM most N a).2.1 ++ b) := feedA_fuel most (by rw [List.length_append]; omega) (r2.append hbb)
  have e3 : feedA most (a ++ b) = feedM most N (a ++ b) := feedA_fuel most (by omega) hb
  rw [e1, e2, e3]
  exact feedM_append most N a b (by omega) hb
theorem feedA_nil (most : Int) : feedA most [] = ([], [], false) := by show feedM most (0 + 1) [] = _; unfold feedM; rfl
theorem feedA_err (most : Int) (a : List Int) (h : (feedA most a).2.2 = true) : (feedA most a).2.1 = [] := by
  unfold feedA at h ⊢
  generalize a.length + 1 = n at h ⊢
  induction n generalizing a with
  | zero => simp [feedM] at h
  | succ n ih =>
    by_cases c1 : a.length < 9
    · simp [feedM, c1] at h
    by_cases c2 : most < nOf a
    · simp [feedM, c1, c2]
    by_cases c3 : (a.length : Int) < 9 + nOf a
    · simp [feedM, c1, c2, c3] at h
    have e : feedM most (n + 1) a = ((a[3]?.getD 0, a[4]?.getD 0, sOf a, (a.drop 9).take (nOf a).toNat) :: (feedM most n (a.drop (9 + (nOf a).toNat))).1, (feedM most n (a.drop (9 + (nOf a).toNat))).2) := by
      conv => lhs; unfold feedM
      rw [if_neg c1, if_neg c2, if_neg c3]
    rw [e] at h ⊢
    exact ih _ h
end Go.Proofs.Ytgofadnggipkpaa
