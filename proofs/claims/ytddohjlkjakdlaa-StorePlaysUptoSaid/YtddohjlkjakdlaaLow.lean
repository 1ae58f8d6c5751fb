import Derived.Test.YtddohjlkjakdlaaEvE
import Derived.Test.YtddohjlkjakdlaaKeep1
set_option linter.unusedVariables false
set_option linter.unusedSimpArgs false
set_option linter.unusedSectionVars false
set_option linter.unusedVariables false
set_option linter.unusedSimpArgs false
-- texts of bytes; the first ones made small
namespace Go.Proofs.Ytddohjlkjakdlaa
open Go hiding Fn
open Ev tab
theorem joinL_txt {ls : List (List Nat)} (h : ∀ s, s ∈ ls → Txt s) : Txt (joinL ls sSep) := by
  induction ls with
  | nil => intro n hn; exact absurd hn List.not_mem_nil
  | cons x r ih =>
    cases r with
    | nil => exact h x (by simp)
    | cons y r =>
      intro n hn
      simp only [joinL, List.mem_append] at hn
      rcases hn with hn | hn | hn
      · exact h x (by simp) n hn
      · revert n; decide
      · exact ih (fun s hs => h s (by simp [hs])) n hn
theorem allF_txt {l : List Fld} (h : TOK l) (n : List Nat) : Txt (allF l n) := by
  refine joinL_txt fun s hs => ?_
  simp only [valsF, List.mem_map, List.mem_filter] at hs
  obtain ⟨f, ⟨hf, _⟩, rfl⟩ := hs
  exact (h f hf).2
theorem trimS_mem {s : List Nat} {c : Nat} (h : c ∈ trimS s) : c ∈ s := by
  unfold trimS trimR at h
  rw [List.mem_reverse] at h
  have h := (List.dropWhile_sublist _).mem h
  rw [List.mem_reverse] at h
  exact (List.dropWhile_sublist _).mem h
theorem putS_txt {acc : List (List Nat)} {t : List Nat} (h : ∀ x, x ∈ acc → Txt x) (ht : Txt t) : ∀ x, x ∈ putS acc t → Txt x := by
  intro x hx
  unfold putS at hx
  split at hx
  · exact h x hx
  · rcases List.mem_append.1 hx with q | q
    · exact h x q
    · rw [List.mem_singleton] at q; subst q
      exact fun c hc => ht c (trimS_mem hc)
theorem splGo_txt {s : List Nat} (hs : Txt s) : ∀ (n i f : Nat) (acc r : List (List Nat)), (∀ x, x ∈ acc → Txt x) → splGo n s i f acc = some r → ∀ x, x ∈ r → Txt x
  | 0, _, _, _, _, _, h => by simp [splGo] at h
  | n + 1, i, f, acc, r, ha, h => by
    have ht : ∀ k, Txt ((s.drop f).take k) := fun k c hc => hs c (List.mem_of_mem_drop (List.mem_of_mem_take hc))
    unfold splGo at h
    split at h
    · split at h
      · exact splGo_txt hs n _ _ _ r (putS_txt ha (ht _)) h
      · split at h
        · split at h
          · cases h
          · exact splGo_txt hs n _ _ _ r ha h
        · exact splGo_txt hs n _ _ _ r ha h
    · cases h; exact putS_txt ha (ht _)
theorem splS_txt {s : List Nat} (hs : Txt s) : ∀ x, x ∈ (splS s).getD [] → Txt x := by
  cases h : splS s with
  | none => intro x hx; exact absurd hx List.not_mem_nil
  | some r => exact splGo_txt hs _ _ _ _ r (fun x hx => absurd hx List.not_mem_nil) h

/-- the first ones made small -/
def lowP (ps : List (List Nat)) (i : Nat) : List (List Nat) := (ps.take i).map lowL ++ ps.drop i
theorem lowP_length (ps : List (List Nat)) (i : Nat) : (lowP ps i).length = ps.length := by simp [lowP]; omega
theorem lowP_get {ps : List (List Nat)} {i : Nat} (h : i < ps.length) : (lowP ps i).getD (0 + i) [] = ps.getD i [] := by
  have h1 : ((ps.take i).map lowL).length = i := by simp; omega
  unfold lowP
  rw [Nat.zero_add, List.getD, List.getElem?_append_right (by omega), h1, Nat.sub_self, List.drop_eq_getElem_cons h]
  simp [List.getD, h]
theorem lowP_set {ps : List (List Nat)} {i : Nat} (h : i < ps.length) : (lowP ps i).set (0 + i) (lowL (ps.getD i [])) = lowP ps (i + 1) := by
  have h1 : ((ps.take i).map lowL).length = i := by simp; omega
  unfold lowP
  rw [Nat.zero_add, List.set_append_right _ _ (by omega), h1, Nat.sub_self, drop_getD h [], List.set_cons_zero, take_getD h []]
  simp
theorem txs_set (l : List (List Nat)) (i : Nat) (s : List Nat) : (txs l).set i [.st s] = txs (l.set i s) := by simp [txs, List.map_set]
theorem any_take {α : Type} {p : α → Bool} {l : List α} {i : Nat} (d : α) (h : ∀ j, j < i → p (l.getD j d) = false) (hi : i = l.length) : l.any p = false := by
  rw [List.any_eq_false]
  intro x hx
  obtain ⟨j, hj, rfl⟩ := List.mem_iff_getElem.1 hx
  have := h j (by omega)
  rw [List.getD, List.getElem?_eq_getElem hj] at this
  simpa using this
theorem any_at {α : Type} {p : α → Bool} {l : List α} {i : Nat} (d : α) (h : i < l.length) (hp : p (l.getD i d) = true) : l.any p = true := by
  rw [List.any_eq_true]
  refine ⟨l[i], List.getElem_mem h, ?_⟩
  rw [List.getD, List.getElem?_eq_getElem h] at hp
  exact hp
end Go.Proofs.Ytddohjlkjakdlaa
