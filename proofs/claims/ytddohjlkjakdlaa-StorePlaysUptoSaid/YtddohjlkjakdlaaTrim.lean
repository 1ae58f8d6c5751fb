import Derived.Test.YtddohjlkjakdlaaEvE
import Derived.Test.YtddohjlkjakdlaaTok
set_option linter.unusedVariables false
set_option linter.unusedSimpArgs false
set_option linter.unusedSectionVars false
set_option linter.unusedVariables false
set_option linter.unusedSimpArgs false
-- texts without blanks at their ends
namespace Go.Proofs.Ytddohjlkjakdlaa
open Go hiding Fn
open Ev tab
attribute [local irreducible] EvD EvL EvC evGds evLs C.run sK bK gK pK fK lpB stepD

def trimR (s : List Nat) : List Nat := (s.reverse.dropWhile blankB).reverse
def trimS (s : List Nat) : List Nat := trimR (s.dropWhile blankB)
theorem trimR_snoc {s : List Nat} {c : Nat} (h : blankB c = true) : trimR (s ++ [c]) = trimR s := by
  simp [trimR, h]
theorem trimR_stop {s : List Nat} {c : Nat} (h : blankB c = false) : trimR (s ++ [c]) = s ++ [c] := by
  simp [trimR, h]
theorem snoc_of {s : List Nat} (h : s ≠ []) : s.take (s.length - 1) ++ [s.getD (s.length - 1) 0] = s := by
  have hl : 0 < s.length := List.length_pos_iff.2 h
  have : s.getD (s.length - 1) 0 = s[s.length - 1] := by rw [List.getD, List.getElem?_eq_getElem (by omega)]; rfl
  rw [this]
  have := List.take_succ_eq_append_getElem (show s.length - 1 < s.length by omega)
  rw [← this, List.take_of_length_le (by omega)]
theorem dw_cons {s : List Nat} (h : ¬ s = []) : s.dropWhile blankB = bif blankB (s.getD 0 0) then (s.drop 1).dropWhile blankB else s := by
  cases s with
  | nil => exact absurd rfl h
  | cons c r =>
    show (c :: r).dropWhile blankB = bif blankB c then r.dropWhile blankB else c :: r
    rw [List.dropWhile]; cases blankB c <;> rfl
theorem tr_snoc {s : List Nat} (h : ¬ s = []) : trimR s = bif blankB (s.getD (s.length - 1) 0) then trimR (s.take (s.length - 1)) else s := by
  conv => lhs; rw [← snoc_of h]
  cases hb : blankB (s.getD (s.length - 1) 0) with
  | true => rw [trimR_snoc hb]; rfl
  | false => rw [trimR_stop hb, snoc_of h]; rfl
set_option maxHeartbeats 8000000 in
theorem trim_ok (s0 : List Nat) (hl : s0.length ≤ 1000000000) : EvP F 60 c60 [.st s0] [.st (trimS s0)] := by
  refine EvP.ofQ d60 rfl rfl rfl ?_
  repeat' (first | refine EvQ.run ?_ | (refine EvQ.pickB rfl rfl rfl ?_) | (refine EvQ.cond rfl (fun h => ?_) (fun h => ?_) <;> ((first | replace h := X.nm h | skip); try have hne := ne_len h)) | (refine EvQ.g1 rfl (fun h => ?_) (fun h => ?_) <;> ((first | replace h := X.nm h | skip); try have hne := ne_len h)) | (refine EvQ.pick rfl (fun _ => rfl) (fun _ => rfl) (fun h => ?_) (fun h => ?_) <;> ((first | replace h := X.nm h | skip); try have hne := ne_len h)) | refine EvQ.fin X.rs ?_ | refine EvQ.fin1 (fun _ => rfl) rfl ?_)
  refine EvQ.loop (QL := XtQ 0 [(0, .st (s0.dropWhile blankB))] (fun _ _ => True)) ?_ ?_
  · refine EvL.invQ (S := List Nat) (fun s => [(0, .st s)]) (fun s _ _ => s.length ≤ s0.length ∧ s.dropWhile blankB = s0.dropWhile blankB) (fun s => s.length) _ ?_ s0 _ _ _ ⟨Nat.le_refl _, rfl⟩ rfl
    intro s lo hp ⟨h1, h2⟩
    repeat' (first | refine EvQ.run ?_ | refine EvQ.lift (fun _ zn => X.pcall (blank_ok _) X.cq rfl X.al rfl zn) ?_ | refine EvQ.lift (fun _ zn => X.pcallG (blank_ok _) rfl X.cq rfl X.al rfl zn) ?_ | refine EvQ.lift (fun _ zn => X.pcallC (blank_ok _) rfl X.cq rfl X.al rfl zn) ?_ | refine EvQ.lift (fun _ zn => X.pcallT (blank_ok _) (by decide) X.cq rfl X.al rfl zn) ?_ | refine EvQ.lift (fun _ zn => X.call rfl X.al (blank_ok _) zn) ?_ | (refine EvQ.pickB rfl rfl rfl ?_) | (refine EvQ.cond rfl (fun h => ?_) (fun h => ?_) <;> ((first | replace h := X.nm h | skip); try have hne := ne_len h)) | (refine EvQ.g1 rfl (fun h => ?_) (fun h => ?_) <;> ((first | replace h := X.nm h | skip); try have hne := ne_len h)) | (refine EvQ.pick rfl (fun _ => rfl) (fun _ => rfl) (fun h => ?_) (fun h => ?_) <;> ((first | replace h := X.nm h | skip); try have hne := ne_len h)) | refine EvQ.fin X.rs ?_ | refine EvQ.fin1 (fun _ => rfl) rfl ?_)
    · have hs : ¬ s = [] := by assumption
      refine EvQ.go (s.drop 1) X.kv ⟨by rw [List.length_drop]; omega, ?_⟩ (by rw [List.length_drop]; omega)
      rw [← h2, dw_cons hs, h]; rfl
    · have hs : ¬ s = [] := by assumption
      refine EvQ.xt (.mk' (kvc (congrArg V.st ?_) rfl) trivial)
      rw [← h2, dw_cons hs, h]; rfl
    · refine EvQ.xt (.mk' (kvc (congrArg V.st ?_) rfl) trivial)
      rw [← h2, h]; rfl
  · rintro _ ⟨tm, lo, hp, rfl, -⟩
    repeat' (first | refine EvQ.run ?_ | (refine EvQ.pickB rfl rfl rfl ?_) | (refine EvQ.cond rfl (fun h => ?_) (fun h => ?_) <;> ((first | replace h := X.nm h | skip); try have hne := ne_len h)) | (refine EvQ.g1 rfl (fun h => ?_) (fun h => ?_) <;> ((first | replace h := X.nm h | skip); try have hne := ne_len h)) | (refine EvQ.pick rfl (fun _ => rfl) (fun _ => rfl) (fun h => ?_) (fun h => ?_) <;> ((first | replace h := X.nm h | skip); try have hne := ne_len h)) | refine EvQ.fin X.rs ?_ | refine EvQ.fin1 (fun _ => rfl) rfl ?_)
    have hd : (s0.dropWhile blankB).length ≤ s0.length := (List.dropWhile_sublist (p := blankB) (l := s0)).length_le
    refine EvQ.loop (QL := XtQ 2 [(0, .st (trimS s0))] (fun _ _ => True)) ?_ ?_
    · refine EvL.invQ (S := List Nat) (fun s => [(0, .st s)]) (fun s _ _ => s.length ≤ s0.length ∧ trimR s = trimS s0) (fun s => s.length) _ ?_ (s0.dropWhile blankB) _ _ _ ⟨hd, rfl⟩ rfl
      intro s lo hp ⟨h1, h2⟩
      repeat' (first | refine EvQ.run ?_ | refine EvQ.lift (fun _ zn => X.pcall (blank_ok _) X.cq rfl X.al rfl zn) ?_ | refine EvQ.lift (fun _ zn => X.pcallG (blank_ok _) rfl X.cq rfl X.al rfl zn) ?_ | refine EvQ.lift (fun _ zn => X.pcallC (blank_ok _) rfl X.cq rfl X.al rfl zn) ?_ | refine EvQ.lift (fun _ zn => X.pcallT (blank_ok _) (by decide) X.cq rfl X.al rfl zn) ?_ | refine EvQ.lift (fun _ zn => X.call rfl X.al (blank_ok _) zn) ?_ | (refine EvQ.pickB rfl rfl rfl ?_) | (refine EvQ.cond rfl (fun h => ?_) (fun h => ?_) <;> ((first | replace h := X.nm h | skip); try have hne := ne_len h)) | (refine EvQ.g1 rfl (fun h => ?_) (fun h => ?_) <;> ((first | replace h := X.nm h | skip); try have hne := ne_len h)) | (refine EvQ.pick rfl (fun _ => rfl) (fun _ => rfl) (fun h => ?_) (fun h => ?_) <;> ((first | replace h := X.nm h | skip); try have hne := ne_len h)) | refine EvQ.fin X.rs ?_ | refine EvQ.fin1 (fun _ => rfl) rfl ?_)
      · have hs : ¬ s = [] := by assumption
        refine EvQ.go (s.take (s.length - 1)) X.kv ⟨by rw [List.length_take]; omega, ?_⟩ (by rw [List.length_take]; omega)
        rw [← h2, tr_snoc hs, h]; rfl
      · have hs : ¬ s = [] := by assumption
        refine EvQ.xt (.mk' (kvc (congrArg V.st ?_) rfl) trivial)
        rw [← h2, tr_snoc hs, h]; rfl
      · refine EvQ.xt (.mk' (kvc (congrArg V.st ?_) rfl) trivial)
        rw [← h2, h]; rfl
    · rintro _ ⟨tm, lo, hp, rfl, -⟩
      repeat' (first | refine EvQ.run ?_ | (refine EvQ.pickB rfl rfl rfl ?_) | (refine EvQ.cond rfl (fun h => ?_) (fun h => ?_) <;> ((first | replace h := X.nm h | skip); try have hne := ne_len h)) | (refine EvQ.g1 rfl (fun h => ?_) (fun h => ?_) <;> ((first | replace h := X.nm h | skip); try have hne := ne_len h)) | (refine EvQ.pick rfl (fun _ => rfl) (fun _ => rfl) (fun h => ?_) (fun h => ?_) <;> ((first | replace h := X.nm h | skip); try have hne := ne_len h)) | refine EvQ.fin X.rs ?_ | refine EvQ.fin1 (fun _ => rfl) rfl ?_)
      exact PQ.st rfl
end Go.Proofs.Ytddohjlkjakdlaa
