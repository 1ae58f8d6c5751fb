import Derived.Test.YtcbiplmgaiipgaaEvE
import Derived.Test.YtcbiplmgaiipgaaRdr
set_option linter.unusedVariables false
set_option linter.unusedSimpArgs false
set_option linter.unusedSectionVars false
-- fields with room behind them; are they as they were?
namespace Go.Proofs.Ytcbiplmgaiipgaa
open Go hiding Fn
open Ev tab
attribute [local irreducible] EvD EvL EvC evGds evLs C.run sK bK gK pK fK lpB stepD
def roomL (l : List Fld) (m : Fld) (k : Nat) : List Fld := l ++ (List.replicate k m ++ List.replicate (80 - k) f0)
theorem roomL_len (l : List Fld) (m : Fld) {k : Nat} (h : k ≤ 80) : (roomL l m k).length = l.length + 80 := by unfold roomL; simp; omega
theorem roomL_set (l : List Fld) (m : Fld) {k : Nat} (h : k < 80) : (roomL l m k).set (l.length + k) m = roomL l m (k + 1) := by
  unfold roomL
  rw [List.set_append_right _ _ (by omega), Nat.add_sub_cancel_left, List.set_append_right _ _ (by simp), List.length_replicate, Nat.sub_self]
  congr 1
  rw [show 80 - k = (80 - (k + 1)) + 1 by omega, List.replicate_succ, List.set_cons_zero, List.replicate_succ', List.append_assoc]; rfl
theorem fds_set (l : List Fld) (i : Nat) (m : Fld) : (fds l).set i (fd m) = fds (l.set i m) := by simp [fds, List.map_set]
def roomy (l : List Fld) (m : Fld) : List Fld := l ++ List.replicate 80 m
theorem roomL_80 (l : List Fld) (m : Fld) : roomL l m 80 = roomy l m := by unfold roomL roomy; simp
theorem roomL_0 (l : List Fld) (m : Fld) : fds (roomL l m 0) = fds l ++ List.replicate 80 [.st [], .st []] := by
  unfold roomL
  rw [← fds_append]; simp [fds, fd]
theorem roomy_len (l : List Fld) (m : Fld) : (roomy l m).length = l.length + 80 := by unfold roomy; simp
set_option maxHeartbeats 8000000 in
theorem room_ok (l : List Fld) (m : Fld) (hl : l.length ≤ 10000000) : EvP F 27 c27 [.vs 2 (fds l), .ag (fd m)] [.vs 2 (fds (roomy l m))] := by
  have hfl := fds_length l
  refine EvP.ofQ d27 rfl rfl rfl ?_
  have hw : (Int.ofNat (l.length + 80)).toNat = l.length + 80 := rfl
  repeat' (first | refine EvQ.run ?_ | (refine EvQ.pickB rfl rfl rfl ?_) | (refine EvQ.cond rfl (fun h => ?_) (fun h => ?_) <;> ((first | replace h := X.nm h | skip); try have hne := ne_len h)) | (refine EvQ.g1 rfl (fun h => ?_) (fun h => ?_) <;> ((first | replace h := X.nm h | skip); try have hne := ne_len h)) | (refine EvQ.pick rfl (fun _ => rfl) (fun _ => rfl) (fun h => ?_) (fun h => ?_) <;> ((first | replace h := X.nm h | skip); try have hne := ne_len h)) | refine EvQ.fin X.rs ?_ | refine EvQ.fin1 (fun _ => rfl) rfl ?_)
  have hes : fds l ++ List.drop (fds l).length (List.replicate (l.length + 80) [V.st [], V.st []]) = fds (roomL l m 0) := by
    rw [roomL_0, List.drop_replicate, fds_length, Nat.add_sub_cancel_left]
  refine EvQ.loop (QL := XtQ 0 [(5, .hs 0 0 (l.length + 80))] (fun lo hp => hget hp 0 = some ⟨2, false, fds (roomy l m)⟩ ∧ hp.lim ≤ 0)) ?_ ?_
  · refine EvL.invQ (S := Nat) (fun k => [(3, .lp 3 0), (5, .hs 0 0 (l.length + 80)), (6, .it .i64 (Int.ofNat (l.length + k)))]) (fun k lo hp => shed [] lo = lset (fun _ => none) 3 (fd m) ∧ hget hp 0 = some ⟨2, false, fds (roomL l m k)⟩ ∧ hp.lim ≤ 0 ∧ k ≤ 80) (fun k => 80 - k) _ ?_ 0 _ _ _ ⟨rfl, (hget_set _ _ _).trans (by rw [← hes]), Nat.le_refl _, Nat.zero_le _⟩ X.kv
    intro k lo hp ⟨e1, e2, e3, e4⟩
    rw [e1]
    have hrl := roomL_len l m e4
    repeat' (first | refine EvQ.run ?_ | (refine EvQ.pickB rfl rfl rfl ?_) | (refine EvQ.cond rfl (fun h => ?_) (fun h => ?_) <;> ((first | replace h := X.nm h | skip); try have hne := ne_len h)) | (refine EvQ.g1 rfl (fun h => ?_) (fun h => ?_) <;> ((first | replace h := X.nm h | skip); try have hne := ne_len h)) | (refine EvQ.pick rfl (fun _ => rfl) (fun _ => rfl) (fun h => ?_) (fun h => ?_) <;> ((first | replace h := X.nm h | skip); try have hne := ne_len h)) | refine EvQ.fin X.rs ?_ | refine EvQ.fin1 (fun _ => rfl) rfl ?_)
    · refine EvQ.go (k + 1) X.kv ⟨rfl, ?_, e3, by omega⟩ (by omega)
      rw [hget_set, ← roomL_set l m (by omega), ← fds_set]
      show some (Bk.mk 2 false ((fds (roomL l m k)).set (0 + (l.length + k)) _)) = _
      rw [Nat.zero_add]; rfl
    · have hk : k = 80 := by omega
      subst hk
      rw [roomL_80] at e2
      exact EvQ.xt (XtQ.mk' X.kv ⟨e2, e3⟩)
  · rintro _ ⟨tm, lo, hp, rfl, e1, e2⟩
    have hcl := closeC_hs (n := depth) (ts := [.one, .one]) (i := 0) (len := (fds (roomy l m)).length) e1 e2 rfl (by omega) (by rw [List.drop_zero, List.take_length]; exact fds_clo _) (by rw [fds_length, roomy_len]; simp [depth]; omega)
    rw [List.drop_zero, List.take_length, fds_length, roomy_len] at hcl
    repeat' (first | refine EvQ.run ?_ | (refine EvQ.pickB rfl rfl rfl ?_) | (refine EvQ.cond rfl (fun h => ?_) (fun h => ?_) <;> ((first | replace h := X.nm h | skip); try have hne := ne_len h)) | (refine EvQ.g1 rfl (fun h => ?_) (fun h => ?_) <;> ((first | replace h := X.nm h | skip); try have hne := ne_len h)) | (refine EvQ.pick rfl (fun _ => rfl) (fun _ => rfl) (fun h => ?_) (fun h => ?_) <;> ((first | replace h := X.nm h | skip); try have hne := ne_len h)) | refine EvQ.fin X.rs ?_ | refine EvQ.fin1 (fun _ => rfl) rfl ?_)
    exact PQ.of (.c hcl (.nil _))
set_option maxHeartbeats 8000000 in
theorem intact_ok (l : List Fld) (m : Fld) (hl : l.length ≤ 10000000) : EvP F 33 c33 [.vs 2 (fds (roomy l m)), .vs 2 (fds l), .ag (fd m)] [.bo true] := by
  have hrl := roomy_len l m
  have ht : (roomy l m).take l.length = l := by unfold roomy; rw [List.take_left]
  have sm := sameR_ok (own := false) h0 (.vs 2 (fds ((roomy l m).take l.length))) (.vs 2 (fds l)) _ l .vs .vs (by rw [ht]; omega) (by omega)
  rw [decide_eq_true ht] at sm
  refine EvP.ofQ d33 rfl rfl rfl ?_
  repeat' (first | refine EvQ.run ?_ | refine EvQ.lift (fun _ zn => X.pcall (sm) X.cq rfl X.al rfl zn) ?_ | refine EvQ.lift (fun _ zn => X.pcallG (sm) rfl X.cq rfl X.al rfl zn) ?_ | refine EvQ.lift (fun _ zn => X.pcallC (sm) rfl X.cq rfl X.al rfl zn) ?_ | refine EvQ.lift (fun _ zn => X.pcallT (sm) (by decide) X.cq rfl X.al rfl zn) ?_ | refine EvQ.lift (fun _ zn => X.call rfl X.al (sm) zn) ?_ | (refine EvQ.pickB rfl rfl rfl ?_) | (refine EvQ.cond rfl (fun h => ?_) (fun h => ?_) <;> ((first | replace h := X.nm h | skip); try have hne := ne_len h)) | (refine EvQ.g1 rfl (fun h => ?_) (fun h => ?_) <;> ((first | replace h := X.nm h | skip); try have hne := ne_len h)) | (refine EvQ.pick rfl (fun _ => rfl) (fun _ => rfl) (fun h => ?_) (fun h => ?_) <;> ((first | replace h := X.nm h | skip); try have hne := ne_len h)) | refine EvQ.fin X.rs ?_ | refine EvQ.fin1 (fun _ => rfl) rfl ?_)
  refine EvQ.loop (QL := XtQ 0 [] (fun _ _ => True)) ?_ ?_
  · refine EvL.invQ (S := Nat) (fun k => [(0, .vs 2 (fds (roomy l m))), (5, .lp 5 0), (7, .it .i64 (Int.ofNat (l.length + k)))]) (fun k lo hp => shed [] lo = lset (fun _ => none) 5 (fd m) ∧ k ≤ 80) (fun k => 80 - k) _ ?_ 0 _ _ _ ⟨rfl, Nat.zero_le _⟩ X.kv
    intro k lo hp ⟨e1, e4⟩
    rw [e1]
    have hg : k < 80 → (roomy l m).getD (l.length + k) f0 = m := fun h => by
      unfold roomy
      rw [List.getD, List.getElem?_append_right (by omega), Nat.add_sub_cancel_left, List.getElem?_replicate]; simp [h]
    repeat' (first | refine EvQ.run ?_ | (refine EvQ.pickB rfl rfl rfl ?_) | (refine EvQ.cond rfl (fun h => ?_) (fun h => ?_) <;> ((first | replace h := X.nm h | skip); try have hne := ne_len h)) | (refine EvQ.g1 rfl (fun h => ?_) (fun h => ?_) <;> ((first | replace h := X.nm h | skip); try have hne := ne_len h)) | (refine EvQ.pick rfl (fun _ => rfl) (fun _ => rfl) (fun h => ?_) (fun h => ?_) <;> ((first | replace h := X.nm h | skip); try have hne := ne_len h)) | refine EvQ.fin X.rs ?_ | refine EvQ.fin1 (fun _ => rfl) rfl ?_)
    · exfalso
      rw [hg (by omega)] at h
      rcases h with h | h | h
      · exact h rfl
      · exact h rfl
      · cases h
    · exact EvQ.go (k + 1) X.kv ⟨rfl, by omega⟩ (by omega)
    · exact EvQ.xt (XtQ.mk' X.kv trivial)
  · rintro _ ⟨tm, lo, hp, rfl, -⟩
    repeat' (first | refine EvQ.run ?_ | (refine EvQ.pickB rfl rfl rfl ?_) | (refine EvQ.cond rfl (fun h => ?_) (fun h => ?_) <;> ((first | replace h := X.nm h | skip); try have hne := ne_len h)) | (refine EvQ.g1 rfl (fun h => ?_) (fun h => ?_) <;> ((first | replace h := X.nm h | skip); try have hne := ne_len h)) | (refine EvQ.pick rfl (fun _ => rfl) (fun _ => rfl) (fun h => ?_) (fun h => ?_) <;> ((first | replace h := X.nm h | skip); try have hne := ne_len h)) | refine EvQ.fin X.rs ?_ | refine EvQ.fin1 (fun _ => rfl) rfl ?_)
    exact PQ.bo rfl
end Go.Proofs.Ytcbiplmgaiipgaa
