import Derived.Test.YtcbiplmgaiipgaaEvE
import Derived.Test.YtcbiplmgaiipgaaMsg2
import Derived.Test.YtcbiplmgaiipgaaRen
set_option linter.unusedVariables false
set_option linter.unusedSimpArgs false
set_option linter.unusedSectionVars false
-- the fields behind a head (where message.rest runs in its caller's heap)
namespace Go.Proofs.Ytcbiplmgaiipgaa
open Go hiding Fn
open Ev tab
attribute [local irreducible] EvD EvL EvC evGds evLs C.run sK bK gK pK fK lpB stepD
set_option maxHeartbeats 8000000 in
theorem rest_rw {own : Bool} (hp : Hp) (l : List Fld) (hl : FOK l) (hlim : hp.lim ≤ hp.next) : ∃ v hp', EvC F own 66 [.vs 2 (fds l)] hp (.ret v hp') ∧ (∃ w, v = .tu [w, .it .i64 (restN l), .bo (restB l)] ∧ Nw hp hp' w (fds (restL l))) := by
  have hc := contains_ok l (by have := hl.1; omega) hp
  have hpl := plain_ok l hl
  have hn := length_ok l hl
  have hll := hl.1
  refine EvC.ofQ (P := fun v hp' => ∃ w, v = .tu [w, .it .i64 (restN l), .bo (restB l)] ∧ Nw hp hp' w (fds (restL l))) d66 rfl rfl rfl ?_
  cases ha : l.any colonB with
  | true =>
    rw [ha] at hc
    rw [show restL l = [] by simp [restL, ha], show restN l = 0 by simp [restN, ha], show restB l = false by simp [restB, ha]]
    repeat' (first | refine EvQ.run ?_ | refine EvQ.lift (fun _ zn => X.pcall (hc) X.cq rfl X.al rfl zn) ?_ | refine EvQ.lift (fun _ zn => X.pcallG (hc) rfl X.cq rfl X.al rfl zn) ?_ | refine EvQ.lift (fun _ zn => X.pcallC (hc) rfl X.cq rfl X.al rfl zn) ?_ | refine EvQ.lift (fun _ zn => X.pcallT (hc) (by decide) X.cq rfl X.al rfl zn) ?_ | refine EvQ.lift (fun _ zn => X.call rfl X.al (hc) zn) ?_ | (refine EvQ.pickB rfl rfl rfl ?_) | (refine EvQ.cond rfl (fun h => ?_) (fun h => ?_) <;> ((first | replace h := X.nm h | skip); try have hne := ne_len h)) | (refine EvQ.g1 rfl (fun h => ?_) (fun h => ?_) <;> ((first | replace h := X.nm h | skip); try have hne := ne_len h)) | (refine EvQ.pick rfl (fun _ => rfl) (fun _ => rfl) (fun h => ?_) (fun h => ?_) <;> ((first | replace h := X.nm h | skip); try have hne := ne_len h)) | refine EvQ.fin X.rs ?_ | refine EvQ.fin1 (fun _ => rfl) rfl ?_)
    exact ⟨_, _, rfl, _, rfl, .ns⟩
  | false =>
    rw [ha] at hc
    cases hb : plainF l with
    | false =>
      rw [hb] at hpl
      rw [show restL l = [] by simp [restL, ha, hb], show restN l = 0 by simp [restN, ha, hb], show restB l = false by simp [restB, ha, hb]]
      repeat' (first | refine EvQ.run ?_ | refine EvQ.lift (fun _ zn => X.pcall (hc) X.cq rfl X.al rfl zn) ?_ | refine EvQ.lift (fun _ zn => X.pcallG (hc) rfl X.cq rfl X.al rfl zn) ?_ | refine EvQ.lift (fun _ zn => X.pcallC (hc) rfl X.cq rfl X.al rfl zn) ?_ | refine EvQ.lift (fun _ zn => X.pcallT (hc) (by decide) X.cq rfl X.al rfl zn) ?_ | refine EvQ.lift (fun _ zn => X.call rfl X.al (hc) zn) ?_ | refine EvQ.lift (fun _ zn => X.pcall (hpl) X.cq rfl X.al rfl zn) ?_ | refine EvQ.lift (fun _ zn => X.pcallG (hpl) rfl X.cq rfl X.al rfl zn) ?_ | refine EvQ.lift (fun _ zn => X.pcallC (hpl) rfl X.cq rfl X.al rfl zn) ?_ | refine EvQ.lift (fun _ zn => X.pcallT (hpl) (by decide) X.cq rfl X.al rfl zn) ?_ | refine EvQ.lift (fun _ zn => X.call rfl X.al (hpl) zn) ?_ | (refine EvQ.pickB rfl rfl rfl ?_) | (refine EvQ.cond rfl (fun h => ?_) (fun h => ?_) <;> ((first | replace h := X.nm h | skip); try have hne := ne_len h)) | (refine EvQ.g1 rfl (fun h => ?_) (fun h => ?_) <;> ((first | replace h := X.nm h | skip); try have hne := ne_len h)) | (refine EvQ.pick rfl (fun _ => rfl) (fun _ => rfl) (fun h => ?_) (fun h => ?_) <;> ((first | replace h := X.nm h | skip); try have hne := ne_len h)) | refine EvQ.fin X.rs ?_ | refine EvQ.fin1 (fun _ => rfl) rfl ?_)
      exact ⟨_, _, rfl, _, rfl, .ns⟩
    | true =>
      rw [hb] at hpl
      rw [show restL l = l by simp [restL, ha, hb], show restN l = lenN l by simp [restN, ha, hb], show restB l = lenB l by simp [restB, ha, hb]]
      have h0s : Ow hp .ns 2 [] := .ns
      have hG := Ow.gput (new := fds l) h0s hlim
      have hGl := hG.lp
      repeat' (first | refine EvQ.run ?_ | refine EvQ.lift (fun _ zn => X.pcall (hc) X.cq rfl X.al rfl zn) ?_ | refine EvQ.lift (fun _ zn => X.pcallG (hc) rfl X.cq rfl X.al rfl zn) ?_ | refine EvQ.lift (fun _ zn => X.pcallC (hc) rfl X.cq rfl X.al rfl zn) ?_ | refine EvQ.lift (fun _ zn => X.pcallT (hc) (by decide) X.cq rfl X.al rfl zn) ?_ | refine EvQ.lift (fun _ zn => X.call rfl X.al (hc) zn) ?_ | refine EvQ.lift (fun _ zn => X.pcall (hpl) X.cq rfl X.al rfl zn) ?_ | refine EvQ.lift (fun _ zn => X.pcallG (hpl) rfl X.cq rfl X.al rfl zn) ?_ | refine EvQ.lift (fun _ zn => X.pcallC (hpl) rfl X.cq rfl X.al rfl zn) ?_ | refine EvQ.lift (fun _ zn => X.pcallT (hpl) (by decide) X.cq rfl X.al rfl zn) ?_ | refine EvQ.lift (fun _ zn => X.call rfl X.al (hpl) zn) ?_ | refine EvQ.lift (fun _ zn => X.pcall (hn) X.cq rfl X.al rfl zn) ?_ | refine EvQ.lift (fun _ zn => X.pcallG (hn) rfl X.cq rfl X.al rfl zn) ?_ | refine EvQ.lift (fun _ zn => X.pcallC (hn) rfl X.cq rfl X.al rfl zn) ?_ | refine EvQ.lift (fun _ zn => X.pcallT (hn) (by decide) X.cq rfl X.al rfl zn) ?_ | refine EvQ.lift (fun _ zn => X.call rfl X.al (hn) zn) ?_ | (refine EvQ.pickB rfl rfl rfl ?_) | (refine EvQ.cond rfl (fun h => ?_) (fun h => ?_) <;> ((first | replace h := X.nm h | skip); try have hne := ne_len h)) | (refine EvQ.g1 rfl (fun h => ?_) (fun h => ?_) <;> ((first | replace h := X.nm h | skip); try have hne := ne_len h)) | (refine EvQ.pick rfl (fun _ => rfl) (fun _ => rfl) (fun h => ?_) (fun h => ?_) <;> ((first | replace h := X.nm h | skip); try have hne := ne_len h)) | refine EvQ.fin X.rs ?_ | refine EvQ.fin1 (fun _ => rfl) rfl ?_)
      rw [List.nil_append] at hG
      refine ⟨_, _, rfl, gav hp .ns ([] : List (List V)).length (fds l).length, rfl, hG, ⟨gah_next, gah_lim, fun j hj => gah_get (fun h => by cases h) hj⟩, fun id h => ?_⟩
      unfold gav at h
      simp only at h
      split at h <;> cases h
      exact Nat.le_refl _
end Go.Proofs.Ytcbiplmgaiipgaa
