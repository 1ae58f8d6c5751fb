import Derived.Test.YtnnhhfjkkmakaaaGreatDoorEvE
import Derived.Test.YtnnhhfjkkmakaaaGreatDoorClk0
set_option linter.unusedSectionVars false
set_option linter.unusedVariables false
set_option linter.unusedSimpArgs false
-- ProxyClock: its loop and its run (EvHp EvOwn)
namespace Go.Proofs.YtnnhhfjkkmakaaaGreatDoor.clk
open Go hiding Fn
open Ev tab
attribute [local irreducible] EvP EvD EvL EvC evGds evLs C.run sK bK gK pK fK lpB stepD H hp3
def is (l : List Int) : List (List V) := l.map fun n => [.it .i64 n]
theorem is_length (l : List Int) : (is l).length = l.length := by simp [is]
theorem is_getD {l : List Int} {i : Nat} (h : i < l.length) : (is l).getD i [] = [.it .i64 (l.getD i 0)] := by simp [is, List.getD, h]
theorem pm_eq (w n : Int) (hw : w ≤ 2147483647) : mx w (mn n 2147483647) = pm w n ∧ pm w n ≤ 2147483647 := by
  unfold pm mx mn
  simp only [ilt_eq, Bool.cond_decide]
  constructor <;> (repeat' split) <;> omega
set_option maxHeartbeats 64000000 in
theorem clk_loop (l : List Int) (hl : l.length ≤ 10000000) (lo : Lo) (hlo : shed [] lo = fun _ => none) (tm : Tm)
    (hk : [0, 3, 5, 6].map (fun x => (x, tm x)) = [(0, .vs 1 (is l)), (3, .pt 8 0 0), (5, .it .i64 0), (6, .it .i64 (Int.ofNat 0))]) :
    ∃ r, EvL Fk [0, 3, 5, 6] [] (lpB (d4.body.lps.getD 0 .skip)) ⟨tm, lo, H 0 0⟩ r ∧ XtQ 0 [(3, .pt 8 0 0)] (fun lo hp => True) r := by
  refine EvL.invQ (S := Nat × Int) (fun y => [(0, .vs 1 (is l)), (3, .pt 8 0 0), (5, .it .i64 y.2), (6, .it .i64 (Int.ofNat y.1))])
    (fun y lo hp => shed [] lo = (fun _ => none) ∧ y.1 ≤ 50 ∧ y.2 ≤ 2147483647 ∧ hp = H y.1 y.2) (fun y => 50 - y.1) _ ?_ (0, 0) tm lo (H 0 0) ⟨hlo, Nat.zero_le _, by decide, rfl⟩ hk
  rintro ⟨i, w⟩ lo hp ⟨e1, e2, e3, rfl⟩
  simp only at e2 e3
  rw [e1]
  have hil := is_length l
  by_cases hc : i < l.length ∧ i < 50
  · obtain ⟨h1, h2⟩ := hc
    have hge := is_getD h1
    generalize l.getD i 0 = n at *
    obtain ⟨p1, p2⟩ := pm_eq w n e3
    have dd := do_ok h2 w n
    have nn := now_ok h2 (pm w n)
    rw [← p1] at dd nn p2
    unfold mx mn at dd nn p2
    repeat (first | refine EvQ.run ?_ | refine EvQ.lift (fun _ zn => X.pcall (dd) X.cq rfl X.al rfl zn) ?_ | refine EvQ.lift (fun _ zn => X.pcallG (dd) rfl X.cq rfl X.al rfl zn) ?_ | refine EvQ.lift (fun _ zn => X.pcallC (dd) rfl X.cq rfl X.al rfl zn) ?_ | refine EvQ.lift (fun _ zn => X.pcallT (dd) (by decide) X.cq rfl X.al rfl zn) ?_ | refine EvQ.lift (fun _ zn => X.call rfl X.al (dd) zn) ?_ | refine EvQ.lift (fun _ zn => X.pcall (nn) X.cq rfl X.al rfl zn) ?_ | refine EvQ.lift (fun _ zn => X.pcallG (nn) rfl X.cq rfl X.al rfl zn) ?_ | refine EvQ.lift (fun _ zn => X.pcallC (nn) rfl X.cq rfl X.al rfl zn) ?_ | refine EvQ.lift (fun _ zn => X.pcallT (nn) (by decide) X.cq rfl X.al rfl zn) ?_ | refine EvQ.lift (fun _ zn => X.call rfl X.al (nn) zn) ?_ | refine EvQ.fin X.rs ?_ | refine EvQ.fin1 (fun _ => rfl) rfl ?_)
    exact EvQ.go (i + 1, _) X.kv ⟨X.lo, by show i + 1 ≤ 50; omega, p2, rfl⟩ (by show 50 - (i + 1) < 50 - i; omega)
  · have hx : ¬ i < l.length ∨ ¬ i < 50 := by omega
    rcases hx with h1 | h1
    · repeat' (first | refine EvQ.run ?_ | (refine EvQ.pickB rfl rfl rfl ?_) | (refine EvQ.cond rfl (fun h => ?_) (fun h => ?_) <;> ((first | replace h := X.nm h | skip); try have hne := ne_len h)) | (refine EvQ.g1 rfl (fun h => ?_) (fun h => ?_) <;> ((first | replace h := X.nm h | skip); try have hne := ne_len h)) | (refine EvQ.pick rfl (fun _ => rfl) (fun _ => rfl) (fun h => ?_) (fun h => ?_) <;> ((first | replace h := X.nm h | skip); try have hne := ne_len h)) | refine EvQ.fin X.rs ?_ | refine EvQ.fin1 (fun _ => rfl) rfl ?_)
      exact EvQ.xt (.mk' X.kv trivial)
    · repeat' (first | refine EvQ.run ?_ | (refine EvQ.pickB rfl rfl rfl ?_) | (refine EvQ.cond rfl (fun h => ?_) (fun h => ?_) <;> ((first | replace h := X.nm h | skip); try have hne := ne_len h)) | (refine EvQ.g1 rfl (fun h => ?_) (fun h => ?_) <;> ((first | replace h := X.nm h | skip); try have hne := ne_len h)) | (refine EvQ.pick rfl (fun _ => rfl) (fun _ => rfl) (fun h => ?_) (fun h => ?_) <;> ((first | replace h := X.nm h | skip); try have hne := ne_len h)) | refine EvQ.fin X.rs ?_ | refine EvQ.fin1 (fun _ => rfl) rfl ?_)
      all_goals exact EvQ.xt (.mk' X.kv trivial)
set_option maxHeartbeats 32000000 in
theorem clk_run (l : List Int) (hl : l.length ≤ 10000000) : ∃ h, EvD Fk (stepD d4 [.vs 1 (is l)] h0) (Rt (.bo true) h) := by
  have b1 := cfg_ok
  have b2 := new_ok
  refine EvQ.law ?_
  repeat (first | refine EvQ.run ?_ | refine EvQ.lift (fun _ zn => X.pcall (b1) X.cq rfl X.al rfl zn) ?_ | refine EvQ.lift (fun _ zn => X.pcallG (b1) rfl X.cq rfl X.al rfl zn) ?_ | refine EvQ.lift (fun _ zn => X.pcallC (b1) rfl X.cq rfl X.al rfl zn) ?_ | refine EvQ.lift (fun _ zn => X.pcallT (b1) (by decide) X.cq rfl X.al rfl zn) ?_ | refine EvQ.lift (fun _ zn => X.call rfl X.al (b1) zn) ?_ | refine EvQ.lift (fun _ zn => X.pcall (b2) X.cq rfl X.al rfl zn) ?_ | refine EvQ.lift (fun _ zn => X.pcallG (b2) rfl X.cq rfl X.al rfl zn) ?_ | refine EvQ.lift (fun _ zn => X.pcallC (b2) rfl X.cq rfl X.al rfl zn) ?_ | refine EvQ.lift (fun _ zn => X.pcallT (b2) (by decide) X.cq rfl X.al rfl zn) ?_ | refine EvQ.lift (fun _ zn => X.call rfl X.al (b2) zn) ?_ | refine EvQ.fin X.rs ?_ | refine EvQ.fin1 (fun _ => rfl) rfl ?_)
  refine EvQ.loop (clk_loop l hl _ ?_ _ ?_) ?_
  · exact X.lo
  · exact X.kv
  rintro _ ⟨tm, lo, hp, rfl, -⟩
  have cr := cr_ok hp
  repeat (first | refine EvQ.run ?_ | refine EvQ.lift (fun _ zn => X.pcall (cr) X.cq rfl X.al rfl zn) ?_ | refine EvQ.lift (fun _ zn => X.pcallG (cr) rfl X.cq rfl X.al rfl zn) ?_ | refine EvQ.lift (fun _ zn => X.pcallC (cr) rfl X.cq rfl X.al rfl zn) ?_ | refine EvQ.lift (fun _ zn => X.pcallT (cr) (by decide) X.cq rfl X.al rfl zn) ?_ | refine EvQ.lift (fun _ zn => X.call rfl X.al (cr) zn) ?_ | refine EvQ.fin X.rs ?_ | refine EvQ.fin1 (fun _ => rfl) rfl ?_)
  exact ⟨_, rfl⟩
end Go.Proofs.YtnnhhfjkkmakaaaGreatDoor.clk
