import Derived.Test.YtddohjlkjakdlaaEvE
import Derived.Test.YtddohjlkjakdlaaPly7
set_option linter.unusedVariables false
set_option linter.unusedSimpArgs false
set_option linter.unusedSectionVars false
-- StorePlays: the whole (EvHp EvOwn)
namespace Go.Proofs.Ytddohjlkjakdlaa
open Go hiding Fn
open Ev tab
attribute [local irreducible] EvP EvD EvL EvC evGds evLs C.run sK bK gK pK fK lpB stepD matchS
theorem new_bad {own : Bool} (hp : Hp) (b : Int) (hb : b < 0 ∨ 16777216 < b) : ∃ w hp', EvC F own 9 [.it .i64 b] hp (.ret w hp') ∧ w = .tu [.np, .it .i64 (Int.ofNat 1)] ∧ hp' = hp := by
  refine EvC.ofQ d9 rfl rfl rfl ?_
  by_cases h0 : b < 0
  · have q1 : ilt b (Int.ofNat 0) = true := by rw [ilt_eq]; exact decide_eq_true h0
    repeat' (first | refine EvQ.run ?_ | (refine EvQ.pickB rfl rfl rfl ?_) | (refine EvQ.cond rfl (fun h => ?_) (fun h => ?_) <;> ((first | replace h := X.nm h | skip); try have hne := ne_len h)) | (refine EvQ.g1 rfl (fun h => ?_) (fun h => ?_) <;> ((first | replace h := X.nm h | skip); try have hne := ne_len h)) | (refine EvQ.pick rfl (fun _ => rfl) (fun _ => rfl) (fun h => ?_) (fun h => ?_) <;> ((first | replace h := X.nm h | skip); try have hne := ne_len h)) | refine EvQ.fin X.rs ?_ | refine EvQ.fin1 (fun _ => rfl) rfl ?_)
    all_goals exact ⟨_, _, rfl, rfl, rfl⟩
  · have h1 : 16777216 < b := hb.resolve_left h0
    have q1 : ilt b (Int.ofNat 0) = false := by rw [ilt_eq]; exact decide_eq_false h0
    have q2 : ilt (Int.ofNat 16777216) b = true := by rw [ilt_eq]; exact decide_eq_true h1
    repeat' (first | refine EvQ.run ?_ | (refine EvQ.pickB rfl rfl rfl ?_) | (refine EvQ.cond rfl (fun h => ?_) (fun h => ?_) <;> ((first | replace h := X.nm h | skip); try have hne := ne_len h)) | (refine EvQ.g1 rfl (fun h => ?_) (fun h => ?_) <;> ((first | replace h := X.nm h | skip); try have hne := ne_len h)) | (refine EvQ.pick rfl (fun _ => rfl) (fun _ => rfl) (fun h => ?_) (fun h => ?_) <;> ((first | replace h := X.nm h | skip); try have hne := ne_len h)) | refine EvQ.fin X.rs ?_ | refine EvQ.fin1 (fun _ => rfl) rfl ?_)
    all_goals exact ⟨_, _, rfl, rfl, rfl⟩
set_option maxHeartbeats 32000000 in
theorem ply_run (b : Int) (l : List Ak) (hl : l.length ≤ 2000000) (hA : ∀ a, a ∈ l → AOK a) : ∃ h, EvD F (stepD d7 [.it .i64 b, .vs 20 (aks l)] h0) (Rt (.bo true) h) := by
  have sr := storeruns_ok
  by_cases hb : b < 0 ∨ 16777216 < b
  · have nw := new_bad (own := false) h0 b hb
    refine EvQ.law ?_
    by_cases h0 : b < 0
    · have q1 : ilt b (Int.ofNat 0) = true := by rw [ilt_eq]; exact decide_eq_true h0
      repeat (first | refine EvQ.run ?_ | refine EvQ.fin X.rs ?_ | refine EvQ.fin1 (fun _ => rfl) rfl ?_)
      refine EvQ.call rfl X.al nw ?_
      rintro _ hp1 ⟨rfl, rfl⟩
      repeat' (first | refine EvQ.run ?_ | refine EvQ.lift (fun _ zn => X.pcall (sr) X.cq rfl X.al rfl zn) ?_ | refine EvQ.lift (fun _ zn => X.pcallG (sr) rfl X.cq rfl X.al rfl zn) ?_ | refine EvQ.lift (fun _ zn => X.pcallC (sr) rfl X.cq rfl X.al rfl zn) ?_ | refine EvQ.lift (fun _ zn => X.pcallT (sr) (by decide) X.cq rfl X.al rfl zn) ?_ | refine EvQ.lift (fun _ zn => X.call rfl X.al (sr) zn) ?_ | (refine EvQ.pickB rfl rfl rfl ?_) | (refine EvQ.cond rfl (fun h => ?_) (fun h => ?_) <;> ((first | replace h := X.nm h | skip); try have hne := ne_len h)) | (refine EvQ.g1 rfl (fun h => ?_) (fun h => ?_) <;> ((first | replace h := X.nm h | skip); try have hne := ne_len h)) | (refine EvQ.pick rfl (fun _ => rfl) (fun _ => rfl) (fun h => ?_) (fun h => ?_) <;> ((first | replace h := X.nm h | skip); try have hne := ne_len h)) | refine EvQ.fin X.rs ?_ | refine EvQ.fin1 (fun _ => rfl) rfl ?_)
      all_goals exact ⟨_, rfl⟩
    · have h1 : 16777216 < b := hb.resolve_left h0
      have q1 : ilt b (Int.ofNat 0) = false := by rw [ilt_eq]; exact decide_eq_false h0
      have q2 : ilt (Int.ofNat 16777216) b = true := by rw [ilt_eq]; exact decide_eq_true h1
      repeat (first | refine EvQ.run ?_ | refine EvQ.fin X.rs ?_ | refine EvQ.fin1 (fun _ => rfl) rfl ?_)
      refine EvQ.call rfl X.al nw ?_
      rintro _ hp1 ⟨rfl, rfl⟩
      repeat' (first | refine EvQ.run ?_ | refine EvQ.lift (fun _ zn => X.pcall (sr) X.cq rfl X.al rfl zn) ?_ | refine EvQ.lift (fun _ zn => X.pcallG (sr) rfl X.cq rfl X.al rfl zn) ?_ | refine EvQ.lift (fun _ zn => X.pcallC (sr) rfl X.cq rfl X.al rfl zn) ?_ | refine EvQ.lift (fun _ zn => X.pcallT (sr) (by decide) X.cq rfl X.al rfl zn) ?_ | refine EvQ.lift (fun _ zn => X.call rfl X.al (sr) zn) ?_ | (refine EvQ.pickB rfl rfl rfl ?_) | (refine EvQ.cond rfl (fun h => ?_) (fun h => ?_) <;> ((first | replace h := X.nm h | skip); try have hne := ne_len h)) | (refine EvQ.g1 rfl (fun h => ?_) (fun h => ?_) <;> ((first | replace h := X.nm h | skip); try have hne := ne_len h)) | (refine EvQ.pick rfl (fun _ => rfl) (fun _ => rfl) (fun h => ?_) (fun h => ?_) <;> ((first | replace h := X.nm h | skip); try have hne := ne_len h)) | refine EvQ.fin X.rs ?_ | refine EvQ.fin1 (fun _ => rfl) rfl ?_)
      all_goals exact ⟨_, rfl⟩
  · obtain ⟨n, rfl⟩ : ∃ n : Nat, b = Int.ofNat n := ⟨b.toNat, by simp only [Int.ofNat_eq_natCast]; omega⟩
    have hn : n ≤ 16777216 := by simp only [Int.ofNat_eq_natCast] at hb; omega
    have nw := new_ok (own := false) h0 n hn (Nat.le_refl _)
    refine EvQ.law ?_
    repeat (first | refine EvQ.run ?_ | refine EvQ.fin X.rs ?_ | refine EvQ.fin1 (fun _ => rfl) rfl ?_)
    refine EvQ.call rfl X.al nw ?_
    rintro _ hp1 ⟨rfl, hS, rfl⟩
    repeat (first | refine EvQ.run ?_ | refine EvQ.fin X.rs ?_ | refine EvQ.fin1 (fun _ => rfl) rfl ?_)
    have hT : TwoJ (hnew (hnew h0 ⟨3, false, [[.ns, .it .i64 (Int.ofNat 0), .it .i64 (Int.ofNat n)]]⟩) ⟨2, false, [[.ns, .it .i64 (Int.ofNat n)]]⟩) 0 1 n .ns .ns [] :=
      ⟨hS.kp (by decide : (1 : Nat) ≤ 2) rfl (fun j q => hget_old (by rcases q with rfl | q; exact (by decide : (0 : Nat) ≠ 1); cases q)),
        ⟨hget_new _ _, .ns, Nat.zero_le _, (by decide : (1 : Nat) < 2), (fun _ h => (nomatch h)), Nat.zero_le _, hn⟩, by decide, (fun h => nomatch h), (fun h => nomatch h), (fun _ h => nomatch h)⟩
    refine EvQ.loop (ply_loop 0 1 n l hl hA _ hT (Nat.zero_le _) _ ?_ _ ?_) ?_
    · exact X.lo
    · exact X.kv
    rintro _ ⟨tm, lo, hp2, rfl, -⟩
    repeat (first | refine EvQ.run ?_ | refine EvQ.lift (fun _ zn => X.pcall (sr) X.cq rfl X.al rfl zn) ?_ | refine EvQ.lift (fun _ zn => X.pcallG (sr) rfl X.cq rfl X.al rfl zn) ?_ | refine EvQ.lift (fun _ zn => X.pcallC (sr) rfl X.cq rfl X.al rfl zn) ?_ | refine EvQ.lift (fun _ zn => X.pcallT (sr) (by decide) X.cq rfl X.al rfl zn) ?_ | refine EvQ.lift (fun _ zn => X.call rfl X.al (sr) zn) ?_ | refine EvQ.fin X.rs ?_ | refine EvQ.fin1 (fun _ => rfl) rfl ?_)
    exact ⟨_, rfl⟩
theorem ply_law (xs : List V) (h : ShP [(false, [.it .i64]), (false, [.sl [.it .i64, .st, .st, .st, .st, .sl [.st, .st], .it .i64, .it .i64, .sl [.st, .st], .it .i64, .st, .it .i64, .it .i64, .st, .st, .st, .st, .sl [.st, .st], .it .i64, .st]])] xs) (hb : sizP xs ≤ 1048576) : ∃ L k hp', runF (callF F L k) L c7 xs h0 = .ret (.bo true) hp' := by
  obtain ⟨z, r, rfl, h4, h, e4⟩ := h.one'
  obtain ⟨y, r, rfl, h3, h, e3⟩ := h.one'
  cases h.nil'
  obtain ⟨es, rfl, h5, e5⟩ := slice_of h3
  obtain ⟨l, rfl, h6, e6⟩ := aks_of h5 (by omega)
  obtain ⟨c, rfl, _⟩ := int_of h4
  exact law_of d7 rfl (ply_run c l (by omega) h6)
end Go.Proofs.Ytddohjlkjakdlaa
