import Derived.Test.YtfnoiklmcmboeaaGreatDoorEvE
import Derived.Test.YtfnoiklmcmboeaaGreatDoorCnw5
set_option linter.unusedSectionVars false
set_option linter.unusedVariables false
set_option linter.unusedSimpArgs false
-- proxy.New with any configuration (EvHp EvOwn)
namespace Go.Proofs.YtfnoiklmcmboeaaGreatDoor.cnw
open Go hiding Fn
open Ev tab
attribute [local irreducible] EvP EvD EvL EvC EvO evGds evLs C.run sK bK gK pK fK lpB stepD stat
/-- a cache's configuration -/
structure Cfg where
  bud : Int
  sh : Nat
  st : Int
  wn : Int
  ls : Int
  tr : Int
  ups : Int
def rowCf (c : Cfg) : List V := [.it .i64 c.bud, .fl .f64 c.sh, .it .i64 c.st, .it .i64 c.wn, .it .i64 c.ls, .it .i64 c.tr, .it .i64 c.ups]
def okP (c : Cfg) : Prop := okC c.st c.wn c.ls ∧ (0 ≤ c.bud ∧ c.bud ≤ 16777216) ∧ (1 ≤ c.tr ∧ c.tr ≤ 64) ∧ (1 ≤ c.ups ∧ c.ups ≤ 8)
theorem il1 {a b : Int} (h : a < b) : ilt a b = true := by rw [ilt_eq]; exact decide_eq_true h
theorem il0 {a b : Int} (h : ¬ a < b) : ilt a b = false := by rw [ilt_eq]; exact decide_eq_false h
set_option maxHeartbeats 8000000 in
theorem stoN_ok {own : Bool} (hp : Hp) (b : Int) (h : 0 ≤ b ∧ b ≤ 16777216) : ∃ w hp', EvC Fq own 20 [.it .i64 b] hp (.ret w hp') ∧ Made hp w hp' := by
  have q1 : ilt b (Int.ofNat 0) = false := il0 (by show ¬ b < 0; omega)
  have q2 : ilt (Int.ofNat 16777216) b = false := il0 (by show ¬ (16777216 : Int) < b; omega)
  refine EvC.ofQ d20 rfl rfl rfl ?_
  repeat' (first | refine EvQ.run ?_ | (refine EvQ.pickB rfl rfl rfl ?_) | (refine EvQ.cond rfl (fun h => ?_) (fun h => ?_) <;> ((first | replace h := X.nm h | skip); try have hne := ne_len h)) | (refine EvQ.g1 rfl (fun h => ?_) (fun h => ?_) <;> ((first | replace h := X.nm h | skip); try have hne := ne_len h)) | (refine EvQ.pick rfl (fun _ => rfl) (fun _ => rfl) (fun h => ?_) (fun h => ?_) <;> ((first | replace h := X.nm h | skip); try have hne := ne_len h)) | refine EvQ.fin X.rs ?_ | refine EvQ.fin1 (fun _ => rfl) rfl ?_)
  refine ⟨_, _, rfl, ?_⟩
  exact ⟨hp.next, rfl, Nat.le_refl _, Nat.lt_succ_self _, Up.new _ _ (Nat.le_refl _)⟩
set_option maxHeartbeats 8000000 in
theorem stoN_bad {own : Bool} (hp : Hp) (b : Int) (h : ¬ (0 ≤ b ∧ b ≤ 16777216)) : ∃ w hp', EvC Fq own 20 [.it .i64 b] hp (.ret w hp') ∧ (w = .tu [.np, .it .i64 1] ∧ hp' = hp) := by
  refine EvC.ofQ d20 rfl rfl rfl ?_
  by_cases h0 : b < 0
  · have q1 : ilt b (Int.ofNat 0) = true := il1 h0
    repeat' (first | refine EvQ.run ?_ | (refine EvQ.pickB rfl rfl rfl ?_) | (refine EvQ.cond rfl (fun h => ?_) (fun h => ?_) <;> ((first | replace h := X.nm h | skip); try have hne := ne_len h)) | (refine EvQ.g1 rfl (fun h => ?_) (fun h => ?_) <;> ((first | replace h := X.nm h | skip); try have hne := ne_len h)) | (refine EvQ.pick rfl (fun _ => rfl) (fun _ => rfl) (fun h => ?_) (fun h => ?_) <;> ((first | replace h := X.nm h | skip); try have hne := ne_len h)) | refine EvQ.fin X.rs ?_ | refine EvQ.fin1 (fun _ => rfl) rfl ?_)
    all_goals exact ⟨_, _, rfl, rfl, rfl⟩
  · have q1 : ilt b (Int.ofNat 0) = false := il0 h0
    have q2 : ilt (Int.ofNat 16777216) b = true := il1 (by show (16777216 : Int) < b; omega)
    repeat' (first | refine EvQ.run ?_ | (refine EvQ.pickB rfl rfl rfl ?_) | (refine EvQ.cond rfl (fun h => ?_) (fun h => ?_) <;> ((first | replace h := X.nm h | skip); try have hne := ne_len h)) | (refine EvQ.g1 rfl (fun h => ?_) (fun h => ?_) <;> ((first | replace h := X.nm h | skip); try have hne := ne_len h)) | (refine EvQ.pick rfl (fun _ => rfl) (fun _ => rfl) (fun h => ?_) (fun h => ?_) <;> ((first | replace h := X.nm h | skip); try have hne := ne_len h)) | refine EvQ.fin X.rs ?_ | refine EvQ.fin1 (fun _ => rfl) rfl ?_)
    all_goals exact ⟨_, _, rfl, rfl, rfl⟩
/-- a proxy's row, as it begins -/
def pxR (c : Cfg) (s : Nat) : List V := rowCf c ++ [.np, .np, .np, .np, .np, .np, .np, .np, .np, .np, .np, .np, .np, .np, .np, .np, .pt s 0 0, .it .i64 0, .ns, .ns]
set_option maxHeartbeats 32000000 in
theorem pxN_bad {own : Bool} (hp : Hp) (c : Cfg) (h : ¬ okP c) (hl : hp.lim ≤ hp.next) : ∃ w hp', EvC Fq own 5 [.ag (rowCf c)] hp (.ret w hp') ∧ (w = .tu [.np, .it .i64 1] ∧ Up hp.next hp hp') := by
  obtain ⟨bud, sh, st, wn, ls, tr, ups⟩ := c
  unfold okP at h
  simp only at h
  refine EvC.ofQ d5 rfl rfl rfl ?_
  by_cases h1 : okC st wn ls
  · repeat (first | refine EvQ.run ?_ | refine EvQ.fin X.rs ?_ | refine EvQ.fin1 (fun _ => rfl) rfl ?_)
    refine EvQ.call rfl X.al (cnew_ok (own := false) hp st wn ls h1 hl) ?_
    rintro _ hp1 ⟨r, u, p, v, q, rfl, -, -, -, -, u1, -⟩
    by_cases h2 : 0 ≤ bud ∧ bud ≤ 16777216
    · repeat (first | refine EvQ.run ?_ | refine EvQ.fin X.rs ?_ | refine EvQ.fin1 (fun _ => rfl) rfl ?_)
      refine EvQ.call rfl X.al (stoN_ok (own := false) hp1 bud h2) ?_
      rintro _ hp2 ⟨s, rfl, -, -, u2⟩
      have uu : Up hp.next hp hp2 := u1.trans (u2.mono u1.next)
      by_cases h3 : tr < 1
      · have q1 : ilt tr (Int.ofNat 1) = true := il1 h3
        repeat' (first | refine EvQ.run ?_ | (refine EvQ.pickB rfl rfl rfl ?_) | (refine EvQ.cond rfl (fun h => ?_) (fun h => ?_) <;> ((first | replace h := X.nm h | skip); try have hne := ne_len h)) | (refine EvQ.g1 rfl (fun h => ?_) (fun h => ?_) <;> ((first | replace h := X.nm h | skip); try have hne := ne_len h)) | (refine EvQ.pick rfl (fun _ => rfl) (fun _ => rfl) (fun h => ?_) (fun h => ?_) <;> ((first | replace h := X.nm h | skip); try have hne := ne_len h)) | refine EvQ.fin X.rs ?_ | refine EvQ.fin1 (fun _ => rfl) rfl ?_)
        all_goals exact ⟨_, _, rfl, rfl, uu⟩
      · have q1 : ilt tr (Int.ofNat 1) = false := il0 h3
        by_cases h4 : 64 < tr
        · have q2 : ilt (Int.ofNat 64) tr = true := il1 h4
          repeat' (first | refine EvQ.run ?_ | (refine EvQ.pickB rfl rfl rfl ?_) | (refine EvQ.cond rfl (fun h => ?_) (fun h => ?_) <;> ((first | replace h := X.nm h | skip); try have hne := ne_len h)) | (refine EvQ.g1 rfl (fun h => ?_) (fun h => ?_) <;> ((first | replace h := X.nm h | skip); try have hne := ne_len h)) | (refine EvQ.pick rfl (fun _ => rfl) (fun _ => rfl) (fun h => ?_) (fun h => ?_) <;> ((first | replace h := X.nm h | skip); try have hne := ne_len h)) | refine EvQ.fin X.rs ?_ | refine EvQ.fin1 (fun _ => rfl) rfl ?_)
          all_goals exact ⟨_, _, rfl, rfl, uu⟩
        · have q2 : ilt (Int.ofNat 64) tr = false := il0 h4
          by_cases h5 : ups < 1
          · have q3 : ilt ups (Int.ofNat 1) = true := il1 h5
            repeat' (first | refine EvQ.run ?_ | (refine EvQ.pickB rfl rfl rfl ?_) | (refine EvQ.cond rfl (fun h => ?_) (fun h => ?_) <;> ((first | replace h := X.nm h | skip); try have hne := ne_len h)) | (refine EvQ.g1 rfl (fun h => ?_) (fun h => ?_) <;> ((first | replace h := X.nm h | skip); try have hne := ne_len h)) | (refine EvQ.pick rfl (fun _ => rfl) (fun _ => rfl) (fun h => ?_) (fun h => ?_) <;> ((first | replace h := X.nm h | skip); try have hne := ne_len h)) | refine EvQ.fin X.rs ?_ | refine EvQ.fin1 (fun _ => rfl) rfl ?_)
            all_goals exact ⟨_, _, rfl, rfl, uu⟩
          · have q3 : ilt ups (Int.ofNat 1) = false := il0 h5
            have h6 : 8 < ups := by
              rcases Int.lt_or_le 8 ups with q | q
              · exact q
              · exact absurd ⟨h1, h2, ⟨by omega, by omega⟩, ⟨by omega, q⟩⟩ h
            have q4 : ilt (Int.ofNat 8) ups = true := il1 h6
            repeat' (first | refine EvQ.run ?_ | (refine EvQ.pickB rfl rfl rfl ?_) | (refine EvQ.cond rfl (fun h => ?_) (fun h => ?_) <;> ((first | replace h := X.nm h | skip); try have hne := ne_len h)) | (refine EvQ.g1 rfl (fun h => ?_) (fun h => ?_) <;> ((first | replace h := X.nm h | skip); try have hne := ne_len h)) | (refine EvQ.pick rfl (fun _ => rfl) (fun _ => rfl) (fun h => ?_) (fun h => ?_) <;> ((first | replace h := X.nm h | skip); try have hne := ne_len h)) | refine EvQ.fin X.rs ?_ | refine EvQ.fin1 (fun _ => rfl) rfl ?_)
            all_goals exact ⟨_, _, rfl, rfl, uu⟩
    · repeat (first | refine EvQ.run ?_ | refine EvQ.fin X.rs ?_ | refine EvQ.fin1 (fun _ => rfl) rfl ?_)
      refine EvQ.call rfl X.al (stoN_bad (own := false) hp1 bud h2) ?_
      rintro _ _ ⟨rfl, rfl⟩
      repeat' (first | refine EvQ.run ?_ | (refine EvQ.pickB rfl rfl rfl ?_) | (refine EvQ.cond rfl (fun h => ?_) (fun h => ?_) <;> ((first | replace h := X.nm h | skip); try have hne := ne_len h)) | (refine EvQ.g1 rfl (fun h => ?_) (fun h => ?_) <;> ((first | replace h := X.nm h | skip); try have hne := ne_len h)) | (refine EvQ.pick rfl (fun _ => rfl) (fun _ => rfl) (fun h => ?_) (fun h => ?_) <;> ((first | replace h := X.nm h | skip); try have hne := ne_len h)) | refine EvQ.fin X.rs ?_ | refine EvQ.fin1 (fun _ => rfl) rfl ?_)
      all_goals exact ⟨_, _, rfl, rfl, u1⟩
  · repeat (first | refine EvQ.run ?_ | refine EvQ.fin X.rs ?_ | refine EvQ.fin1 (fun _ => rfl) rfl ?_)
    refine EvQ.call rfl X.al (cnew_bad (own := false) hp st wn ls true h1) ?_
    rintro _ _ ⟨rfl, rfl⟩
    repeat' (first | refine EvQ.run ?_ | (refine EvQ.pickB rfl rfl rfl ?_) | (refine EvQ.cond rfl (fun h => ?_) (fun h => ?_) <;> ((first | replace h := X.nm h | skip); try have hne := ne_len h)) | (refine EvQ.g1 rfl (fun h => ?_) (fun h => ?_) <;> ((first | replace h := X.nm h | skip); try have hne := ne_len h)) | (refine EvQ.pick rfl (fun _ => rfl) (fun _ => rfl) (fun h => ?_) (fun h => ?_) <;> ((first | replace h := X.nm h | skip); try have hne := ne_len h)) | refine EvQ.fin X.rs ?_ | refine EvQ.fin1 (fun _ => rfl) rfl ?_)
    all_goals exact ⟨_, _, rfl, rfl, .refl _ _⟩
set_option maxHeartbeats 32000000 in
theorem pxN_ok {own : Bool} (hp : Hp) (c : Cfg) (h : okP c) (hl : hp.lim ≤ hp.next) : ∃ w hp', EvC Fq own 5 [.ag (rowCf c)] hp (.ret w hp') ∧ ∃ p s, w = .tu [.pt p 0 0, .it .i64 0] ∧ hget hp' p = some ⟨27, false, [pxR c s]⟩ ∧ hp.next ≤ p ∧ p < hp'.next ∧ Up hp.next hp hp' := by
  obtain ⟨bud, sh, st, wn, ls, tr, ups⟩ := c
  obtain ⟨h1, h2, h3, h4⟩ := h
  simp only at h1 h2 h3 h4
  have q1 : ilt tr (Int.ofNat 1) = false := il0 (by show ¬ tr < 1; omega)
  have q2 : ilt (Int.ofNat 64) tr = false := il0 (by show ¬ (64 : Int) < tr; omega)
  have q3 : ilt ups (Int.ofNat 1) = false := il0 (by show ¬ ups < 1; omega)
  have q4 : ilt (Int.ofNat 8) ups = false := il0 (by show ¬ (8 : Int) < ups; omega)
  refine EvC.ofQ d5 rfl rfl rfl ?_
  repeat (first | refine EvQ.run ?_ | refine EvQ.fin X.rs ?_ | refine EvQ.fin1 (fun _ => rfl) rfl ?_)
  refine EvQ.call rfl X.al (cnew_ok (own := false) hp st wn ls h1 hl) ?_
  rintro _ hp1 ⟨r, u, p, v, q, rfl, -, -, -, -, u1, -⟩
  repeat (first | refine EvQ.run ?_ | refine EvQ.fin X.rs ?_ | refine EvQ.fin1 (fun _ => rfl) rfl ?_)
  refine EvQ.call rfl X.al (stoN_ok (own := false) hp1 bud h2) ?_
  rintro _ hp2 ⟨s, rfl, -, -, u2⟩
  have uu : Up hp.next hp hp2 := u1.trans (u2.mono u1.next)
  repeat' (first | refine EvQ.run ?_ | (refine EvQ.pickB rfl rfl rfl ?_) | (refine EvQ.cond rfl (fun h => ?_) (fun h => ?_) <;> ((first | replace h := X.nm h | skip); try have hne := ne_len h)) | (refine EvQ.g1 rfl (fun h => ?_) (fun h => ?_) <;> ((first | replace h := X.nm h | skip); try have hne := ne_len h)) | (refine EvQ.pick rfl (fun _ => rfl) (fun _ => rfl) (fun h => ?_) (fun h => ?_) <;> ((first | replace h := X.nm h | skip); try have hne := ne_len h)) | refine EvQ.fin X.rs ?_ | refine EvQ.fin1 (fun _ => rfl) rfl ?_)
  exact ⟨_, _, rfl, hp2.next, s, rfl, hget_new _ _, uu.next, Nat.lt_succ_self _, uu.trans (Up.new _ _ uu.next)⟩
end Go.Proofs.YtfnoiklmcmboeaaGreatDoor.cnw
