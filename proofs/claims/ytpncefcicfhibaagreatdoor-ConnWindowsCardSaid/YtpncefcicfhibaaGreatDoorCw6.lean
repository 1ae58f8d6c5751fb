import Derived.Test.YtpncefcicfhibaaGreatDoorEvE
import Derived.Test.YtpncefcicfhibaaGreatDoorCw5
import Derived.Test.YtpncefcicfhibaaGreatDoorWith
set_option linter.unusedVariables false
set_option linter.unusedSimpArgs false
set_option linter.unusedSectionVars false
-- ConnWindows: its rounds (EvHp EvOwn)
namespace Go.Proofs.YtpncefcicfhibaaGreatDoor.win
open Go hiding Fn
open Ev tab back
def is (l : List Int) : List (List V) := l.map fun n => [.it .i64 n]
theorem is_length (l : List Int) : (is l).length = l.length := by simp [is]
theorem is_getD {l : List Int} {i : Nat} (h : i < l.length) : (is l).getD i [] = [.it .i64 (l.getD i 0)] := by simp [is, List.getD, h]
theorem hi_b (k : Nat) : 0 ≤ hiB k ∧ hiB k ≤ 255 := wr8_b _
theorem lo_b (k : Nat) : 0 ≤ loB k ∧ loB k ≤ 255 := wr8_b _
/-- what holds in each round -/
def JW (pw : Int) (i : Int) (n len : Nat) (hp : Hp) : Prop := ∃ o q qs, WS hp pw (Int.ofNat o) q qs (Int.ofNat n) ∧ len ≤ o ∧ o ≤ 65535 ∧ (qs.length : Int) ≤ 19 + 9 * (i + 1) + (8000 - len)
abbrev e4 (k : Nat) : List (List V) := [[.it .u8 0], [.it .u8 0], [.it .u8 (wr .u8 ((Int.ofNat k).fdiv (Int.ofNat 256)))], [.it .u8 (wr .u8 (Int.ofNat k))]]
theorem putw (k : Nat) : EvP F 24 c24 [.vs 1 [], .ag [.it .i64 8, .it .i64 0, .it .i64 1, .vs 1 (e4 k)]] [.vs 1 (bs (h9 8 0 1 [0, 0, hiB k, loB k].length ++ [0, 0, hiB k, loB k]))] := by
  have := (rput_ok [] 8 0 1 [0, 0, hiB k, loB k] (by simp)).toP
  have e : putL [] 8 0 1 [0, 0, hiB k, loB k] = h9 8 0 1 [0, 0, hiB k, loB k].length ++ [0, 0, hiB k, loB k] := by unfold putL; rfl
  rw [e] at this
  exact this
theorem clo_e4 (k : Nat) : CloL [.one, .one, .one, .sl [.one]] [.it .i64 8, .it .i64 0, .it .i64 1, .vs 1 (e4 k)] := fr_clo 8 0 1 [0, 0, hiB k, loB k]
theorem neq_ok (a b : Nat) : (!(ieq (Int.ofNat (min a b)) (bif ilt (Int.ofNat b) (Int.ofNat a) then Int.ofNat b else Int.ofNat a))) = false := by
  have e : (bif ilt (Int.ofNat b) (Int.ofNat a) then Int.ofNat b else Int.ofNat a) = Int.ofNat (min a b) := by
    by_cases h : b < a
    · rw [show ilt (Int.ofNat b) (Int.ofNat a) = true by rw [ilt_eq]; exact decide_eq_true (by simp only [Int.ofNat_eq_natCast]; omega), Nat.min_eq_right (by omega)]; rfl
    · rw [show ilt (Int.ofNat b) (Int.ofNat a) = false by rw [ilt_eq]; exact decide_eq_false (by simp only [Int.ofNat_eq_natCast]; omega), Nat.min_eq_left (by omega)]; rfl
  rw [e, ieqD, decide_eq_true rfl]; rfl
attribute [local irreducible] EvP EvD EvL EvC EvO evGds evLs C.run sK bK gK pK fK lpB stepD numE bareE
set_option maxHeartbeats 64000000 in
theorem win_loop (cs : List Int) (pw : Int) (n : Nat) (hn : n ≤ 5000) (l : List Nat) (hl : l.length ≤ 8000) (hp0 : Hp) (hJ0 : JW pw (-1) n l.length hp0) (lo : Lo) (hlo : shed [10] lo = fun _ => none) (tm : Tm)
    (hk : [1, 7, 8, 9, 11].map (fun x => (x, tm x)) = [(1, .vs 1 (is cs)), (7, .pt 0 0 0), (8, .it .i64 (Int.ofNat n)), (9, .st l), (11, .it .i64 (-1))]) :
    ∃ r, EvL F [1, 7, 8, 9, 11] [10] (lpB (d6.body.lps.getD 0 .skip)) ⟨tm, lo, hp0⟩ r ∧ XtQ 0 [] (fun lo hp => True) r := by
  refine EvL.invQ (S := Int × Nat × List Nat) (fun y => [(1, .vs 1 (is cs)), (7, .pt 0 0 0), (8, .it .i64 (Int.ofNat y.2.1)), (9, .st y.2.2), (11, .it .i64 y.1)])
    (fun y lo hp => shed [10] lo = (fun _ => none) ∧ -1 ≤ y.1 ∧ y.1 ≤ 20 ∧ (y.2.1 : Int) ≤ 5000 + 2000 * (y.1 + 1) ∧ y.2.2.length ≤ 8000 ∧ JW pw y.1 y.2.1 y.2.2.length hp) (fun y => (21 - y.1).toNat) _ ?_ (-1, n, l) tm lo hp0 ⟨hlo, (by decide : (-1 : Int) ≤ -1), (by decide : (-1 : Int) ≤ 20), by show (n : Int) ≤ 5000 + 2000 * (-1 + 1); omega, hl, hJ0⟩ hk
  rintro ⟨i, n, l⟩ lo hp ⟨e1, e2, e3, e5, e6, o, q, qs, hS, e7, e8, e9⟩
  simp only at e2 e3 e5 e6 e7 e9
  rw [e1]
  have hcl := is_length cs
  have hw : wr .i64 (i + Int.ofNat 1) = i + 1 := wr64 (by simp only [Int.ofNat_eq_natCast]; omega) (by simp only [Int.ofNat_eq_natCast]; omega)
  rcases (show i = -1 ∨ 0 ≤ i by omega) with rfl | hi
  · have dt := data_ok o n hS l e6 e7 e8 (by omega) (by omega)
    repeat (first | refine EvQ.run ?_ | refine EvQ.fin X.rs ?_ | refine EvQ.fin1 (fun _ => rfl) rfl ?_)
    refine EvQ.call rfl X.al dt ?_
    rintro _ hp2 ⟨rfl, q2, qs2, hS2, hq2⟩
    repeat (first | refine EvQ.run ?_ | refine EvQ.fin X.rs ?_ | refine EvQ.fin1 (fun _ => rfl) rfl ?_)
    refine EvQ.cond (b := !(ieq (Int.ofNat (min n l.length)) (bif ilt (Int.ofNat l.length) (Int.ofNat n) then Int.ofNat l.length else Int.ofNat n))) rfl (fun h => ?_) (fun _ => ?_)
    · rw [neq_ok] at h; cases h
    have hm1 : min n l.length ≤ n := Nat.min_le_left _ _
    have hm2 : min n l.length ≤ l.length := Nat.min_le_right _ _
    generalize min n l.length = mm at *
    repeat (first | refine EvQ.run ?_ | refine EvQ.fin X.rs ?_ | refine EvQ.fin1 (fun _ => rfl) rfl ?_)
    refine EvQ.go (0, n - mm, l.drop mm) X.kv ⟨X.lo, ?_, ?_, ?_, ?_, o - mm, q2, qs2, hS2, ?_, ?_, ?_⟩ ?_
    all_goals simp only [List.length_drop, Int.ofNat_eq_natCast] at *
    all_goals omega
  · obtain ⟨k, rfl⟩ : ∃ k : Nat, i = Int.ofNat k := ⟨i.toNat, by simp only [Int.ofNat_eq_natCast]; omega⟩
    by_cases hc : k < cs.length ∧ k < 20
    · obtain ⟨h1, h2⟩ := hc
      have hge := is_getD h1
      obtain ⟨m, w1, w2, W⟩ := within_p (cs.getD k 0) 1 2000 (by decide) (by decide) (by decide)
      obtain ⟨m, rfl⟩ : ∃ m' : Nat, m = Int.ofNat m' := ⟨m.toNat, by simp only [Int.ofNat_eq_natCast]; omega⟩
      simp only [Int.ofNat_eq_natCast] at w1 w2
      generalize cs.getD k 0 = c at *
      have pw := putw m
      have cl := clo_e4 m
      have fw := feed_win (v := .vs 1 (bs (h9 8 0 1 [0, 0, hiB m, loB m].length ++ [0, 0, hiB m, loB m]))) hS 0 0 (hiB m) (loB m) m (nums (by omega)).2 (by omega) (by omega) (by simp only [Int.ofNat_eq_natCast]; omega) (by simp only [Int.ofNat_eq_natCast]; omega) (By.vs hp _)
        ((h9_bytes 8 0 1 _).append (by intro y hy; simp only [List.mem_cons, List.not_mem_nil, or_false] at hy; have := hi_b m; have := lo_b m; rcases hy with rfl | rfl | rfl | rfl <;> omega))
      generalize h9 8 0 1 [0, 0, hiB m, loB m].length ++ [0, 0, hiB m, loB m] = fb at *
      repeat (first | refine EvQ.run ?_ | refine EvQ.lift (fun _ zn => X.pcall (W) X.cq rfl X.al rfl zn) ?_ | refine EvQ.lift (fun _ zn => X.pcallG (W) rfl X.cq rfl X.al rfl zn) ?_ | refine EvQ.lift (fun _ zn => X.pcallC (W) rfl X.cq rfl X.al rfl zn) ?_ | refine EvQ.lift (fun _ zn => X.pcallT (W) (by decide) X.cq rfl X.al rfl zn) ?_ | refine EvQ.lift (fun _ zn => X.call rfl X.al (W) zn) ?_ | refine EvQ.lift (fun _ zn => X.pcall (pw) X.cq rfl X.al rfl zn) ?_ | refine EvQ.lift (fun _ zn => X.pcallG (pw) rfl X.cq rfl X.al rfl zn) ?_ | refine EvQ.lift (fun _ zn => X.pcallC (pw) rfl X.cq rfl X.al rfl zn) ?_ | refine EvQ.lift (fun _ zn => X.pcallT (pw) (by decide) X.cq rfl X.al rfl zn) ?_ | refine EvQ.lift (fun _ zn => X.call rfl X.al (pw) zn) ?_ | refine EvQ.fin X.rs ?_ | refine EvQ.fin1 (fun _ => rfl) rfl ?_)
      refine EvQ.call rfl X.al fw ?_
      rintro _ hp1 ⟨rfl, hS1⟩
      have dt := data_ok o (n + m) hS1 l e6 e7 e8 (by simp only [Int.ofNat_eq_natCast] at *; omega) (by simp only [Int.ofNat_eq_natCast] at *; omega)
      repeat (first | refine EvQ.run ?_ | refine EvQ.fin X.rs ?_ | refine EvQ.fin1 (fun _ => rfl) rfl ?_)
      refine EvQ.call rfl X.al dt ?_
      rintro _ hp2 ⟨rfl, q2, qs2, hS2, hq2⟩
      repeat (first | refine EvQ.run ?_ | refine EvQ.fin X.rs ?_ | refine EvQ.fin1 (fun _ => rfl) rfl ?_)
      refine EvQ.cond (b := !(ieq (Int.ofNat (min (n + m) l.length)) (bif ilt (Int.ofNat l.length) (Int.ofNat (n + m)) then Int.ofNat l.length else Int.ofNat (n + m)))) rfl (fun h => ?_) (fun _ => ?_)
      · rw [neq_ok] at h; cases h
      have hm1 : min (n + m) l.length ≤ (n + m) := Nat.min_le_left _ _
      have hm2 : min (n + m) l.length ≤ l.length := Nat.min_le_right _ _
      generalize min (n + m) l.length = mm at *
      repeat (first | refine EvQ.run ?_ | refine EvQ.fin X.rs ?_ | refine EvQ.fin1 (fun _ => rfl) rfl ?_)
      refine EvQ.go (Int.ofNat (k + 1), (n + m) - mm, l.drop mm) X.kv ⟨X.lo, ?_, ?_, ?_, ?_, o - mm, q2, qs2, hS2, ?_, ?_, ?_⟩ ?_
      all_goals simp only [List.length_drop, Int.ofNat_eq_natCast] at *
      all_goals omega
    · have hx : ¬ k < cs.length ∨ ¬ k < 20 := by omega
      rcases hx with h1 | h1
      · repeat' (first | refine EvQ.run ?_ | (refine EvQ.pickB rfl rfl rfl ?_) | (refine EvQ.cond rfl (fun h => ?_) (fun h => ?_) <;> ((first | replace h := X.nm h | skip); try have hne := ne_len h)) | (refine EvQ.g1 rfl (fun h => ?_) (fun h => ?_) <;> ((first | replace h := X.nm h | skip); try have hne := ne_len h)) | (refine EvQ.pick rfl (fun _ => rfl) (fun _ => rfl) (fun h => ?_) (fun h => ?_) <;> ((first | replace h := X.nm h | skip); try have hne := ne_len h)) | refine EvQ.fin X.rs ?_ | refine EvQ.fin1 (fun _ => rfl) rfl ?_)
        exact EvQ.xt (.mk' X.kv trivial)
      · repeat' (first | refine EvQ.run ?_ | (refine EvQ.pickB rfl rfl rfl ?_) | (refine EvQ.cond rfl (fun h => ?_) (fun h => ?_) <;> ((first | replace h := X.nm h | skip); try have hne := ne_len h)) | (refine EvQ.g1 rfl (fun h => ?_) (fun h => ?_) <;> ((first | replace h := X.nm h | skip); try have hne := ne_len h)) | (refine EvQ.pick rfl (fun _ => rfl) (fun _ => rfl) (fun h => ?_) (fun h => ?_) <;> ((first | replace h := X.nm h | skip); try have hne := ne_len h)) | refine EvQ.fin X.rs ?_ | refine EvQ.fin1 (fun _ => rfl) rfl ?_)
        all_goals exact EvQ.xt (.mk' X.kv trivial)
end Go.Proofs.YtpncefcicfhibaaGreatDoor.win
