import Derived.Test.YtpncefcicfhibaaGreatDoorEvE
import Derived.Test.YtpncefcicfhibaaGreatDoorShu1
import Derived.Test.YtpncefcicfhibaaGreatDoorShuX
set_option linter.unusedVariables false
set_option linter.unusedSimpArgs false
-- ConnShuts (EvHp EvOwn)
namespace Go.Proofs.YtpncefcicfhibaaGreatDoor.shuts
open Go hiding Fn
open Ev tab
attribute [local irreducible] EvP EvD EvL EvC evGds evLs C.run sK bK gK pK fK lpB stepD hpA hpB hpX hpO hpZ vO vB wantV
theorem and15 (c : Int) : ∃ x : Nat, x ≤ 15 ∧ wr .i64 (andI c 15) = Int.ofNat x := by
  unfold andI
  rw [show toU (2 ^ kbits .u8) 15 = 15 from rfl]
  generalize toU (2 ^ kbits .u8) c = y
  have h : Nat.land y 15 ≤ 15 := Nat.and_le_right
  refine ⟨Nat.land y 15, h, ?_⟩
  generalize Nat.land y 15 = z at *
  have e : wr .u8 (Int.ofNat z) = Int.ofNat z := by
    show Int.ofNat (z % 256) = _
    rw [Nat.mod_eq_of_lt (by omega)]
  rw [e]
  exact wr64 (by simp only [Int.ofNat_eq_natCast]; omega) (by simp only [Int.ofNat_eq_natCast]; omega)
set_option maxHeartbeats 16000000 in
theorem shuts_loop (x : Int) (hp0 ho hz : Hp) (vo w : V) (hF : FX x hp0 ho hz vo w) (l : List AskV) (hl : l.length ≤ 1000000000) (hr : ∀ a, a ∈ l → a.rows.length ≤ 1000000000) (lo : Lo) (hlo : shed [9] lo = fun _ => none) (tm : Tm)
    (hk : [1, 5, 6, 7, 8].map (fun x => (x, tm x)) = [(1, .vs 11 (asks l)), (5, cp), (6, .it .i64 x), (7, .it .i64 17), (8, .it .i64 (Int.ofNat 0))]) :
    ∃ r, EvL F [1, 5, 6, 7, 8] [9] (lpB (d9.body.lps.getD 0 .skip)) ⟨tm, lo, hp0⟩ r ∧ XtQ 0 [(5, cp), (6, .it .i64 x), (7, .it .i64 17)] (fun lo hp => shed [9] lo = (fun _ => none) ∧ hp = hp0) r := by
  refine EvL.invQ (S := Nat) (fun i => [(1, .vs 11 (asks l)), (5, cp), (6, .it .i64 x), (7, .it .i64 17), (8, .it .i64 (Int.ofNat i))])
    (fun i lo hp => shed [9] lo = (fun _ => none) ∧ i ≤ 20 ∧ hp = hp0) (fun i => 20 - i) _ ?_ 0 tm lo hp0 ⟨hlo, Nat.zero_le _, rfl⟩ hk
  rintro i lo hp ⟨e1, e2, rfl⟩
  rw [e1]
  have hal := asks_length l
  by_cases hc : i < l.length ∧ i < 20
  · obtain ⟨h1, h2⟩ := hc
    have hge := asks_getD h1
    have hra : (l.getD i a0).rows.length ≤ 1000000000 := by
      rw [List.getD, List.getElem?_eq_getElem h1]; exact hr _ (List.getElem_mem h1)
    generalize l.getD i a0 = a at *
    obtain ⟨b, W⟩ := light_ok a hra
    have clo := a.clo
    have c1 := hF.feed (bs a.b)
    have c2 := hF.head (rws a.rows) a.fin
    have c3 := hF.reset
    have c4 := hF.credit
    cases b with
    | false =>
      repeat (first | refine EvQ.run ?_ | refine EvQ.lift (fun _ zn => X.pcall (W) X.cq rfl X.al rfl zn) ?_ | refine EvQ.lift (fun _ zn => X.pcallG (W) rfl X.cq rfl X.al rfl zn) ?_ | refine EvQ.lift (fun _ zn => X.pcallC (W) rfl X.cq rfl X.al rfl zn) ?_ | refine EvQ.lift (fun _ zn => X.pcallT (W) (by decide) X.cq rfl X.al rfl zn) ?_ | refine EvQ.lift (fun _ zn => X.call rfl X.al (W) zn) ?_ | refine EvQ.fin X.rs ?_ | refine EvQ.fin1 (fun _ => rfl) rfl ?_)
      exact EvQ.go (i + 1) X.kv ⟨X.lo, by show i + 1 ≤ 20; omega, rfl⟩ (by show 20 - (i + 1) < 20 - i; omega)
    | true =>
      repeat (first | refine EvQ.run ?_ | refine EvQ.lift (fun _ zn => X.pcall (W) X.cq rfl X.al rfl zn) ?_ | refine EvQ.lift (fun _ zn => X.pcallG (W) rfl X.cq rfl X.al rfl zn) ?_ | refine EvQ.lift (fun _ zn => X.pcallC (W) rfl X.cq rfl X.al rfl zn) ?_ | refine EvQ.lift (fun _ zn => X.pcallT (W) (by decide) X.cq rfl X.al rfl zn) ?_ | refine EvQ.lift (fun _ zn => X.call rfl X.al (W) zn) ?_ | refine EvQ.lift (fun _ zn => X.pcall (c1) X.cq rfl X.al rfl zn) ?_ | refine EvQ.lift (fun _ zn => X.pcallG (c1) rfl X.cq rfl X.al rfl zn) ?_ | refine EvQ.lift (fun _ zn => X.pcallC (c1) rfl X.cq rfl X.al rfl zn) ?_ | refine EvQ.lift (fun _ zn => X.pcallT (c1) (by decide) X.cq rfl X.al rfl zn) ?_ | refine EvQ.lift (fun _ zn => X.call rfl X.al (c1) zn) ?_ | refine EvQ.lift (fun _ zn => X.pcall (c2) X.cq rfl X.al rfl zn) ?_ | refine EvQ.lift (fun _ zn => X.pcallG (c2) rfl X.cq rfl X.al rfl zn) ?_ | refine EvQ.lift (fun _ zn => X.pcallC (c2) rfl X.cq rfl X.al rfl zn) ?_ | refine EvQ.lift (fun _ zn => X.pcallT (c2) (by decide) X.cq rfl X.al rfl zn) ?_ | refine EvQ.lift (fun _ zn => X.call rfl X.al (c2) zn) ?_ | refine EvQ.lift (fun _ zn => X.pcall (c3) X.cq rfl X.al rfl zn) ?_ | refine EvQ.lift (fun _ zn => X.pcallG (c3) rfl X.cq rfl X.al rfl zn) ?_ | refine EvQ.lift (fun _ zn => X.pcallC (c3) rfl X.cq rfl X.al rfl zn) ?_ | refine EvQ.lift (fun _ zn => X.pcallT (c3) (by decide) X.cq rfl X.al rfl zn) ?_ | refine EvQ.lift (fun _ zn => X.call rfl X.al (c3) zn) ?_ | refine EvQ.lift (fun _ zn => X.pcall (c4) X.cq rfl X.al rfl zn) ?_ | refine EvQ.lift (fun _ zn => X.pcallG (c4) rfl X.cq rfl X.al rfl zn) ?_ | refine EvQ.lift (fun _ zn => X.pcallC (c4) rfl X.cq rfl X.al rfl zn) ?_ | refine EvQ.lift (fun _ zn => X.pcallT (c4) (by decide) X.cq rfl X.al rfl zn) ?_ | refine EvQ.lift (fun _ zn => X.call rfl X.al (c4) zn) ?_ | refine EvQ.fin X.rs ?_ | refine EvQ.fin1 (fun _ => rfl) rfl ?_)
      exact EvQ.go (i + 1) X.kv ⟨X.lo, by show i + 1 ≤ 20; omega, rfl⟩ (by show 20 - (i + 1) < 20 - i; omega)
  · have hx : ¬ i < l.length ∨ ¬ i < 20 := by omega
    rcases hx with h1 | h1
    · repeat' (first | refine EvQ.run ?_ | (refine EvQ.pickB rfl rfl rfl ?_) | (refine EvQ.cond rfl (fun h => ?_) (fun h => ?_) <;> ((first | replace h := X.nm h | skip); try have hne := ne_len h)) | (refine EvQ.g1 rfl (fun h => ?_) (fun h => ?_) <;> ((first | replace h := X.nm h | skip); try have hne := ne_len h)) | (refine EvQ.pick rfl (fun _ => rfl) (fun _ => rfl) (fun h => ?_) (fun h => ?_) <;> ((first | replace h := X.nm h | skip); try have hne := ne_len h)) | refine EvQ.fin X.rs ?_ | refine EvQ.fin1 (fun _ => rfl) rfl ?_)
      exact EvQ.xt (.mk' X.kv ⟨X.lo, rfl⟩)
    · repeat' (first | refine EvQ.run ?_ | (refine EvQ.pickB rfl rfl rfl ?_) | (refine EvQ.cond rfl (fun h => ?_) (fun h => ?_) <;> ((first | replace h := X.nm h | skip); try have hne := ne_len h)) | (refine EvQ.g1 rfl (fun h => ?_) (fun h => ?_) <;> ((first | replace h := X.nm h | skip); try have hne := ne_len h)) | (refine EvQ.pick rfl (fun _ => rfl) (fun _ => rfl) (fun h => ?_) (fun h => ?_) <;> ((first | replace h := X.nm h | skip); try have hne := ne_len h)) | refine EvQ.fin X.rs ?_ | refine EvQ.fin1 (fun _ => rfl) rfl ?_)
      all_goals exact EvQ.xt (.mk' X.kv ⟨X.lo, rfl⟩)
set_option maxHeartbeats 16000000 in
theorem shuts_run (c : Int) (l : List AskV) (hl : l.length ≤ 1000000000) (hr : ∀ a, a ∈ l → a.rows.length ≤ 1000000000) : ∃ h, EvD F (stepD d9 [.it .u8 c, .vs 11 (asks l)] h0) (Rt (.bo true) h) := by
  obtain ⟨x, hx, ex⟩ := and15 c
  have hF := fx x hx
  generalize hpX (Int.ofNat x) = hp0 at hF
  generalize hpO (Int.ofNat x) = ho at hF
  generalize hpZ (Int.ofNat x) = hz at hF
  generalize vO (Int.ofNat x) = vo at hF
  generalize wantV (Int.ofNat x) = w at hF
  rw [← ex] at hF
  have b1 := fb.own
  have b2 := fb.new
  have b3 := fb.put
  have b4 := fb.feed
  have blp := fb.lp
  have f1 := hF.shut
  have f2 := hF.again
  have f3 := hF.wait
  refine EvQ.law ?_
  repeat (first | refine EvQ.run ?_ | refine EvQ.lift (fun _ zn => X.pcall (b1) X.cq rfl X.al rfl zn) ?_ | refine EvQ.lift (fun _ zn => X.pcallG (b1) rfl X.cq rfl X.al rfl zn) ?_ | refine EvQ.lift (fun _ zn => X.pcallC (b1) rfl X.cq rfl X.al rfl zn) ?_ | refine EvQ.lift (fun _ zn => X.pcallT (b1) (by decide) X.cq rfl X.al rfl zn) ?_ | refine EvQ.lift (fun _ zn => X.call rfl X.al (b1) zn) ?_ | refine EvQ.lift (fun _ zn => X.pcall (b2) X.cq rfl X.al rfl zn) ?_ | refine EvQ.lift (fun _ zn => X.pcallG (b2) rfl X.cq rfl X.al rfl zn) ?_ | refine EvQ.lift (fun _ zn => X.pcallC (b2) rfl X.cq rfl X.al rfl zn) ?_ | refine EvQ.lift (fun _ zn => X.pcallT (b2) (by decide) X.cq rfl X.al rfl zn) ?_ | refine EvQ.lift (fun _ zn => X.call rfl X.al (b2) zn) ?_ | refine EvQ.lift (fun _ zn => X.pcall (b3) X.cq rfl X.al rfl zn) ?_ | refine EvQ.lift (fun _ zn => X.pcallG (b3) rfl X.cq rfl X.al rfl zn) ?_ | refine EvQ.lift (fun _ zn => X.pcallC (b3) rfl X.cq rfl X.al rfl zn) ?_ | refine EvQ.lift (fun _ zn => X.pcallT (b3) (by decide) X.cq rfl X.al rfl zn) ?_ | refine EvQ.lift (fun _ zn => X.call rfl X.al (b3) zn) ?_ | refine EvQ.lift (fun _ zn => X.pcall (b4) X.cq rfl X.al rfl zn) ?_ | refine EvQ.lift (fun _ zn => X.pcallG (b4) rfl X.cq rfl X.al rfl zn) ?_ | refine EvQ.lift (fun _ zn => X.pcallC (b4) rfl X.cq rfl X.al rfl zn) ?_ | refine EvQ.lift (fun _ zn => X.pcallT (b4) (by decide) X.cq rfl X.al rfl zn) ?_ | refine EvQ.lift (fun _ zn => X.call rfl X.al (b4) zn) ?_ | refine EvQ.lift (fun _ zn => X.pcall (f1) X.cq rfl X.al rfl zn) ?_ | refine EvQ.lift (fun _ zn => X.pcallG (f1) rfl X.cq rfl X.al rfl zn) ?_ | refine EvQ.lift (fun _ zn => X.pcallC (f1) rfl X.cq rfl X.al rfl zn) ?_ | refine EvQ.lift (fun _ zn => X.pcallT (f1) (by decide) X.cq rfl X.al rfl zn) ?_ | refine EvQ.lift (fun _ zn => X.call rfl X.al (f1) zn) ?_ | refine EvQ.lift (fun _ zn => X.pcall (f2) X.cq rfl X.al rfl zn) ?_ | refine EvQ.lift (fun _ zn => X.pcallG (f2) rfl X.cq rfl X.al rfl zn) ?_ | refine EvQ.lift (fun _ zn => X.pcallC (f2) rfl X.cq rfl X.al rfl zn) ?_ | refine EvQ.lift (fun _ zn => X.pcallT (f2) (by decide) X.cq rfl X.al rfl zn) ?_ | refine EvQ.lift (fun _ zn => X.call rfl X.al (f2) zn) ?_ | refine EvQ.lift (fun _ zn => X.pcall (f3) X.cq rfl X.al rfl zn) ?_ | refine EvQ.lift (fun _ zn => X.pcallG (f3) rfl X.cq rfl X.al rfl zn) ?_ | refine EvQ.lift (fun _ zn => X.pcallC (f3) rfl X.cq rfl X.al rfl zn) ?_ | refine EvQ.lift (fun _ zn => X.pcallT (f3) (by decide) X.cq rfl X.al rfl zn) ?_ | refine EvQ.lift (fun _ zn => X.call rfl X.al (f3) zn) ?_ | refine EvQ.fin X.rs ?_ | refine EvQ.fin1 (fun _ => rfl) rfl ?_)
  refine EvQ.loop (shuts_loop _ hp0 ho hz vo w hF l hl hr _ ?_ _ ?_) ?_
  · exact X.lo
  · exact X.kv
  rintro _ ⟨tm, lo, hp2, rfl, elo, rfl⟩
  have g1 := hF.want
  have g2 := hF.streams
  have g3 := hF.dead
  have g4 := hF.out
  have g5 := hF.same
  have g6 := hF.lp
  have g7 := hF.wlp
  have g8 := cr_ok hz
  repeat (first | refine EvQ.run ?_ | refine EvQ.lift (fun _ zn => X.pcall (g1) X.cq rfl X.al rfl zn) ?_ | refine EvQ.lift (fun _ zn => X.pcallG (g1) rfl X.cq rfl X.al rfl zn) ?_ | refine EvQ.lift (fun _ zn => X.pcallC (g1) rfl X.cq rfl X.al rfl zn) ?_ | refine EvQ.lift (fun _ zn => X.pcallT (g1) (by decide) X.cq rfl X.al rfl zn) ?_ | refine EvQ.lift (fun _ zn => X.call rfl X.al (g1) zn) ?_ | refine EvQ.lift (fun _ zn => X.pcall (g2) X.cq rfl X.al rfl zn) ?_ | refine EvQ.lift (fun _ zn => X.pcallG (g2) rfl X.cq rfl X.al rfl zn) ?_ | refine EvQ.lift (fun _ zn => X.pcallC (g2) rfl X.cq rfl X.al rfl zn) ?_ | refine EvQ.lift (fun _ zn => X.pcallT (g2) (by decide) X.cq rfl X.al rfl zn) ?_ | refine EvQ.lift (fun _ zn => X.call rfl X.al (g2) zn) ?_ | refine EvQ.lift (fun _ zn => X.pcall (f3) X.cq rfl X.al rfl zn) ?_ | refine EvQ.lift (fun _ zn => X.pcallG (f3) rfl X.cq rfl X.al rfl zn) ?_ | refine EvQ.lift (fun _ zn => X.pcallC (f3) rfl X.cq rfl X.al rfl zn) ?_ | refine EvQ.lift (fun _ zn => X.pcallT (f3) (by decide) X.cq rfl X.al rfl zn) ?_ | refine EvQ.lift (fun _ zn => X.call rfl X.al (f3) zn) ?_ | refine EvQ.lift (fun _ zn => X.pcall (g3) X.cq rfl X.al rfl zn) ?_ | refine EvQ.lift (fun _ zn => X.pcallG (g3) rfl X.cq rfl X.al rfl zn) ?_ | refine EvQ.lift (fun _ zn => X.pcallC (g3) rfl X.cq rfl X.al rfl zn) ?_ | refine EvQ.lift (fun _ zn => X.pcallT (g3) (by decide) X.cq rfl X.al rfl zn) ?_ | refine EvQ.lift (fun _ zn => X.call rfl X.al (g3) zn) ?_ | refine EvQ.lift (fun _ zn => X.pcall (g4) X.cq rfl X.al rfl zn) ?_ | refine EvQ.lift (fun _ zn => X.pcallG (g4) rfl X.cq rfl X.al rfl zn) ?_ | refine EvQ.lift (fun _ zn => X.pcallC (g4) rfl X.cq rfl X.al rfl zn) ?_ | refine EvQ.lift (fun _ zn => X.pcallT (g4) (by decide) X.cq rfl X.al rfl zn) ?_ | refine EvQ.lift (fun _ zn => X.call rfl X.al (g4) zn) ?_ | refine EvQ.lift (fun _ zn => X.pcall (g5) X.cq rfl X.al rfl zn) ?_ | refine EvQ.lift (fun _ zn => X.pcallG (g5) rfl X.cq rfl X.al rfl zn) ?_ | refine EvQ.lift (fun _ zn => X.pcallC (g5) rfl X.cq rfl X.al rfl zn) ?_ | refine EvQ.lift (fun _ zn => X.pcallT (g5) (by decide) X.cq rfl X.al rfl zn) ?_ | refine EvQ.lift (fun _ zn => X.call rfl X.al (g5) zn) ?_ | refine EvQ.lift (fun _ zn => X.pcall (g8) X.cq rfl X.al rfl zn) ?_ | refine EvQ.lift (fun _ zn => X.pcallG (g8) rfl X.cq rfl X.al rfl zn) ?_ | refine EvQ.lift (fun _ zn => X.pcallC (g8) rfl X.cq rfl X.al rfl zn) ?_ | refine EvQ.lift (fun _ zn => X.pcallT (g8) (by decide) X.cq rfl X.al rfl zn) ?_ | refine EvQ.lift (fun _ zn => X.call rfl X.al (g8) zn) ?_ | refine EvQ.fin X.rs ?_ | refine EvQ.fin1 (fun _ => rfl) rfl ?_)
  exact ⟨_, rfl⟩
end Go.Proofs.YtpncefcicfhibaaGreatDoor.shuts
