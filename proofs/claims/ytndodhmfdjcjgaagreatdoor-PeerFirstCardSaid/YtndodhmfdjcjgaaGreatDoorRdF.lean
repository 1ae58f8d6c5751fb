import Derived.Test.YtndodhmfdjcjgaaGreatDoorEvE
import Derived.Test.YtndodhmfdjcjgaaGreatDoorRdE
set_option linter.unusedSectionVars false
set_option linter.unusedVariables false
set_option linter.unusedSimpArgs false
-- the reader with a preface (EvHp EvOwn)
namespace Go.Proofs.YtndodhmfdjcjgaaGreatDoor
open Go hiding Fn
open Ev tab
attribute [local irreducible] EvP EvD EvL EvC evGds evLs C.run sK bK gK pK fK lpB stepD
/-- the preface taken off -/
def strip : List Nat -> List Int -> List Nat × List Int × Bool
 | [], b => ([], b, false)
 | p :: ps, [] => (p :: ps, [], false)
 | p :: ps, x :: xs => if x = Int.ofNat p then strip ps xs else (p :: ps, [], true)
theorem strip_nil (b : List Int) : strip [] b = ([], b, false) := by cases b <;> rfl
theorem strip_len : ∀ (p : List Nat) (b : List Int), (strip p b).2.1.length <= b.length
 | [], b => by rw [strip_nil]; exact Nat.le_refl _
 | p :: ps, [] => Nat.le_refl _
 | p :: ps, x :: xs => by
  unfold strip
  split
  ·have := strip_len ps xs; simp only [List.length_cons]; omega
  ·simp
theorem strip_bytes : ∀ (p : List Nat) {b : List Int}, Bytes b -> Bytes (strip p b).2.1
 | [], b, h => by rw [strip_nil]; exact h
 | p :: ps, [], h => h
 | p :: ps, x :: xs, h => by
  unfold strip
  split
  ·exact strip_bytes ps fun y hy => h y (.tail _ hy)
  ·intro y hy; cases hy
structure BgS where
 pre : List Nat
 b : List Int
 v : V
set_option maxHeartbeats 8000000 in
theorem begin_gen {hp : Hp} {Q : Nat} {most : Int} {bv v : V} {b : List Int} {pre : List Nat} (hg : RdO hp Q most pre bv 0 0) (hB : By hp v b) (hlim : hp.lim <= Q) (hQ : Q < hp.next) (hN : Nil hp) (hb : b.length <= 100000000) (hpl : pre.length <= 1000) :
  ∃ v' hp', EvC F false 24 [.pt Q 0 0, v] hp (.ret v' hp') /\ Ex hp hp' Q /\ hp'.next = hp.next /\ Nil hp' /\ isLp v' = false /\
   (((strip pre b).2.2 = true /\ v' = .ns /\ RdO hp' Q most (strip pre b).1 .ns 2 1) \/ ((strip pre b).2.2 = false /\ By hp' v' (strip pre b).2.1 /\ RdO hp' Q most (strip pre b).1 bv 0 0)) := by
 generalize hst : strip pre b = t
 have hlp := hB.lp
 have main : ∃ v' hp', EvC F false 24 [.pt Q 0 0, v] hp (.ret v' hp') /\ (Ex hp hp' Q /\ hp'.next = hp.next /\ Nil hp' /\ isLp v' = false /\
   ((t.2.2 = true /\ v' = .ns /\ RdO hp' Q most t.1 .ns 2 1) \/ (t.2.2 = false /\ By hp' v' t.2.1 /\ RdO hp' Q most t.1 bv 0 0))) := by
  refine EvC.ofQ d24 rfl rfl rfl ?_
  repeat' (first | refine EvQ.run ?_ | (refine EvQ.pickB rfl rfl rfl ?_) | (refine EvQ.cond rfl (fun h => ?_) (fun h => ?_) <;> ((first | replace h := X.nm h | skip); try have hne := ne_len h)) | (refine EvQ.g1 rfl (fun h => ?_) (fun h => ?_) <;> ((first | replace h := X.nm h | skip); try have hne := ne_len h)) | (refine EvQ.pick rfl (fun _ => rfl) (fun _ => rfl) (fun h => ?_) (fun h => ?_) <;> ((first | replace h := X.nm h | skip); try have hne := ne_len h)) | refine EvQ.fin X.rs ?_ | refine EvQ.fin1 (fun _ => rfl) rfl ?_)
  refine EvQ.loop (QL := fun r => (∃ s : BgS, t = (s.pre, s.b, false) /\ isLp s.v = false /\ XtQ 0 [(1, s.v)] (fun _ hp' => By hp' s.v s.b /\ RdO hp' Q most s.pre bv 0 0 /\ Ex hp hp' Q /\ hp'.next = hp.next /\ Nil hp') r) \/
   (t.2.2 = true /\ RtQ [(4, .ns)] (fun _ hp' => RdO hp' Q most t.1 .ns 2 1 /\ Ex hp hp' Q /\ hp'.next = hp.next /\ Nil hp') r)) ?_ ?_
  ·refine EvL.invQ (S := BgS) (fun s => [(0, .pt Q 0 0), (1, s.v)]) (fun s lo hp' => By hp' s.v s.b /\ RdO hp' Q most s.pre bv 0 0 /\ Ex hp hp' Q /\ hp'.next = hp.next /\ Nil hp' /\ strip s.pre s.b = t /\ s.b.length <= 100000000 /\ s.pre.length <= 1000) (fun s => s.b.length) _ ?_ ⟨pre, b, v⟩ _ _ _ ⟨hB, hg, .refl _ _, rfl, hN, hst, hb, hpl⟩ X.kv
   rintro ⟨p, c, w⟩ lo hp1 ⟨hB, hR, hE, hnx, hN, hs, hl, hpp⟩
   simp only at hB hR hs hl hpp
   have hg : hget hp1 Q = some ⟨6, false, [rowR most p bv 0 0]⟩ := hR
   have hlen := hB.len
   have hlp := hB.lp
   have hlim1 : hp1.lim <= Q := by rw [hE.lim]; exact hlim
   cases c with
   | nil =>
    repeat' (first | refine EvQ.run ?_ | (refine EvQ.pickB rfl rfl rfl ?_) | (refine EvQ.cond rfl (fun h => ?_) (fun h => ?_) <;> ((first | replace h := X.nm h | skip); try have hne := ne_len h)) | (refine EvQ.g1 rfl (fun h => ?_) (fun h => ?_) <;> ((first | replace h := X.nm h | skip); try have hne := ne_len h)) | (refine EvQ.pick rfl (fun _ => rfl) (fun _ => rfl) (fun h => ?_) (fun h => ?_) <;> ((first | replace h := X.nm h | skip); try have hne := ne_len h)) | refine EvQ.fin X.rs ?_ | refine EvQ.fin1 (fun _ => rfl) rfl ?_)
    cases p with
    | nil => exact EvQ.xt (.inl ⟨⟨[], [], w⟩, hs.symm, hlp, .mk' X.kv ⟨hB, hR, hE, hnx, hN⟩⟩)
    | cons q qs => exact EvQ.xt (.inl ⟨⟨q :: qs, [], w⟩, hs.symm, hlp, .mk' X.kv ⟨hB, hR, hE, hnx, hN⟩⟩)
   | cons x xs =>
    cases p with
    | nil =>
     repeat' (first | refine EvQ.run ?_ | (refine EvQ.pickB rfl rfl rfl ?_) | (refine EvQ.cond rfl (fun h => ?_) (fun h => ?_) <;> ((first | replace h := X.nm h | skip); try have hne := ne_len h)) | (refine EvQ.g1 rfl (fun h => ?_) (fun h => ?_) <;> ((first | replace h := X.nm h | skip); try have hne := ne_len h)) | (refine EvQ.pick rfl (fun _ => rfl) (fun _ => rfl) (fun h => ?_) (fun h => ?_) <;> ((first | replace h := X.nm h | skip); try have hne := ne_len h)) | refine EvQ.fin X.rs ?_ | refine EvQ.fin1 (fun _ => rfl) rfl ?_)
     exact EvQ.xt (.inl ⟨⟨[], x :: xs, w⟩, hs.symm, hlp, .mk' X.kv ⟨hB, hR, hE, hnx, hN⟩⟩)
    | cons q qs =>
     unfold strip at hs
     have h0 : 0 < (x :: xs).length := by simp
     have hx0 := hB.els
     have hQ1 : Q < hp1.next := by omega
     have hB1 := hB.slv (a := 1) (b := (x :: xs).length) (by simp) (Nat.le_refl _)
     have e1 : ((x :: xs).drop 1).take ((x :: xs).length - 1) = xs := by
      show xs.take ((x :: xs).length - 1) = xs
      exact List.take_of_length_le (by simp)
     rw [e1] at hB1
     have hvl := hB1.lp
     repeat' (first | refine EvQ.run ?_ | (refine EvQ.pickB rfl rfl rfl ?_) | (refine EvQ.cond rfl (fun h => ?_) (fun h => ?_) <;> ((first | replace h := X.nm h | skip); try have hne := ne_len h)) | (refine EvQ.g1 rfl (fun h => ?_) (fun h => ?_) <;> ((first | replace h := X.nm h | skip); try have hne := ne_len h)) | (refine EvQ.pick rfl (fun _ => rfl) (fun _ => rfl) (fun h => ?_) (fun h => ?_) <;> ((first | replace h := X.nm h | skip); try have hne := ne_len h)) | refine EvQ.fin X.rs ?_ | refine EvQ.fin1 (fun _ => rfl) rfl ?_)
     ·have hne : ¬ x = Int.ofNat q := h
      rw [if_neg hne] at hs
      subst hs
      refine EvQ.lift (fun _ zn => X.call rfl X.al (fail_ok hR hlim1) zn) ?_
      repeat (first | refine EvQ.run ?_ | refine EvQ.fin X.rs ?_ | refine EvQ.fin1 (fun _ => rfl) rfl ?_)
      exact EvQ.rt (.inr ⟨rfl, .mk' X.kv ⟨hget_set _ _ _, hE.trans ((Ex.set _ _ _).trans (Ex.set _ _ _)), hnx, (hN.set hQ1 _).set hQ1 _⟩⟩)
     ·have he : x = Int.ofNat q := h
      rw [if_pos he] at hs
      refine EvQ.lift (fun _ zn => X.slcE rfl hB (a := 1) (b := (x :: xs).length) ⟨_, rfl⟩ rfl (by simp) (Nat.le_refl _) zn) ?_
      repeat (first | refine EvQ.run ?_ | refine EvQ.fin X.rs ?_ | refine EvQ.fin1 (fun _ => rfl) rfl ?_)
      refine EvQ.go ⟨qs, xs, slv w 1 (x :: xs).length⟩ X.kv ⟨hB1.mono (Ex.set _ _ Q) (fun b hb => by rw [hg] at hb; cases hb; exact (by decide : (6 : Nat) ≠ 1)), ?_, hE.trans (Ex.set _ _ _), by rw [hset_next]; exact hnx, hN.set hQ1 _, hs, by simp only [List.length_cons] at hl; show xs.length <= _; omega, by simp only [List.length_cons] at hpp; show qs.length <= _; omega⟩ (by show xs.length < (x :: xs).length; simp)
      exact hget_set _ _ _
  ·rintro r (⟨s, h1, h2, tm, lo, hp', rfl, a1, a2, a3, a4, a5⟩ | ⟨h1, tm, lo, hp', rfl, a2, a3, a4, a5⟩)
   ·repeat (first | refine EvQ.run ?_ | refine EvQ.fin X.rs ?_ | refine EvQ.fin1 (fun _ => rfl) rfl ?_)
    exact ⟨_, _, rfl, a3, a4, a5, h2, .inr ⟨by rw [h1], by rw [h1]; exact a1, by rw [h1]; exact a2⟩⟩
   ·repeat (first | refine EvQ.run ?_ | refine EvQ.fin X.rs ?_ | refine EvQ.fin1 (fun _ => rfl) rfl ?_)
    exact ⟨_, _, rfl, a3, a4, a5, rfl, .inl ⟨h1, rfl, a2⟩⟩
 obtain ⟨v', hp', h1, h2⟩ := main
 exact ⟨v', hp', h1, h2⟩
end Go.Proofs.YtndodhmfdjcjgaaGreatDoor
