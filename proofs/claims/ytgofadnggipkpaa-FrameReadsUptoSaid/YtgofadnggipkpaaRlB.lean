import Derived.Test.YtgofadnggipkpaaEvE
import Derived.Test.YtgofadnggipkpaaRlA
set_option linter.unusedVariables false
set_option linter.unusedSimpArgs false
set_option linter.unusedSectionVars false
-- FrameReads: both readers fed (EvHp EvOwn)
namespace Go.Proofs.Ytgofadnggipkpaa.rf
open Go hiding Fn
open Ev tab rl
/-- both readers, alike -/
structure ST (hp : Hp) (Q Q2 : Nat) (most : Int) (pre : List Nat) (buf : List Int) (C : Int) : Prop where
  rd : ∃ bv, RdO hp Q most pre bv (scope C) C ∧ By hp bv buf
  rf : ∃ rv, RfO hp Q2 most pre rv (scope C) C ∧ By hp rv buf
  or : pre = [] ∨ buf = []
  by' : Bytes buf
  pl : pre.length ≤ 1000
  nil : Nil hp
  lim : hp.lim = 0
  q1 : Q < hp.next
  q2 : Q2 < hp.next
/-- what is known of the program's reader (function 14) -/
structure CF (F : Nat → Option Ev.Fn) : Prop where
  bad : ∀ {hp : Hp} {Q : Nat} {most c : Int} {pre : List Nat} {bv v : V}, RdO hp Q most pre bv 2 c → EvC F false 14 [.pt Q 0 0, v] hp (.ret (.tu [.ns, .ag [.it .i64 2, .it .i64 c, .it .i64 0]]) hp)
  gen : ∀ {hp : Hp} {Q : Nat} {most : Int} {bv v : V} {buf b : List Int} {pre : List Nat}, RdO hp Q most pre bv 0 0 → By hp bv buf → By hp v b → Bytes buf → Bytes b → buf.length + b.length ≤ 40000000 → pre.length ≤ 1000 → hp.lim ≤ Q → Q < hp.next → Nil hp →
    ∃ out bv' hp', EvC F false 14 [.pt Q 0 0, v] hp (.ret (.tu [out, .ag [.it .i64 (scope (feedG most pre buf b).2.2.2), .it .i64 (feedG most pre buf b).2.2.2, .it .i64 0]]) hp') ∧
      FrV hp' hp.next out (feedG most pre buf b).1 ∧ RdO hp' Q most (feedG most pre buf b).2.1 bv' (scope (feedG most pre buf b).2.2.2) (feedG most pre buf b).2.2.2 ∧ By hp' bv' (feedG most pre buf b).2.2.1 ∧ Ex hp hp' Q ∧ Nil hp'
  rf : F 23 = some d23.den
theorem feedA_bytes0 (most : Int) : ∀ (n : Nat) (l : List Int), Bytes l → Bytes (feedM most n l).2.1 ∧ (feedM most n l).2.1.length ≤ l.length := by
  intro n
  induction n with
  | zero => intro l h; exact ⟨h, Nat.le_refl _⟩
  | succ n ih =>
    intro l h
    unfold feedM
    split
    · exact ⟨h, Nat.le_refl _⟩
    · split
      · exact ⟨(fun x hx => by cases hx), Nat.zero_le _⟩
      · split
        · exact ⟨h, Nat.le_refl _⟩
        · have := ih (l.drop (9 + (nOf l).toNat)) (h.drop _)
          exact ⟨this.1, Nat.le_trans this.2 (by rw [List.length_drop]; omega)⟩
theorem feedG_len (most : Int) (pre : List Nat) (buf b : List Int) (hb : Bytes buf) (hby : Bytes b) : (feedG most pre buf b).2.2.1.length ≤ buf.length + b.length := by
  unfold feedG
  have hs := strip_bytes pre hby
  have hl := strip_len pre b
  generalize strip pre b = t at *
  obtain ⟨p', b', e⟩ := t
  cases e with
  | true => exact Nat.zero_le _
  | false =>
    have := (feedA_bytes0 most ((buf ++ b').length + 1) (buf ++ b') (hb.append hs)).2
    simp only [List.length_append] at this
    simp only at hl
    show (feedA most (buf ++ b')).2.1.length ≤ _
    unfold feedA
    rw [List.length_append]
    omega
theorem feedG_pre (most : Int) (pre : List Nat) (buf b : List Int) : (feedG most pre buf b).2.1.length ≤ pre.length := by
  have := strip_pre_len pre b
  unfold feedG
  generalize strip pre b = t at *
  obtain ⟨p', b', e⟩ := t
  cases e <;> exact this
theorem both_ok {F : Nat → Option Ev.Fn} (cf : CF F) {hp : Hp} {Q Q2 : Nat} {most : Int} {pre : List Nat} {buf bb : List Int} {C : Int} (h : ST hp Q Q2 most pre buf C) (hC : C ≠ 0 → buf = []) (hqq : Q ≠ Q2) (v : V) (hV : By hp v bb) (hby : Bytes bb) (hbl : bb.length ≤ 400) (hbu : buf.length ≤ 1000000) :
    ∃ out1 out2 hp2 hp3 fs pre' buf' C', EvC F false 14 [.pt Q 0 0, .vs 1 (bs bb)] hp (.ret (.tu [out1, .ag [.it .i64 (scope C'), .it .i64 C', .it .i64 0]]) hp2) ∧ EvC F false 23 [.pt Q2 0 0, v] hp2 (.ret (.tu [out2, .ag [.it .i64 (scope C'), .it .i64 C', .it .i64 0]]) hp3) ∧
      FrV hp3 hp.next out1 fs ∧ FrV hp3 hp.next out2 fs ∧ ST hp3 Q Q2 most pre' buf' C' ∧ (C' ≠ 0 → buf' = []) ∧ buf'.length ≤ buf.length + 400 ∧ (∀ j x, j ≠ Q → j ≠ Q2 → hget hp j = some x → hget hp3 j = some x) ∧ hp.next ≤ hp3.next ∧ ∃ l : List Int, l.length ≤ 2000000 ∧ fs = (feedA most l).1 := by
  obtain ⟨bv, r1, r2⟩ := h.rd
  obtain ⟨rv, f1, f2⟩ := h.rf
  have hn1 := h.q1
  have hn2 := h.q2
  have hlm := h.lim
  have hQs : ∀ b, hget hp Q = some b → b.sz ≠ 1 := fun b hb => by rw [r1] at hb; cases hb; exact (by decide : (6 : Nat) ≠ 1)
  have hQs2 : ∀ b, hget hp Q2 = some b → b.sz ≠ 1 := fun b hb => by rw [f1] at hb; cases hb; exact (by decide : (6 : Nat) ≠ 1)
  by_cases hc : C = 0
  · subst hc
    obtain ⟨out1, bv', hp2, a1, a2, a3, a4, a5, a6⟩ := cf.gen r1 r2 (.vs hp bb) h.by' hby (by omega) h.pl (by omega) h.q1 h.nil
    have f1' : RfO hp2 Q2 most pre rv 0 0 := a5.get Q2 _ (fun e => hqq e.symm) f1
    have f2' : By hp2 rv buf := f2.mono a5 hQs
    obtain ⟨w, hp3, b1, out2, rv', rfl, b2, b3, b4, b5, b6⟩ := rfeed_gen cf.rf f1' f2' (hV.mono a5 hQs) h.by' hby (by omega) h.pl (by rw [a5.lim]; exact hlm) (Nat.lt_of_lt_of_le hn2 a5.next) a6
    obtain ⟨e1, e2⟩ := same_feed most pre buf bb h.or
    rw [e1] at b1 b2 b3 b4
    have hQs3 : ∀ b, hget hp2 Q2 = some b → b.sz ≠ 1 := fun b hb => by rw [f1'] at hb; cases hb; exact (by decide : (6 : Nat) ≠ 1)
    have hlen := feedG_len most pre buf bb h.by' hby
    have hpre := feedG_pre most pre buf bb
    have hbb := feedG_bytes most pre buf bb h.by' hby (fun l hl => (feedA_bytes0 most _ l hl).1)
    have herr : (feedG most pre buf bb).2.2.2 ≠ 0 → (feedG most pre buf bb).2.2.1 = [] := by
      unfold feedG
      generalize strip pre bb = t
      obtain ⟨p', b', e⟩ := t
      cases e with
      | true => exact fun _ => rfl
      | false =>
        intro hne
        exact feedA_err0 most _ (by
          cases q : (feedA most (buf ++ b')).2.2 with
          | true => rfl
          | false => exact absurd (by show badC (feedA most (buf ++ b')).2.2 = 0; rw [q]; rfl) hne)
    refine ⟨out1, out2, hp2, hp3, _, _, _, _, a1, b1, frv_ex a2 b5 hn2 hQs3, FrV.le b2 a5.next, ⟨⟨bv', ?_, a4.mono b5 hQs3⟩, ⟨rv', b3, b4⟩, e2, hbb, by have := h.pl; omega, b6, by rw [b5.lim, a5.lim]; exact hlm, ?_, ?_⟩, herr, by omega, fun j x h1 h2 hx => b5.get j x h2 (a5.get j x h1 hx), Nat.le_trans a5.next b5.next, ?_⟩
    · exact b5.get Q _ hqq a3
    · exact Nat.lt_of_lt_of_le hn1 (Nat.le_trans a5.next b5.next)
    · exact Nat.lt_of_lt_of_le hn2 (Nat.le_trans a5.next b5.next)
    · have hsl := strip_len pre bb
      unfold feedG
      generalize strip pre bb = t at *
      obtain ⟨p', b', e⟩ := t
      cases e with
      | true => exact ⟨[], by decide, by show [] = (feedM most (0 + 1) []).1; unfold feedM; rfl⟩
      | false => exact ⟨buf ++ b', by simp only at hsl; rw [List.length_append]; omega, rfl⟩
  · have hb0 := hC hc
    subst hb0
    have hsc : scope C = 2 := by unfold scope; rw [if_neg hc]
    rw [hsc] at r1 f1
    obtain ⟨w, hp', b1, rfl, rfl⟩ := rfeed_bad cf.rf f1 hV.lp
    exact ⟨.ns, .ns, hp', hp', [], pre, [], C, by rw [hsc]; exact cf.bad r1, by rw [hsc]; exact b1, .inl ⟨rfl, rfl⟩, .inl ⟨rfl, rfl⟩, h, fun _ => rfl, Nat.zero_le _, fun j x _ _ hx => hx, Nat.le_refl _, [], by decide, by show [] = (feedM most (0 + 1) []).1; unfold feedM; rfl⟩
end Go.Proofs.Ytgofadnggipkpaa.rf
