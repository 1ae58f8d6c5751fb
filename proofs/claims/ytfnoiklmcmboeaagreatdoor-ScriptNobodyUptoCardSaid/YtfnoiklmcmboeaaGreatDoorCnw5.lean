import Derived.Test.YtfnoiklmcmboeaaGreatDoorEvE
import Derived.Test.YtfnoiklmcmboeaaGreatDoorCnw4
set_option linter.unusedSectionVars false
set_option linter.unusedVariables false
set_option linter.unusedSimpArgs false
-- conn.New with any configuration, of a server (EvHp EvOwn)
namespace Go.Proofs.YtfnoiklmcmboeaaGreatDoor.cnw
open Go hiding Fn
open Ev tab
attribute [local irreducible] EvP EvD EvL EvC EvO evGds evLs C.run sK bK gK pK fK lpB stepD stat
/-- may a connection be so? -/
def okC (st wn ls : Int) : Prop := (1 ≤ st ∧ st ≤ 100) ∧ (65535 ≤ wn ∧ wn ≤ 2147483647) ∧ (1 ≤ ls ∧ ls ≤ 1048576)
instance (st wn ls : Int) : Decidable (okC st wn ls) := by unfold okC; infer_instance
set_option maxHeartbeats 16000000 in
theorem cnew_bad {own : Bool} (hp : Hp) (st wn ls : Int) (b : Bool) (h : ¬ okC st wn ls) : ∃ w hp', EvC Fq own 19 [.bo b, .ag [.it .i64 st, .it .i64 wn, .it .i64 ls]] hp (.ret w hp') ∧ (w = .tu [.np, .it .i64 1] ∧ hp' = hp) := by
  have i1 := in_ok st 1 100
  have i2 := in_ok wn 65535 2147483647
  have i3 := in_ok ls 1 1048576
  have hh : (decide (1 ≤ st ∧ st ≤ 100) && (decide (65535 ≤ wn ∧ wn ≤ 2147483647) && decide (1 ≤ ls ∧ ls ≤ 1048576))) = false := by
    rw [Bool.eq_false_iff]; intro q
    simp only [Bool.and_eq_true, decide_eq_true_eq] at q
    exact h q
  refine EvC.ofQ d19 rfl rfl rfl ?_
  generalize decide (1 ≤ st ∧ st ≤ 100) = b1 at *
  generalize decide (65535 ≤ wn ∧ wn ≤ 2147483647) = b2 at *
  generalize decide (1 ≤ ls ∧ ls ≤ 1048576) = b3 at *
  cases b1 with
  | false =>
    repeat (first | refine EvQ.run ?_ | refine EvQ.lift (fun _ zn => X.pcall (i1) X.cq rfl X.al rfl zn) ?_ | refine EvQ.lift (fun _ zn => X.pcallG (i1) rfl X.cq rfl X.al rfl zn) ?_ | refine EvQ.lift (fun _ zn => X.pcallC (i1) rfl X.cq rfl X.al rfl zn) ?_ | refine EvQ.lift (fun _ zn => X.pcallT (i1) (by decide) X.cq rfl X.al rfl zn) ?_ | refine EvQ.lift (fun _ zn => X.call rfl X.al (i1) zn) ?_ | refine EvQ.lift (fun _ zn => X.pcall (i2) X.cq rfl X.al rfl zn) ?_ | refine EvQ.lift (fun _ zn => X.pcallG (i2) rfl X.cq rfl X.al rfl zn) ?_ | refine EvQ.lift (fun _ zn => X.pcallC (i2) rfl X.cq rfl X.al rfl zn) ?_ | refine EvQ.lift (fun _ zn => X.pcallT (i2) (by decide) X.cq rfl X.al rfl zn) ?_ | refine EvQ.lift (fun _ zn => X.call rfl X.al (i2) zn) ?_ | refine EvQ.lift (fun _ zn => X.pcall (i3) X.cq rfl X.al rfl zn) ?_ | refine EvQ.lift (fun _ zn => X.pcallG (i3) rfl X.cq rfl X.al rfl zn) ?_ | refine EvQ.lift (fun _ zn => X.pcallC (i3) rfl X.cq rfl X.al rfl zn) ?_ | refine EvQ.lift (fun _ zn => X.pcallT (i3) (by decide) X.cq rfl X.al rfl zn) ?_ | refine EvQ.lift (fun _ zn => X.call rfl X.al (i3) zn) ?_ | refine EvQ.fin X.rs ?_ | refine EvQ.fin1 (fun _ => rfl) rfl ?_)
    exact ⟨_, _, rfl, rfl, rfl⟩
  | true =>
    cases b2 with
    | false =>
      repeat (first | refine EvQ.run ?_ | refine EvQ.lift (fun _ zn => X.pcall (i1) X.cq rfl X.al rfl zn) ?_ | refine EvQ.lift (fun _ zn => X.pcallG (i1) rfl X.cq rfl X.al rfl zn) ?_ | refine EvQ.lift (fun _ zn => X.pcallC (i1) rfl X.cq rfl X.al rfl zn) ?_ | refine EvQ.lift (fun _ zn => X.pcallT (i1) (by decide) X.cq rfl X.al rfl zn) ?_ | refine EvQ.lift (fun _ zn => X.call rfl X.al (i1) zn) ?_ | refine EvQ.lift (fun _ zn => X.pcall (i2) X.cq rfl X.al rfl zn) ?_ | refine EvQ.lift (fun _ zn => X.pcallG (i2) rfl X.cq rfl X.al rfl zn) ?_ | refine EvQ.lift (fun _ zn => X.pcallC (i2) rfl X.cq rfl X.al rfl zn) ?_ | refine EvQ.lift (fun _ zn => X.pcallT (i2) (by decide) X.cq rfl X.al rfl zn) ?_ | refine EvQ.lift (fun _ zn => X.call rfl X.al (i2) zn) ?_ | refine EvQ.lift (fun _ zn => X.pcall (i3) X.cq rfl X.al rfl zn) ?_ | refine EvQ.lift (fun _ zn => X.pcallG (i3) rfl X.cq rfl X.al rfl zn) ?_ | refine EvQ.lift (fun _ zn => X.pcallC (i3) rfl X.cq rfl X.al rfl zn) ?_ | refine EvQ.lift (fun _ zn => X.pcallT (i3) (by decide) X.cq rfl X.al rfl zn) ?_ | refine EvQ.lift (fun _ zn => X.call rfl X.al (i3) zn) ?_ | refine EvQ.fin X.rs ?_ | refine EvQ.fin1 (fun _ => rfl) rfl ?_)
      exact ⟨_, _, rfl, rfl, rfl⟩
    | true =>
      have hh : b3 = false := hh
      subst hh
      repeat (first | refine EvQ.run ?_ | refine EvQ.lift (fun _ zn => X.pcall (i1) X.cq rfl X.al rfl zn) ?_ | refine EvQ.lift (fun _ zn => X.pcallG (i1) rfl X.cq rfl X.al rfl zn) ?_ | refine EvQ.lift (fun _ zn => X.pcallC (i1) rfl X.cq rfl X.al rfl zn) ?_ | refine EvQ.lift (fun _ zn => X.pcallT (i1) (by decide) X.cq rfl X.al rfl zn) ?_ | refine EvQ.lift (fun _ zn => X.call rfl X.al (i1) zn) ?_ | refine EvQ.lift (fun _ zn => X.pcall (i2) X.cq rfl X.al rfl zn) ?_ | refine EvQ.lift (fun _ zn => X.pcallG (i2) rfl X.cq rfl X.al rfl zn) ?_ | refine EvQ.lift (fun _ zn => X.pcallC (i2) rfl X.cq rfl X.al rfl zn) ?_ | refine EvQ.lift (fun _ zn => X.pcallT (i2) (by decide) X.cq rfl X.al rfl zn) ?_ | refine EvQ.lift (fun _ zn => X.call rfl X.al (i2) zn) ?_ | refine EvQ.lift (fun _ zn => X.pcall (i3) X.cq rfl X.al rfl zn) ?_ | refine EvQ.lift (fun _ zn => X.pcallG (i3) rfl X.cq rfl X.al rfl zn) ?_ | refine EvQ.lift (fun _ zn => X.pcallC (i3) rfl X.cq rfl X.al rfl zn) ?_ | refine EvQ.lift (fun _ zn => X.pcallT (i3) (by decide) X.cq rfl X.al rfl zn) ?_ | refine EvQ.lift (fun _ zn => X.call rfl X.al (i3) zn) ?_ | refine EvQ.fin X.rs ?_ | refine EvQ.fin1 (fun _ => rfl) rfl ?_)
      exact ⟨_, _, rfl, rfl, rfl⟩
/-- a connection's row, as it begins -/
def cnR (st wn ls : Int) (a b c v : V) (o i : Int) : List V := [.bo true, .it .i64 st, .it .i64 wn, .it .i64 ls, .it .i64 4096, .it .i64 2147483647, .it .i64 65535, .it .i64 16384, .it .i64 2147483647, a, b, c, v, .it .i64 o, .it .i64 i, .ns, .it .i64 0, .it .i64 1, .ns, .it .i64 0, .bo false, .ns, .bo false, .bo false, .bo false, .ns]
set_option maxHeartbeats 64000000 in
theorem cnew_ok {own : Bool} (hp : Hp) (st wn ls : Int) (h : okC st wn ls) (hl : hp.lim ≤ hp.next) :
    ∃ w hp', EvC Fq own 19 [.bo true, .ag [.it .i64 st, .it .i64 wn, .it .i64 ls]] hp (.ret w hp') ∧ ∃ (r u p : Nat) (v : V) (q : List Int), w = .tu [.pt hp.next 0 0, .it .i64 0] ∧
      hget hp' hp.next = some ⟨26, false, [cnR st wn ls (.pt r 0 0) (.pt u 0 0) (.pt p 0 0) v 65535 65535]⟩ ∧ Ow hp' v 1 (bs q) ∧ q.length ≤ 1000 ∧ (∀ id, idOf v = some id → hp.next < id) ∧ Up hp.next hp hp' ∧ hp.next < hp'.next := by
  obtain ⟨h1, h2, h3⟩ := h
  have i1 := in_ok st 1 100
  have i2 := in_ok wn 65535 2147483647
  have i3 := in_ok ls 1 1048576
  rw [decide_eq_true h1] at i1
  rw [decide_eq_true h2] at i2
  rw [decide_eq_true h3] at i3
  refine EvC.ofQ d19 rfl rfl rfl ?_
  repeat (first | refine EvQ.run ?_ | refine EvQ.lift (fun _ zn => X.pcall (i1) X.cq rfl X.al rfl zn) ?_ | refine EvQ.lift (fun _ zn => X.pcallG (i1) rfl X.cq rfl X.al rfl zn) ?_ | refine EvQ.lift (fun _ zn => X.pcallC (i1) rfl X.cq rfl X.al rfl zn) ?_ | refine EvQ.lift (fun _ zn => X.pcallT (i1) (by decide) X.cq rfl X.al rfl zn) ?_ | refine EvQ.lift (fun _ zn => X.call rfl X.al (i1) zn) ?_ | refine EvQ.lift (fun _ zn => X.pcall (i2) X.cq rfl X.al rfl zn) ?_ | refine EvQ.lift (fun _ zn => X.pcallG (i2) rfl X.cq rfl X.al rfl zn) ?_ | refine EvQ.lift (fun _ zn => X.pcallC (i2) rfl X.cq rfl X.al rfl zn) ?_ | refine EvQ.lift (fun _ zn => X.pcallT (i2) (by decide) X.cq rfl X.al rfl zn) ?_ | refine EvQ.lift (fun _ zn => X.call rfl X.al (i2) zn) ?_ | refine EvQ.lift (fun _ zn => X.pcall (i3) X.cq rfl X.al rfl zn) ?_ | refine EvQ.lift (fun _ zn => X.pcallG (i3) rfl X.cq rfl X.al rfl zn) ?_ | refine EvQ.lift (fun _ zn => X.pcallC (i3) rfl X.cq rfl X.al rfl zn) ?_ | refine EvQ.lift (fun _ zn => X.pcallT (i3) (by decide) X.cq rfl X.al rfl zn) ?_ | refine EvQ.lift (fun _ zn => X.call rfl X.al (i3) zn) ?_ | refine EvQ.lift (fun _ zn => X.pcall (first_ok) X.cq rfl X.al rfl zn) ?_ | refine EvQ.lift (fun _ zn => X.pcallG (first_ok) rfl X.cq rfl X.al rfl zn) ?_ | refine EvQ.lift (fun _ zn => X.pcallC (first_ok) rfl X.cq rfl X.al rfl zn) ?_ | refine EvQ.lift (fun _ zn => X.pcallT (first_ok) (by decide) X.cq rfl X.al rfl zn) ?_ | refine EvQ.lift (fun _ zn => X.call rfl X.al (first_ok) zn) ?_ | refine EvQ.fin X.rs ?_ | refine EvQ.fin1 (fun _ => rfl) rfl ?_)
  refine EvQ.call rfl X.al (frN_ok (own := true) _ true (by show hp.lim ≤ hp.next + 1; omega)) ?_
  rintro _ hp2 ⟨r, rfl, r1, r2, u1⟩
  have g2 : hget hp2 hp.next = some ⟨26, false, [cnR st wn ls .np .np .np .ns 0 0]⟩ := (u1.get hp.next (by show hp.next < hp.next + 1; omega)).trans (hget_new hp _)
  have l2 : hp2.lim = hp.lim := u1.lim
  have n2 : hp.next + 1 ≤ hp2.next := u1.next
  unfold cnR at g2
  repeat (first | refine EvQ.run ?_ | refine EvQ.fin X.rs ?_ | refine EvQ.fin1 (fun _ => rfl) rfl ?_)
  refine EvQ.call rfl X.al (unpN_ok (own := true) _ ls (by omega) (by omega)) ?_
  rintro _ hp3 ⟨u, rfl, p1, p2, u2⟩
  have n3 : hp2.next ≤ hp3.next := u2.next
  have l3 : hp3.lim = hp.lim := u2.lim.trans l2
  have g3 : hget hp3 hp.next = some ⟨26, false, [cnR st wn ls (.pt r 0 0) .np .np .ns 0 0]⟩ := (u2.get hp.next (by show hp.next < hp2.next; omega)).trans (hget_set hp2 _ _)
  have v3 : Up hp.next hp hp3 := (((Up.new hp _ (Nat.le_refl _)).trans (u1.mono (by show hp.next ≤ hp.next + 1; omega))).trans (Up.set hp2 hp.next _ (Nat.le_refl _))).trans (u2.mono (by show hp.next ≤ hp2.next; omega))
  clear r1 r2 p1 p2 u1 u2 g2
  unfold cnR at g3
  repeat (first | refine EvQ.run ?_ | refine EvQ.fin X.rs ?_ | refine EvQ.fin1 (fun _ => rfl) rfl ?_)
  refine EvQ.call rfl X.al (pacN_ok (own := true) _) ?_
  rintro _ hp4 ⟨pk, rfl, p1, p2, u2⟩
  have n4 : hp3.next ≤ hp4.next := u2.next
  have l4 : hp4.lim = hp.lim := u2.lim.trans l3
  have g4 : hget hp4 hp.next = some ⟨26, false, [cnR st wn ls (.pt r 0 0) (.pt u 0 0) .np .ns 0 0]⟩ := (u2.get hp.next (by show hp.next < hp3.next; omega)).trans (hget_set hp3 _ _)
  have v4 : Up hp.next hp hp4 := (v3.trans (Up.set hp3 hp.next _ (Nat.le_refl _))).trans (u2.mono (by show hp.next ≤ hp3.next; omega))
  clear p1 p2 u2 g3
  unfold cnR at g4
  have sp := sput_ok [(3, st), (4, wn), (6, ls)] (by show 3 ≤ 1000000; omega)
  repeat (first | refine EvQ.run ?_ | refine EvQ.lift (fun _ zn => X.pcall (win_ok) X.cq rfl X.al rfl zn) ?_ | refine EvQ.lift (fun _ zn => X.pcallG (win_ok) rfl X.cq rfl X.al rfl zn) ?_ | refine EvQ.lift (fun _ zn => X.pcallC (win_ok) rfl X.cq rfl X.al rfl zn) ?_ | refine EvQ.lift (fun _ zn => X.pcallT (win_ok) (by decide) X.cq rfl X.al rfl zn) ?_ | refine EvQ.lift (fun _ zn => X.call rfl X.al (win_ok) zn) ?_ | refine EvQ.lift (fun _ zn => X.pcall (sp) X.cq rfl X.al rfl zn) ?_ | refine EvQ.lift (fun _ zn => X.pcallG (sp) rfl X.cq rfl X.al rfl zn) ?_ | refine EvQ.lift (fun _ zn => X.pcallC (sp) rfl X.cq rfl X.al rfl zn) ?_ | refine EvQ.lift (fun _ zn => X.pcallT (sp) (by decide) X.cq rfl X.al rfl zn) ?_ | refine EvQ.lift (fun _ zn => X.call rfl X.al (sp) zn) ?_ | refine EvQ.fin X.rs ?_ | refine EvQ.fin1 (fun _ => rfl) rfl ?_)
  have sl := setsB_len [(3, st), (4, wn), (6, ls)]
  have sl : (setsB [(3, st), (4, wn), (6, ls)]).length = 18 := sl
  have pt := put_ok [] 4 0 0 (setsB [(3, st), (4, wn), (6, ls)]) (by show 0 + _ ≤ _; omega)
  have hr : rightB 4 0 0 (setsB [(3, st), (4, wn), (6, ls)]).length = true := by rw [sl]; decide
  have pl : (putL [] 4 0 0 (setsB [(3, st), (4, wn), (6, ls)])).length = 27 := by
    unfold putL
    rw [if_pos hr, List.length_append, List.length_append, sl]
    rfl
  generalize setsB [(3, st), (4, wn), (6, ls)] = P at *
  generalize hq : putL [] 4 0 0 P = q at *
  have hne : bs q ≠ [] := fun e => by
    have := congrArg List.length e
    rw [bs_length, pl] at this
    cases this
  refine EvQ.lift (fun _ zn => X.ocall pt (.s2 (clo_ns [.one]) (.gs (fr_clo 4 0 0 P) (.nil _))) rfl X.al zn (fun e => absurd e hne)) ?_
  have n5 : hp.next < hp4.next := by omega
  repeat (first | refine EvQ.run ?_ | refine EvQ.fin X.rs ?_ | refine EvQ.fin1 (fun _ => rfl) rfl ?_)
  refine ⟨_, _, rfl, r, u, pk, .hs hp4.next 0 (bs q).length, q, rfl, hget_set _ _ _, .inr ⟨hp4.next, rfl, Nat.lt_succ_self _, ?_, ?_⟩, by omega, fun id e => by cases e; omega, ?_, ?_⟩
  · show hp4.lim ≤ hp4.next; omega
  · exact (hget_other (by omega)).trans (hget_new (hset (hset (hset hp4 hp.next _) hp.next _) hp.next _) _)
  · exact ((((v4.trans (Up.set hp4 hp.next _ (Nat.le_refl _))).trans (Up.set _ hp.next _ (Nat.le_refl _))).trans (Up.set _ hp.next _ (Nat.le_refl _))).trans (Up.new _ _ (by show hp.next ≤ hp4.next; omega))).trans (Up.set _ hp.next _ (Nat.le_refl _))
  · show hp.next < hp4.next + 1; omega
end Go.Proofs.YtfnoiklmcmboeaaGreatDoor.cnw
