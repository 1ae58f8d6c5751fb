import Derived.Test.YtpncefcicfhibaaGreatDoorEvE
import Derived.Test.YtpncefcicfhibaaGreatDoorPin3
set_option linter.unusedVariables false
set_option linter.unusedSimpArgs false
-- a PING, heard by a connection (EvHp EvOwn)
namespace Go.Proofs.YtpncefcicfhibaaGreatDoor
open Go hiding Fn
open Ev tab
attribute [local irreducible] EvP EvD EvL EvC evGds evLs C.run sK bK gK pK fK lpB stepD
set_option maxHeartbeats 16000000 in
theorem part_ack {hp : Hp} {p : List Int} : ∃ w hp', EvC F false 66 [.pt 0 0 0, .ag (partPing true p)] hp (.ret w hp') ∧ (w = .tu [] ∧ hp' = hp) := by
  refine EvC.ofQ d66 rfl rfl rfl ?_
  repeat (first | refine EvQ.run ?_ | refine EvQ.fin X.rs ?_ | refine EvQ.fin1 (fun _ => rfl) rfl ?_)
  exact ⟨_, _, rfl, rfl, rfl⟩
set_option maxHeartbeats 16000000 in
theorem part_ping {hp : Hp} {p : List Int} {P : Hp → Prop} (h : ∃ w hp', EvC F false 71 [.pt 0 0 0, .ag (fr 6 1 0 p)] hp (.ret w hp') ∧ (w = .bo true ∧ P hp')) : ∃ w hp', EvC F false 66 [.pt 0 0 0, .ag (partPing false p)] hp (.ret w hp') ∧ (w = .tu [] ∧ P hp') := by
  refine EvC.ofQ d66 rfl rfl rfl ?_
  repeat (first | refine EvQ.run ?_ | refine EvQ.fin X.rs ?_ | refine EvQ.fin1 (fun _ => rfl) rfl ?_)
  refine EvQ.call rfl X.al h ?_
  rintro _ hp' ⟨rfl, hP⟩
  repeat (first | refine EvQ.run ?_ | refine EvQ.fin X.rs ?_ | refine EvQ.fin1 (fun _ => rfl) rfl ?_)
  exact ⟨_, _, rfl, rfl, hP⟩
/-- a connection and what waits -/
structure PS (hp : Hp) (c : CnV) (q : List Int) : Prop where
  cn : CnO hp c
  q : Ow hp c.q 1 (bs q)
  q0 : ∀ id, idOf c.q = some id → 2 ≤ id
  rd : RdE hp
  nil : Nil hp
  lim : hp.lim = 0
  next : 2 ≤ hp.next
def pong (ack : Bool) (p : List Int) : List Int := if ack then [] else h9 6 1 0 p.length ++ p
set_option maxHeartbeats 32000000 in
theorem frame_ping {hp : Hp} {c : CnV} {q p : List Int} (hS : PS hp c q) (fl : Int) (ack : Bool) (hp8 : p.length = 8) (hf : (fl = 0 ∧ ack = false) ∨ (fl = 1 ∧ ack = true)) (hl : q.length + 17 ≤ 262144) :
    FrQ hp c 6 fl 0 p (fun hp2 c2 => PS hp2 c2 (q ++ pong ack p) ∧ c2.ev = .ns) := by
  intro hp1 pv bv hc1 hr1 hb1 hbz hpv hpz k1
  have hcR : hget hp1 0 = some ⟨26, false, [rowC c.calm]⟩ := hc1
  have hQs : ∀ b, hget hp1 0 = some b → b.sz ≠ 1 := fun b hb => by rw [hcR] at hb; cases hb; exact (by decide : (26 : Nat) ≠ 1)
  have hlim1 : hp1.lim = 0 := by rw [k1.lim]; exact hS.lim
  have hn1 := k1.next
  have hnx := hS.next
  have kA : Kp hp1 (hset hp1 0 (some ⟨26, false, [rowC c.calm]⟩)) := Kp.set (by decide) (by omega) _
  have hpA : By (hset hp1 0 (some ⟨26, false, [rowC c.calm]⟩)) pv p := hpv.mono (Ex.set _ _ 0) hQs
  have hbA : By (hset hp1 0 (some ⟨26, false, [rowC c.calm]⟩)) bv [] := hb1.mono (Ex.set _ _ 0) hQs
  obtain ⟨hpB, z1, g1, e1⟩ := close_by2 hpA
  have hcl : ClP c64.ps [.ag [.it .i64 6, .it .i64 fl, .it .i64 0, pv]] (hset hp1 0 (some ⟨26, false, [rowC c.calm]⟩)) [.ag (fr 6 fl 0 p)] hpB := .g (close_fr e1 _ (by show p.length + 10 ≤ 100000000; omega)) (.nil _)
  have pvl := hpv.lp
  have pvc := hpv.cells
  have pvk := hpv.keep
  have pvn : ∀ j, j < hp.next → idOf pv ≠ some j := fun j hj e => by have := hpz j e; omega
  have hcB : hget hpB 0 = some ⟨26, false, [rowC c.calm]⟩ := by rw [g1 0 (pvn 0 (by omega))]; exact hget_set _ _ _
  have hrB : RdO hpB 1 16384 [] bv 0 0 := by show hget _ _ = _; rw [g1 1 (pvn 1 (by omega)), hget_other (by decide)]; exact hr1
  have hbB : By hpB bv [] := hbA.mono1 z1.to1
  have hlimB : hpB.lim = 0 := by rw [z1.lim]; exact hlim1
  have hnB : hpB.next = hp1.next := z1.next
  have hNB : Nil hpB := z1.nil (kA.nil (k1.nil hS.nil))
  have hqB : Ow hpB c.q 1 (bs q) := by
    refine (hS.q).get (by omega) (by rw [hlimB, hS.lim]) fun id e => ?_
    rcases hS.q with ⟨e2, _⟩ | ⟨id', e2, q1, q2, q3⟩
    · rw [e2] at e; cases e
    · rw [e2] at e; cases e
      have h2 := hS.q0 _ (by rw [e2]; rfl)
      rw [g1 _ (pvn _ q1), hget_other (by omega), k1.get _ _ h2 q3, q3]
  have shp := shape_ping fl ack p hp8 hf
  have hcB' : CnO hpB c.calm := hcB
  have prt : ∃ w hp', EvC F false 66 [.pt 0 0 0, .ag (partPing ack p)] hpB (.ret w hp') ∧ (w = .tu [] ∧ ∃ c2, PS hp' c2 (q ++ pong ack p) ∧ c2.ev = .ns) := by
    cases ack with
    | true =>
      obtain ⟨w, hp', h1, rfl, rfl⟩ := part_ack (hp := hpB) (p := p)
      refine ⟨_, _, h1, rfl, c.calm, ⟨hcB, ?_, hS.q0, ⟨bv, hrB, hbB⟩, hNB, hlimB, by omega⟩, rfl⟩
      unfold pong
      simpa using hqB
    | false =>
      refine part_ping ?_
      obtain ⟨w, hp', h1, rfl, q', a1, a2, a3, a4⟩ := answer_ok (c := c.calm) (ty := 6) (fl := 1) (s := 0) (p := p) hcB' hqB hS.q0 hlimB (by omega) hNB (by omega) (by unfold rightB; rw [hp8]; rfl)
      refine ⟨_, _, h1, rfl, _, ⟨a1, a2, fun id e => by have := a3 id e; omega, ⟨bv, ?_, ?_⟩, a4.nil hNB, by rw [a4.lim]; exact hlimB, by have := a4.next; omega⟩, rfl⟩
      · exact a4.get 1 _ (by decide) (fun e => by have := hS.q0 1 e; omega) hrB
      · rcases hbB with ⟨e1, _⟩ | e1 | ⟨id, i, fr, rows, e1, q1, q2, q3, q4, q5⟩
        · exact .inl ⟨e1, rfl⟩
        · exact .inr (.inl e1)
        · refine .inr (.inr ⟨id, i, fr, rows, e1, Nat.lt_of_lt_of_le q1 a4.next, by rw [a4.lim]; exact q2, a4.get _ _ ?_ ?_ q3, q4, q5⟩)
          · have := hbz id (by rw [e1]; rfl); omega
          · intro e
            have := hbz id (by rw [e1]; rfl)
            rcases hS.q with ⟨e2, _⟩ | ⟨id', e2, q1, q2, q3⟩
            · rw [show c.calm.q = c.q from rfl, e2] at e; cases e
            · rw [show c.calm.q = c.q from rfl, e2] at e; cases e; omega
  have main : ∃ w hp2, EvC F false 43 [.pt 0 0 0, .ag [.it .i64 6, .it .i64 fl, .it .i64 0, pv]] hp1 (.ret w hp2) ∧ (w = .tu [] ∧ ∃ c2, PS hp2 c2 (q ++ pong ack p) ∧ c2.ev = .ns) := by
    refine EvC.ofQ d43 rfl rfl rfl ?_
    rcases hf with ⟨rfl, rfl⟩ | ⟨rfl, rfl⟩
    all_goals
      repeat (first | refine EvQ.run ?_ | refine EvQ.fin X.rs ?_ | refine EvQ.fin1 (fun _ => rfl) rfl ?_)
      refine EvQ.lift (fun _ zn => X.pcall shp hcl rfl X.al rfl zn) ?_
      repeat (first | refine EvQ.run ?_ | refine EvQ.fin X.rs ?_ | refine EvQ.fin1 (fun _ => rfl) rfl ?_)
      refine EvQ.call rfl X.al prt ?_
      rintro _ hp2 ⟨rfl, hP⟩
      repeat (first | refine EvQ.run ?_ | refine EvQ.fin X.rs ?_ | refine EvQ.fin1 (fun _ => rfl) rfl ?_)
      exact ⟨_, _, rfl, rfl, hP⟩
  obtain ⟨w, hp2, h1, rfl, c2, h2, h3⟩ := main
  exact ⟨_, _, h1, rfl, c2, h2.cn, by rw [h3]; rfl, h2.lim, h2, h3⟩
end Go.Proofs.YtpncefcicfhibaaGreatDoor
