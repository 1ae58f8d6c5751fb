import Derived.Test.YtndodhmfdjcjgaaGreatDoorEvE
import Derived.Test.YtndodhmfdjcjgaaGreatDoorPg
set_option linter.unusedSectionVars false
set_option linter.unusedVariables false
set_option linter.unusedSimpArgs false
-- DATA is said, frame by frame (EvHp EvOwn)
namespace Go.Proofs.YtndodhmfdjcjgaaGreatDoor
open Go hiding Fn
open Ev tab
attribute [local irreducible] EvP EvD EvL EvC EvO evGds evLs C.run sK bK gK pK fK lpB stepD ackE numE setB feedG
set_option maxHeartbeats 16000000 in
theorem data_x {hp : Hp} {w : Int} {p : List Int} (D : DS hp w) (h1 : ilt w (Int.ofNat 16384) = true) : EvC F false 36 [.pt 0 0 0, .ag (ptD p)] hp (.ret (.bo false) hp) := by
 have fd := find_d D
 obtain ⟨hj, hs, hk, hlim⟩ := D
 have main : ∃ v hp', EvC F false 36 [.pt 0 0 0, .ag (ptD p)] hp (.ret v hp') /\ (v = .bo false /\ hp' = hp) := by
  refine EvC.ofQ d36 rfl rfl rfl ?_
  repeat (first | refine EvQ.run ?_ | refine EvQ.lift (fun _ zn => X.pcall (fd) X.cq rfl X.al rfl zn) ?_ | refine EvQ.lift (fun _ zn => X.pcallG (fd) rfl X.cq rfl X.al rfl zn) ?_ | refine EvQ.lift (fun _ zn => X.pcallC (fd) rfl X.cq rfl X.al rfl zn) ?_ | refine EvQ.lift (fun _ zn => X.pcallT (fd) (by decide) X.cq rfl X.al rfl zn) ?_ | refine EvQ.lift (fun _ zn => X.call rfl X.al (fd) zn) ?_ | refine EvQ.fin X.rs ?_ | refine EvQ.fin1 (fun _ => rfl) rfl ?_)
  exact ⟨_, _, rfl, rfl, rfl⟩
 obtain ⟨_, _, e, rfl, rfl⟩ := main
 exact e
/-- what stays where DATA is said -/
structure Sta (hp hp' : Hp) : Prop where
 x : Ex1 hp hp'
 get : ∀ j b, 16 <= j -> hget hp j = some b -> b.sz ≠ 1 -> hget hp' j = some b
theorem close_sz {hp : Hp} {v : V} {l : List Int} (h : By hp v l) : ∃ hp', Ez hp hp' /\ (∀ j b, hget hp j = some b -> b.sz ≠ 1 -> hget hp' j = some b) /\ (∀ j, idOf v ≠ some j -> hget hp' j = hget hp j) /\ ∀ n, l.length + 5 <= n -> closeC n (.sl [.one]) v hp = some (.vs 1 (bs l), hp') := by
 obtain ⟨hp', z, g, c⟩ := close_by2 h
 refine ⟨hp', z, fun j b hb h1 => ?_, g, c⟩
 by_cases e : idOf v = some j
 ·rcases h with ⟨rfl, _⟩ | rfl | ⟨id, i, fr, rows, rfl, q1, q2, q3, q4, q5⟩
  ·cases e
  ·cases e
  ·cases e
   rw [q3] at hb; cases hb
   exact absurd rfl h1
 ·rw [g j e]; exact hb
set_option maxHeartbeats 16000000 in
theorem say_d {hp : Hp} {w w' : Int} {pv : V} {p : List Int} (D : DS hp w) (hpv : By hp pv p) (hz : ∀ id, idOf pv = some id -> 16 <= id) (hl : p.length = 16384) (h1 : ilt w (Int.ofNat 16384) = false) (h2 : wr .i64 (w - Int.ofNat 16384) = w') :
  ∃ hp2, EvC F false 23 [.pt 0 0 0, .ag [.it .i64 0, .it .i64 0, .it .i64 1, pv]] hp (.ret (.bo true) hp2) /\ DS hp2 w' /\ Sta hp hp2 := by
 have so := of_data p hl
 obtain ⟨hpB, z1, gs, g1, e1⟩ := close_sz hpv
 have hcl : ClP c26.ps [.ag [.it .i64 0, .it .i64 0, .it .i64 1, pv]] hp [.ag (fr 0 0 1 p)] hpB := .g (close_fr e1 _ (by show p.length + 10 <= 100000000; omega)) (.nil _)
 have pl := hpv.len
 have pc := hpv.cells
 have pk := hpv.keep
 have pp := hpv.lp
 have DB : DS hpB w := ⟨by rw [g1 0 (fun e => by have := hz 0 e; omega)]; exact D.j, by rw [g1 15 (fun e => by have := hz 15 e; omega)]; exact D.s, by rw [g1 13 (fun e => by have := hz 13 e; omega)]; exact D.k, by rw [z1.lim]; exact D.lim⟩
 have ff := frame_d DB (hpv.mono1 z1.to1) hl
 have x1 : Ex1 hpB (hset hpB 0 (some ⟨13, false, [jrw (.hs 12 0 1) (.hs 15 0 1) w 1 true]⟩)) := (Ex.set _ _ 0).to1 fun b hb => by rw [DB.j] at hb; cases hb; exact (by decide : (13 : Nat) ≠ 1)
 have D2 : DS (hset hpB 0 (some ⟨13, false, [jrw (.hs 12 0 1) (.hs 15 0 1) w 1 true]⟩)) w := ⟨hget_set _ _ _, by rw [hget_other (by decide)]; exact DB.s, by rw [hget_other (by decide)]; exact DB.k, by rw [hset_lim]; exact DB.lim⟩
 generalize hq : hset hpB 0 (some ⟨13, false, [jrw (.hs 12 0 1) (.hs 15 0 1) w 1 true]⟩) = hpC at *
 have dd := data_d (p := p) D2 h1 h2
 have main : ∃ v hp', EvC F false 23 [.pt 0 0 0, .ag [.it .i64 0, .it .i64 0, .it .i64 1, pv]] hp (.ret v hp') /\ (v = .bo true /\ hp' = hset (hset (hset hpC 0 (some ⟨13, false, [jrw (.hs 12 0 1) (.hs 15 0 1) w' 1 true]⟩)) 13 (some ⟨3, false, [[.it .i64 1, .it .i64 3, .it .i64 w']]⟩)) 13 (some ⟨3, false, [[.it .i64 1, .it .i64 3, .it .i64 w']]⟩)) := by
  refine EvC.ofQ d23 rfl rfl rfl ?_
  repeat (first | refine EvQ.run ?_ | refine EvQ.fin X.rs ?_ | refine EvQ.fin1 (fun _ => rfl) rfl ?_)
  refine EvQ.lift (fun _ zn => X.pcall so hcl rfl X.al rfl zn) ?_
  repeat (first | refine EvQ.run ?_ | refine EvQ.lift (fun _ zn => X.pcall (ff) X.cq rfl X.al rfl zn) ?_ | refine EvQ.lift (fun _ zn => X.pcallG (ff) rfl X.cq rfl X.al rfl zn) ?_ | refine EvQ.lift (fun _ zn => X.pcallC (ff) rfl X.cq rfl X.al rfl zn) ?_ | refine EvQ.lift (fun _ zn => X.pcallT (ff) (by decide) X.cq rfl X.al rfl zn) ?_ | refine EvQ.lift (fun _ zn => X.call rfl X.al (ff) zn) ?_ | refine EvQ.lift (fun _ zn => X.pcall (dd) X.cq rfl X.al rfl zn) ?_ | refine EvQ.lift (fun _ zn => X.pcallG (dd) rfl X.cq rfl X.al rfl zn) ?_ | refine EvQ.lift (fun _ zn => X.pcallC (dd) rfl X.cq rfl X.al rfl zn) ?_ | refine EvQ.lift (fun _ zn => X.pcallT (dd) (by decide) X.cq rfl X.al rfl zn) ?_ | refine EvQ.lift (fun _ zn => X.call rfl X.al (dd) zn) ?_ | refine EvQ.fin X.rs ?_ | refine EvQ.fin1 (fun _ => rfl) rfl ?_)
  exact ⟨_, _, rfl, rfl, rfl⟩
 obtain ⟨_, _, e, rfl, rfl⟩ := main
 refine ⟨_, e, ⟨by rw [hget_other (by decide), hget_other (by decide)]; exact hget_set _ _ _, by rw [hget_other (by decide), hget_other (by decide), hget_other (by decide)]; exact D2.s, hget_set _ _ _, by rw [hset_lim, hset_lim, hset_lim]; exact D2.lim⟩, ?_, fun j b hj hb hs => ?_⟩
 ·refine (z1.to1.trans x1).trans ?_
  have y1 : Ex1 hpC (hset hpC 0 (some ⟨13, false, [jrw (.hs 12 0 1) (.hs 15 0 1) w' 1 true]⟩)) := (Ex.set _ _ 0).to1 fun b hb => by rw [D2.j] at hb; cases hb; exact (by decide : (13 : Nat) ≠ 1)
  refine y1.trans ?_
  have k1 : hget (hset hpC 0 (some ⟨13, false, [jrw (.hs 12 0 1) (.hs 15 0 1) w' 1 true]⟩)) 13 = some ⟨3, false, [[.it .i64 1, .it .i64 3, .it .i64 w]]⟩ := by rw [hget_other (by decide)]; exact D2.k
  refine ((Ex.set _ (some ⟨3, false, [[.it .i64 1, .it .i64 3, .it .i64 w']]⟩) 13).to1 fun b hb => by rw [k1] at hb; cases hb; exact (by decide : (3 : Nat) ≠ 1)).trans ?_
  exact (Ex.set _ _ 13).to1 fun b hb => by rw [hget_set] at hb; cases hb; exact (by decide : (3 : Nat) ≠ 1)
 ·rw [hget_other (by omega), hget_other (by omega), hget_other (by omega), <- hq, hget_other (by omega)]
  exact gs j b hb hs
set_option maxHeartbeats 16000000 in
theorem say_x {hp : Hp} {w : Int} {pv : V} {p : List Int} (D : DS hp w) (hpv : By hp pv p) (hz : ∀ id, idOf pv = some id -> 16 <= id) (hl : p.length = 16384) (h1 : ilt w (Int.ofNat 16384) = true) :
  ∃ hp2, EvC F false 23 [.pt 0 0 0, .ag [.it .i64 0, .it .i64 0, .it .i64 1, pv]] hp (.ret (.bo false) hp2) := by
 have so := of_data p hl
 obtain ⟨hpB, z1, gs, g1, e1⟩ := close_sz hpv
 have hcl : ClP c26.ps [.ag [.it .i64 0, .it .i64 0, .it .i64 1, pv]] hp [.ag (fr 0 0 1 p)] hpB := .g (close_fr e1 _ (by show p.length + 10 <= 100000000; omega)) (.nil _)
 have pl := hpv.len
 have pc := hpv.cells
 have pk := hpv.keep
 have pp := hpv.lp
 have DB : DS hpB w := ⟨by rw [g1 0 (fun e => by have := hz 0 e; omega)]; exact D.j, by rw [g1 15 (fun e => by have := hz 15 e; omega)]; exact D.s, by rw [g1 13 (fun e => by have := hz 13 e; omega)]; exact D.k, by rw [z1.lim]; exact D.lim⟩
 have ff := frame_d DB (hpv.mono1 z1.to1) hl
 have D2 : DS (hset hpB 0 (some ⟨13, false, [jrw (.hs 12 0 1) (.hs 15 0 1) w 1 true]⟩)) w := ⟨hget_set _ _ _, by rw [hget_other (by decide)]; exact DB.s, by rw [hget_other (by decide)]; exact DB.k, by rw [hset_lim]; exact DB.lim⟩
 have dd := data_x (p := p) D2 h1
 have main : ∃ v hp', EvC F false 23 [.pt 0 0 0, .ag [.it .i64 0, .it .i64 0, .it .i64 1, pv]] hp (.ret v hp') /\ v = .bo false := by
  refine EvC.ofQ d23 rfl rfl rfl ?_
  repeat (first | refine EvQ.run ?_ | refine EvQ.fin X.rs ?_ | refine EvQ.fin1 (fun _ => rfl) rfl ?_)
  refine EvQ.lift (fun _ zn => X.pcall so hcl rfl X.al rfl zn) ?_
  repeat (first | refine EvQ.run ?_ | refine EvQ.lift (fun _ zn => X.pcall (ff) X.cq rfl X.al rfl zn) ?_ | refine EvQ.lift (fun _ zn => X.pcallG (ff) rfl X.cq rfl X.al rfl zn) ?_ | refine EvQ.lift (fun _ zn => X.pcallC (ff) rfl X.cq rfl X.al rfl zn) ?_ | refine EvQ.lift (fun _ zn => X.pcallT (ff) (by decide) X.cq rfl X.al rfl zn) ?_ | refine EvQ.lift (fun _ zn => X.call rfl X.al (ff) zn) ?_ | refine EvQ.lift (fun _ zn => X.pcall (dd) X.cq rfl X.al rfl zn) ?_ | refine EvQ.lift (fun _ zn => X.pcallG (dd) rfl X.cq rfl X.al rfl zn) ?_ | refine EvQ.lift (fun _ zn => X.pcallC (dd) rfl X.cq rfl X.al rfl zn) ?_ | refine EvQ.lift (fun _ zn => X.pcallT (dd) (by decide) X.cq rfl X.al rfl zn) ?_ | refine EvQ.lift (fun _ zn => X.call rfl X.al (dd) zn) ?_ | refine EvQ.fin X.rs ?_ | refine EvQ.fin1 (fun _ => rfl) rfl ?_)
  exact ⟨_, _, rfl, rfl⟩
 obtain ⟨_, _, e, rfl⟩ := main
 exact ⟨_, e⟩
theorem FrR.at {hp : Hp} {z : Nat} {rows : List (List V)} {fs : List Frm} (h : FrR hp z rows fs) : ∀ (i : Nat) (ty fl s : Int) (p : List Int), fs[i]? = some (ty, fl, s, p) -> ∃ pv, rows.getD i [] = [.it .i64 ty, .it .i64 fl, .it .i64 s, pv] /\ By hp pv p /\ ∀ id, idOf pv = some id -> z <= id := by
 induction h with
 | nil => intro i ty fl s p h; cases h
 | cons h hz r ih =>
  intro i ty fl s p hi
  cases i with
  | zero => simp only [List.getElem?_cons_zero, Option.some.injEq, Prod.mk.injEq] at hi; obtain ⟨rfl, rfl, rfl, rfl⟩ := hi; exact ⟨_, rfl, h, hz⟩
  | succ i => simp only [List.getElem?_cons_succ] at hi; obtain ⟨pv, e, y⟩ := ih i ty fl s p hi; exact ⟨pv, e, y⟩
end Go.Proofs.YtndodhmfdjcjgaaGreatDoor
