import Derived.Test.YtfnoiklmcmboeaaGreatDoorEvE
import Derived.Test.YtfnoiklmcmboeaaGreatDoorCnw7
set_option linter.unusedSectionVars false
set_option linter.unusedVariables false
set_option linter.unusedSimpArgs false
-- a world where nobody is: a step does nothing (EvHp EvOwn)
namespace Ev
variable [Glob]
open Go
section
variable {F' : Nat → Option Ev.Fn} {R : Ev.R} {Q : Ev.R → Prop} {k : Ev.R → D} {clr : List Nat} {tm : Tm} {lo : Lo} {hp : Hp} {r : List DOp} {us : List Nat} {g : Option (Nat × Bool)} {d : Nat}
/-- a call, beside which addresses stand that are one's own boxes -/
theorem X_callU {own : Bool} {md : Md} {f : Nat} {xs : List A} {ys : List V} {w : V} {hp' : Hp} (hx : xs.map (get tm) = ys) (hl : ys.any isLp = false) (hk : keepsB us tm hp hp' = true) (h : EvC F' own f ys hp (.ret w hp')) (n : EvD F' (evLs clr r ⟨upd tm d w, lo, hp'⟩ k) R) :
    EvD F' (evLs clr (⟨some d, g, us, .call own md f xs⟩ :: r) ⟨tm, lo, hp⟩ k) R := by
  have e : evLs clr (⟨some d, g, us, .call own md f xs⟩ :: r) ⟨tm, lo, hp⟩ k = callD own f (xs.map (get tm)) ⟨tm, lo, hp⟩ (fun v s => bif keepsB us tm hp s.hp then forceV (fun v => evLs clr r (put s (some d) v) k) v else .bad) (fun v s => k (.pan v s)) := rfl
  rw [e, hx]
  unfold callD
  rw [hl]
  refine EvD.call h ?_
  show EvD F' (bif keepsB us tm hp hp' then forceV (fun v => evLs clr r (put (St.setHp ⟨tm, lo, hp⟩ hp') (some d) v) k) w else .bad) R
  rw [hk]
  show EvD F' (forceV (fun v => evLs clr r (put (St.setHp ⟨tm, lo, hp⟩ hp') (some d) v) k) w) R
  rw [forceV_eq]
  exact n
theorem EvQ_callU {own : Bool} {md : Md} {f : Nat} {xs : List A} {ys : List V} {P : V → Hp → Prop} (hx : xs.map (get tm) = ys) (hl : ys.any isLp = false) (hk : ∀ hp', keepsB us tm hp hp' = true) (h : ∃ v hp', EvC F' own f ys hp (.ret v hp') ∧ P v hp')
    (n : ∀ v hp', P v hp' → EvQ F' (evLs clr r ⟨upd tm d v, lo, hp'⟩ k) Q) : EvQ F' (evLs clr (⟨some d, g, us, .call own md f xs⟩ :: r) ⟨tm, lo, hp⟩ k) Q := by
  obtain ⟨v, hp', h1, h2⟩ := h
  exact (n v hp' h2).lift fun R n => X_callU hx hl (hk hp') h1 n
end
end Ev
namespace Go.Proofs.YtfnoiklmcmboeaaGreatDoor.cnw
open Go hiding Fn
open Ev tab
attribute [local irreducible] EvP EvD EvL EvC EvO evGds evLs C.run sK bK gK pK fK lpB stepD stat
def sideN (k : Int) : Nat := if k = 6 ∨ k = 7 ∨ k = 8 ∨ k = 9 ∨ k = 12 ∨ k = 13 then 1 else 0
set_option maxHeartbeats 8000000 in
theorem side_ok (k : Int) : EvP Fq 42 c42 [.it .i64 k] [.it .i64 (Int.ofNat (sideN k))] := by
  refine EvP.ofQ d42 rfl rfl rfl ?_
  repeat' (first | refine EvQ.run ?_ | (refine EvQ.pickB rfl rfl rfl ?_) | (refine EvQ.cond rfl (fun h => ?_) (fun h => ?_) <;> ((first | replace h := X.nm h | skip); try have hne := ne_len h)) | (refine EvQ.g1 rfl (fun h => ?_) (fun h => ?_) <;> ((first | replace h := X.nm h | skip); try have hne := ne_len h)) | (refine EvQ.pick rfl (fun _ => rfl) (fun _ => rfl) (fun h => ?_) (fun h => ?_) <;> ((first | replace h := X.nm h | skip); try have hne := ne_len h)) | refine EvQ.fin X.rs ?_ | refine EvQ.fin1 (fun _ => rfl) rfl ?_)
  all_goals
    refine PQ.it ?_
    unfold sideN
    first
      | rw [if_pos (by omega)]
      | rw [if_neg (by omega)]
theorem sideN_le (k : Int) : sideN k = 0 ∨ sideN k = 1 := by unfold sideN; split <;> simp
def plV (l : List Nat) (n : Int) : V := if 0 ≤ n ∧ n < 8 then .pt (l.getD n.toNat 0) 0 0 else .np
theorem pts_getD {l : List Nat} {i : Nat} (h : i < l.length) : (pts l).getD i [] = [.pt (l.getD i 0) 0 0] := by
  unfold pts
  rw [List.getD, List.getD, List.getElem?_map, List.getElem?_eq_getElem h]; rfl
set_option maxHeartbeats 16000000 in
theorem place_ok {own : Bool} {hp : Hp} {c : Cfg} {w p : Nat} {a b : V} {x y : List Nat} (hW : WdJ hp c w p a b x y) (hx : x.length = 8) (hy : y.length = 8) (sd : Nat) (hs : sd = 0 ∨ sd = 1) (n : Int) :
    ∃ z hp', EvC Fq own 41 [.pt w 0 0, .it .i64 (Int.ofNat sd), .it .i64 n] hp (.ret z hp') ∧ (z = plV (if sd = 0 then x else y) n ∧ hp' = hp) := by
  have hobj := hW.obj
  unfold wdR at hobj
  have hA := hW.oa
  have hB := hW.ob
  have al := hA.lp
  have ac := hA.cells
  have ak := hA.keep
  have an := hA.len
  have aR := hA.sl.rd
  have bl := hB.lp
  have bc := hB.cells
  have bk := hB.keep
  have bn := hB.len
  have bR := hB.sl.rd
  rw [pts_length, hx] at an
  rw [pts_length, hy] at bn
  have lx : (pts x).length = 8 := by rw [pts_length]; exact hx
  have ly : (pts y).length = 8 := by rw [pts_length]; exact hy
  refine EvC.ofQ d41 rfl rfl rfl ?_
  by_cases h0 : n < 0
  · have q1 : ilt n (Int.ofNat 0) = true := il1 h0
    have e : ∀ l, plV l n = .np := fun l => if_neg (by omega)
    rw [e]
    rcases hs with rfl | rfl
    · repeat' (first | refine EvQ.run ?_ | (refine EvQ.pickB rfl rfl rfl ?_) | (refine EvQ.cond rfl (fun h => ?_) (fun h => ?_) <;> ((first | replace h := X.nm h | skip); try have hne := ne_len h)) | (refine EvQ.g1 rfl (fun h => ?_) (fun h => ?_) <;> ((first | replace h := X.nm h | skip); try have hne := ne_len h)) | (refine EvQ.pick rfl (fun _ => rfl) (fun _ => rfl) (fun h => ?_) (fun h => ?_) <;> ((first | replace h := X.nm h | skip); try have hne := ne_len h)) | refine EvQ.fin X.rs ?_ | refine EvQ.fin1 (fun _ => rfl) rfl ?_)
      all_goals exact ⟨_, _, rfl, rfl, rfl⟩
    · repeat' (first | refine EvQ.run ?_ | (refine EvQ.pickB rfl rfl rfl ?_) | (refine EvQ.cond rfl (fun h => ?_) (fun h => ?_) <;> ((first | replace h := X.nm h | skip); try have hne := ne_len h)) | (refine EvQ.g1 rfl (fun h => ?_) (fun h => ?_) <;> ((first | replace h := X.nm h | skip); try have hne := ne_len h)) | (refine EvQ.pick rfl (fun _ => rfl) (fun _ => rfl) (fun h => ?_) (fun h => ?_) <;> ((first | replace h := X.nm h | skip); try have hne := ne_len h)) | refine EvQ.fin X.rs ?_ | refine EvQ.fin1 (fun _ => rfl) rfl ?_)
      all_goals exact ⟨_, _, rfl, rfl, rfl⟩
  · obtain ⟨m, rfl⟩ : ∃ m : Nat, n = Int.ofNat m := ⟨n.toNat, by simp only [Int.ofNat_eq_natCast]; omega⟩
    have q1 : ilt (Int.ofNat m) (Int.ofNat 0) = false := il0 h0
    by_cases h8 : m < 8
    · have gx := pts_getD (l := x) (i := m) (by omega)
      have gy := pts_getD (l := y) (i := m) (by omega)
      have e : ∀ l, plV l (Int.ofNat m) = .pt (l.getD m 0) 0 0 := fun l => if_pos ⟨by simp only [Int.ofNat_eq_natCast]; omega, by simp only [Int.ofNat_eq_natCast]; omega⟩
      rw [e]
      rcases hs with rfl | rfl
      · rw [if_pos rfl]
        generalize x.getD m 0 = xm at *
        repeat' (first | refine EvQ.run ?_ | (refine EvQ.pickB rfl rfl rfl ?_) | (refine EvQ.cond rfl (fun h => ?_) (fun h => ?_) <;> ((first | replace h := X.nm h | skip); try have hne := ne_len h)) | (refine EvQ.g1 rfl (fun h => ?_) (fun h => ?_) <;> ((first | replace h := X.nm h | skip); try have hne := ne_len h)) | (refine EvQ.pick rfl (fun _ => rfl) (fun _ => rfl) (fun h => ?_) (fun h => ?_) <;> ((first | replace h := X.nm h | skip); try have hne := ne_len h)) | refine EvQ.fin X.rs ?_ | refine EvQ.fin1 (fun _ => rfl) rfl ?_)
        all_goals exact ⟨_, _, rfl, rfl, rfl⟩
      · rw [if_neg (by decide)]
        generalize y.getD m 0 = ym at *
        repeat' (first | refine EvQ.run ?_ | (refine EvQ.pickB rfl rfl rfl ?_) | (refine EvQ.cond rfl (fun h => ?_) (fun h => ?_) <;> ((first | replace h := X.nm h | skip); try have hne := ne_len h)) | (refine EvQ.g1 rfl (fun h => ?_) (fun h => ?_) <;> ((first | replace h := X.nm h | skip); try have hne := ne_len h)) | (refine EvQ.pick rfl (fun _ => rfl) (fun _ => rfl) (fun h => ?_) (fun h => ?_) <;> ((first | replace h := X.nm h | skip); try have hne := ne_len h)) | refine EvQ.fin X.rs ?_ | refine EvQ.fin1 (fun _ => rfl) rfl ?_)
        all_goals exact ⟨_, _, rfl, rfl, rfl⟩
    · have e : ∀ l, plV l (Int.ofNat m) = .np := fun l => if_neg (by simp only [Int.ofNat_eq_natCast]; omega)
      rw [e]
      rcases hs with rfl | rfl
      · repeat' (first | refine EvQ.run ?_ | (refine EvQ.pickB rfl rfl rfl ?_) | (refine EvQ.cond rfl (fun h => ?_) (fun h => ?_) <;> ((first | replace h := X.nm h | skip); try have hne := ne_len h)) | (refine EvQ.g1 rfl (fun h => ?_) (fun h => ?_) <;> ((first | replace h := X.nm h | skip); try have hne := ne_len h)) | (refine EvQ.pick rfl (fun _ => rfl) (fun _ => rfl) (fun h => ?_) (fun h => ?_) <;> ((first | replace h := X.nm h | skip); try have hne := ne_len h)) | refine EvQ.fin X.rs ?_ | refine EvQ.fin1 (fun _ => rfl) rfl ?_)
        all_goals exact ⟨_, _, rfl, rfl, rfl⟩
      · repeat' (first | refine EvQ.run ?_ | (refine EvQ.pickB rfl rfl rfl ?_) | (refine EvQ.cond rfl (fun h => ?_) (fun h => ?_) <;> ((first | replace h := X.nm h | skip); try have hne := ne_len h)) | (refine EvQ.g1 rfl (fun h => ?_) (fun h => ?_) <;> ((first | replace h := X.nm h | skip); try have hne := ne_len h)) | (refine EvQ.pick rfl (fun _ => rfl) (fun _ => rfl) (fun h => ?_) (fun h => ?_) <;> ((first | replace h := X.nm h | skip); try have hne := ne_len h)) | refine EvQ.fin X.rs ?_ | refine EvQ.fin1 (fun _ => rfl) rfl ?_)
        all_goals exact ⟨_, _, rfl, rfl, rfl⟩
/-- a step -/
structure Stp where
  k : Int
  n : Int
  sz : Int
  sm : Int
  rows : List (List V)
  tx : List Nat
  en : Bool
def rowSp (s : Stp) : List V := [.it .i64 s.k, .it .i64 s.n, .it .i64 s.sz, .it .i64 s.sm, .vs 3 s.rows, .st s.tx, .bo s.en]
theorem plV_cases {hp : Hp} {c : Cfg} {w p : Nat} {a b : V} {x y : List Nat} (hW : WdJ hp c w p a b x y) (hx : x.length = 8) (hy : y.length = 8) (q : Prop) [Decidable q] (n : Int) : plV (if q then x else y) n = .np ∨ ∃ e, plV (if q then x else y) n = .pt e 0 0 ∧ hget hp e = some end0 := by
  unfold plV
  split
  · right
    refine ⟨_, rfl, (hW.ends _ ?_).1⟩
    split
    · refine List.mem_append_left _ ?_
      rw [List.getD, List.getElem?_eq_getElem (by omega)]; exact List.getElem_mem _
    · refine List.mem_append_right _ ?_
      rw [List.getD, List.getElem?_eq_getElem (by omega)]; exact List.getElem_mem _
  · exact .inl rfl
set_option maxHeartbeats 32000000 in
theorem do_ok {own : Bool} {hp : Hp} {c : Cfg} {w p : Nat} {a b : V} {x y : List Nat} (hW : WdJ hp c w p a b x y) (hx : x.length = 8) (hy : y.length = 8) (s : Stp) (h1 : s.k ≠ 1) (h14 : s.k ≠ 14) :
    ∃ z hp', EvC Fq own 13 [.pt w 0 0, .ag (rowSp s)] hp (.ret z hp') ∧ (z = .ag [.bo false, .it .i64 0, .it .i64 0] ∧ hp' = hp) := by
  obtain ⟨k, n, sz, sm, rows, tx, en⟩ := s
  simp only at h1 h14
  have sd := side_ok k
  have pl := place_ok (own := false) hW hx hy (sideN k) (sideN_le k) n
  have z1 : ieq k (Int.ofNat 1) = false := by rw [ieqD]; exact decide_eq_false h1
  have z2 : ieq k (Int.ofNat 14) = false := by rw [ieqD]; exact decide_eq_false h14
  refine EvC.ofQ d13 rfl rfl rfl ?_
  rcases plV_cases hW hx hy (sideN k = 0) n with e | ⟨e, e1, e2⟩
  · rw [e] at pl
    generalize sideN k = S at *
    repeat (first | refine EvQ.run ?_ | refine EvQ.lift (fun _ zn => X.pcall (sd) X.cq rfl X.al rfl zn) ?_ | refine EvQ.lift (fun _ zn => X.pcallG (sd) rfl X.cq rfl X.al rfl zn) ?_ | refine EvQ.lift (fun _ zn => X.pcallC (sd) rfl X.cq rfl X.al rfl zn) ?_ | refine EvQ.lift (fun _ zn => X.pcallT (sd) (by decide) X.cq rfl X.al rfl zn) ?_ | refine EvQ.lift (fun _ zn => X.call rfl X.al (sd) zn) ?_ | refine EvQ.fin X.rs ?_ | refine EvQ.fin1 (fun _ => rfl) rfl ?_)
    refine EvQ_callU rfl X.al (fun _ => rfl) pl ?_
    rintro _ _ ⟨rfl, q⟩
    rw [q]
    repeat' (first | refine EvQ.run ?_ | (refine EvQ.pickB rfl rfl rfl ?_) | (refine EvQ.cond rfl (fun h => ?_) (fun h => ?_) <;> ((first | replace h := X.nm h | skip); try have hne := ne_len h)) | (refine EvQ.g1 rfl (fun h => ?_) (fun h => ?_) <;> ((first | replace h := X.nm h | skip); try have hne := ne_len h)) | (refine EvQ.pick rfl (fun _ => rfl) (fun _ => rfl) (fun h => ?_) (fun h => ?_) <;> ((first | replace h := X.nm h | skip); try have hne := ne_len h)) | refine EvQ.fin X.rs ?_ | refine EvQ.fin1 (fun _ => rfl) rfl ?_)
    all_goals exact ⟨_, _, rfl, rfl, rfl⟩
  · rw [e1] at pl
    generalize sideN k = S at *
    repeat (first | refine EvQ.run ?_ | refine EvQ.lift (fun _ zn => X.pcall (sd) X.cq rfl X.al rfl zn) ?_ | refine EvQ.lift (fun _ zn => X.pcallG (sd) rfl X.cq rfl X.al rfl zn) ?_ | refine EvQ.lift (fun _ zn => X.pcallC (sd) rfl X.cq rfl X.al rfl zn) ?_ | refine EvQ.lift (fun _ zn => X.pcallT (sd) (by decide) X.cq rfl X.al rfl zn) ?_ | refine EvQ.lift (fun _ zn => X.call rfl X.al (sd) zn) ?_ | refine EvQ.fin X.rs ?_ | refine EvQ.fin1 (fun _ => rfl) rfl ?_)
    refine EvQ_callU rfl X.al (fun _ => rfl) pl ?_
    rintro _ _ ⟨rfl, q⟩
    rw [q]
    repeat' (first | refine EvQ.run ?_ | (refine EvQ.pickB rfl rfl rfl ?_) | (refine EvQ.cond rfl (fun h => ?_) (fun h => ?_) <;> ((first | replace h := X.nm h | skip); try have hne := ne_len h)) | (refine EvQ.g1 rfl (fun h => ?_) (fun h => ?_) <;> ((first | replace h := X.nm h | skip); try have hne := ne_len h)) | (refine EvQ.pick rfl (fun _ => rfl) (fun _ => rfl) (fun h => ?_) (fun h => ?_) <;> ((first | replace h := X.nm h | skip); try have hne := ne_len h)) | refine EvQ.fin X.rs ?_ | refine EvQ.fin1 (fun _ => rfl) rfl ?_)
    all_goals exact ⟨_, _, rfl, rfl, rfl⟩
end Go.Proofs.YtfnoiklmcmboeaaGreatDoor.cnw
