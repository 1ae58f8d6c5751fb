import Derived.Test.YtpncefcicfhibaaGreatDoorEvE
import Derived.Test.YtpncefcicfhibaaGreatDoorBk2
set_option linter.unusedVariables false
set_option linter.unusedSimpArgs false
-- DATA on a stream that was reset: the frame (EvHp EvOwn)
namespace Go.Proofs.YtpncefcicfhibaaGreatDoor.back
open Go hiding Fn
open Ev tab
attribute [local irreducible] EvP EvD EvL EvC evGds evLs C.run sK bK gK pK fK lpB stepD
set_option maxHeartbeats 16000000 in
theorem out_all2 {hp : Hp} {c : CnV} {q : List Int} (hS : PS hp c q) (hl : q.length ≤ 1000000) : ∃ w hp', EvC F false 13 [.pt 0 0 0, .it .i64 1048576] hp (.ret w hp') ∧ (isLp w = false ∧ hp' = hset (aph hp q) 0 (some ⟨26, false, [rowC ⟨c.pw, .ns, c.out, c.inn, c.ways, c.last, c.mute, c.ev⟩]⟩)) := by
  have hcR : hget hp 0 = some ⟨26, false, [rowC c]⟩ := hS.cn
  have hR := hS.q.sl.rd
  have ql := hS.q.lp
  have qn := hS.q.len
  have hlim := hS.lim
  have hnx := hS.next
  rw [bs_length] at qn
  have hB : By hp c.q q := ow_by hS.q
  have hN := hS.nil
  have hQs : ∀ b, hget hp 0 = some b → b.sz ≠ 1 := fun b hb => by rw [hcR] at hb; cases hb; exact (by decide : (26 : Nat) ≠ 1)
  have hlt : ilt (Int.ofNat q.length) 1048576 = true := by rw [ilt_eq]; exact decide_eq_true (by simp only [Int.ofNat_eq_natCast]; omega)
  have em : (bif ilt (Int.ofNat q.length) 1048576 then Int.ofNat q.length else 1048576) = Int.ofNat q.length := by rw [hlt]; rfl
  have hB1 := hB.slv (a := 0) (b := q.length) (Nat.zero_le _) (Nat.le_refl _)
  rw [List.drop_zero, Nat.sub_zero, List.take_length] at hB1
  have hgA := aph_get hN q hcR
  have hBA : By (aph hp q) c.q q := hB.mono (aph_ex hN q 0) hQs
  have hB2 := hBA.slv (a := q.length) (b := q.length) (Nat.le_refl _) (Nat.le_refl _)
  rw [Nat.sub_self, List.take_zero] at hB2
  have hlA : (aph hp q).lim = 0 := by rw [aph_lim]; exact hlim
  have a1 := apv_lp hp q
  have a2 := apv_by (hp := hp) (by omega) q
  have hQa : ∀ b, hget (aph hp q) 0 = some b → b.sz ≠ 1 := fun b hb => by rw [hgA] at hb; cases hb; exact (by decide : (26 : Nat) ≠ 1)
  refine EvC.ofQ d13 rfl rfl rfl ?_
  repeat (first | refine EvQ.run ?_ | refine EvQ.fin X.rs ?_ | refine EvQ.fin1 (fun _ => rfl) rfl ?_)
  refine EvQ.lift (fun _ zn => X.slcE X.w hB (a := 0) (b := q.length) rfl ⟨_, congrArg (V.it .i64) em⟩ (Nat.zero_le _) (Nat.le_refl _) zn) ?_
  refine EvQ.lift (fun _ zn => X.apE (v := slv c.q 0 q.length) X.w rfl hB1 (by simp only [Nat.mul_one]; omega) zn) ?_
  generalize apv hp q = z at *
  repeat (first | refine EvQ.run ?_ | refine EvQ.fin X.rs ?_ | refine EvQ.fin1 (fun _ => rfl) rfl ?_)
  refine EvQ.lift (fun _ zn => X.slcE X.w hBA (a := q.length) (b := q.length) ⟨_, congrArg (V.it .i64) em⟩ rfl (Nat.le_refl _) (Nat.le_refl _) zn) ?_
  refine EvQ.lift (fun _ zn => X.apE (v := slv c.q q.length q.length) X.w rfl hB2 (by simp) zn) ?_
  rw [show apv (aph hp q) [] = V.ns from if_pos rfl, show aph (aph hp q) [] = aph hp q from if_pos rfl]
  repeat (first | refine EvQ.run ?_ | refine EvQ.fin X.rs ?_ | refine EvQ.fin1 (fun _ => rfl) rfl ?_)
  exact ⟨_, _, rfl, a1, rfl⟩
/-- a connection's rest: its queue taken out -/
theorem ps_out {hp : Hp} {c : CnV} {q : List Int} (hS : PS hp c q) : PS (hset (aph hp q) 0 (some ⟨26, false, [rowC ⟨c.pw, .ns, c.out, c.inn, c.ways, c.last, c.mute, c.ev⟩]⟩)) ⟨c.pw, .ns, c.out, c.inn, c.ways, c.last, c.mute, c.ev⟩ [] := by
  have hcR : hget hp 0 = some ⟨26, false, [rowC c]⟩ := hS.cn
  have hgA := aph_get hS.nil q hcR
  have hQs : ∀ b, hget hp 0 = some b → b.sz ≠ 1 := fun b hb => by rw [hcR] at hb; cases hb; exact (by decide : (26 : Nat) ≠ 1)
  have hQa : ∀ b, hget (aph hp q) 0 = some b → b.sz ≠ 1 := fun b hb => by rw [hgA] at hb; cases hb; exact (by decide : (26 : Nat) ≠ 1)
  obtain ⟨bv, r1, r2⟩ := hS.rd
  have hnx := hS.next
  have hn2 := aph_next hp q
  refine ⟨hget_set _ _ _, .ns, fun id e => by (cases e), ⟨bv, ?_, (r2.mono (aph_ex hS.nil q 0) hQs).mono (Ex.set _ _ 0) hQa⟩, (aph_nil hS.nil q).set (by omega) _, by rw [hset_lim, aph_lim]; exact hS.lim, by rw [hset_next]; omega⟩
  show hget _ _ = _
  rw [hget_other (by decide)]
  exact aph_get hS.nil q r1
/-- what stays beside the connection, its queue and what it keeps muted -/
structure Km (qv : V) (m : Nat) (hp hp' : Hp) : Prop where
  next : hp.next ≤ hp'.next
  lim : hp'.lim = hp.lim
  nil : Nil hp → Nil hp'
  get : ∀ j x, 1 ≤ j → j ≠ m → idOf qv ≠ some j → hget hp j = some x → hget hp' j = some x
abbrev wupd : List Int := h9 8 0 0 4 ++ [0, 0, 62, 129]
set_option maxHeartbeats 16000000 in
theorem data95 {hp : Hp} {pw out : Int} {q ways ev : V} {m : Nat} {fr : Bool} {qs body : List Int} (h : CnO hp (cM pw q out 65535 ways m ev)) (hq : Ow hp q 1 (bs qs)) (hq0 : ∀ id, idOf q = some id → 2 ≤ id) (hqm : idOf q ≠ some m) (hm2 : 2 ≤ m)
    (hm : hget hp m = some ⟨1, fr, [[.it .i64 1]]⟩) (hw : lenOf false ways = some 0) (hwl : isLp ways = false) (hlim : hp.lim = 0) (h2 : 2 ≤ hp.next) (hN : Nil hp) (hl : qs.length ≤ 100) :
    ∃ w hp', EvC F false 95 [.pt 0 0 0, .ag (partData body)] hp (.ret w hp') ∧ (w = .tu [] ∧ ∃ q', CnO hp' (cM pw q' out 65535 ways m ev) ∧ Ow hp' q' 1 (bs (qs ++ wupd)) ∧ (∀ id, idOf q' = some id → hp.next ≤ id) ∧ Km q m hp hp' ∧ hget hp' m = some ⟨1, true, [[.it .i64 1]]⟩) := by
  have hcR : hget hp 0 = some ⟨26, false, [rowC (cM pw q out 65535 ways m ev)]⟩ := h
  have id1 := idle_ok h
  have tk := take_ok 65535 16001 (by decide) (by decide) (by decide)
  have hmn : m < hp.next := Nat.lt_of_not_le fun hle => by rw [hN m hle] at hm; cases hm
  have h1 : CnO (hset hp 0 (some ⟨26, false, [rowC (cM pw q out (65535 - 16001) ways m ev)]⟩)) (cM pw q out (65535 - 16001) ways m ev) := hget_set _ _ _
  have hm1 : hget (hset hp 0 (some ⟨26, false, [rowC (cM pw q out (65535 - 16001) ways m ev)]⟩)) m = some ⟨1, fr, [[.it .i64 1]]⟩ := by rw [hget_other (by omega)]; exact hm
  have mu := muted_ok h1 hm1 (by rw [hset_lim]; exact hlim)
  have h3 : CnO (hset (hset hp 0 (some ⟨26, false, [rowC (cM pw q out (65535 - 16001) ways m ev)]⟩)) m (some ⟨1, true, [[.it .i64 1]]⟩)) (cM pw q out (65535 - 16001) ways m ev) := by
    show hget _ _ = _
    rw [hget_other (by omega)]; exact h1
  have q3 : Ow (hset (hset hp 0 (some ⟨26, false, [rowC (cM pw q out (65535 - 16001) ways m ev)]⟩)) m (some ⟨1, true, [[.it .i64 1]]⟩)) q 1 (bs qs) :=
    ow_set (ow_set hq fun id e => by have := hq0 id e; omega) fun id e e2 => hqm (by rw [e, e2])
  obtain ⟨w, hp4, bk, rfl, q', b1, b2, b3, b4⟩ := back_ok (qs := qs) h3 q3 hq0 hw hwl (by rw [hset_lim, hset_lim]; exact hlim) (by rw [hset_next, hset_next]; exact h2) ((hN.set (by omega) _).set (by rw [hset_next]; exact hmn) _) hl (by decide)
  have hn4 := b4.next
  rw [hset_next, hset_next] at hn4
  have main : ∃ w hp', EvC F false 95 [.pt 0 0 0, .ag (partData body)] hp (.ret w hp') ∧ (w = .tu [] ∧ hp' = hp4) := by
    have ccl : CloL [.one] [V.it .i64 65535] := .cons (clo_it _ _) .nil
    refine EvC.ofQ d95 rfl rfl rfl ?_
    repeat (first | refine EvQ.run ?_ | refine EvQ.fin X.rs ?_ | refine EvQ.fin1 (fun _ => rfl) rfl ?_)
    refine EvQ.call rfl X.al id1 ?_
    rintro _ hp1 ⟨rfl, rfl⟩
    repeat (first | refine EvQ.run ?_ | refine EvQ.lift (fun _ zn => X.pcall (tk) X.cq rfl X.al rfl zn) ?_ | refine EvQ.lift (fun _ zn => X.pcallG (tk) rfl X.cq rfl X.al rfl zn) ?_ | refine EvQ.lift (fun _ zn => X.pcallC (tk) rfl X.cq rfl X.al rfl zn) ?_ | refine EvQ.lift (fun _ zn => X.pcallT (tk) (by decide) X.cq rfl X.al rfl zn) ?_ | refine EvQ.lift (fun _ zn => X.call rfl X.al (tk) zn) ?_ | refine EvQ.fin X.rs ?_ | refine EvQ.fin1 (fun _ => rfl) rfl ?_)
    refine EvQ.call rfl X.al mu ?_
    rintro _ hp2 ⟨rfl, rfl⟩
    repeat (first | refine EvQ.run ?_ | refine EvQ.fin X.rs ?_ | refine EvQ.fin1 (fun _ => rfl) rfl ?_)
    refine EvQ.lift (fun _ zn => X.call rfl X.al bk zn) ?_
    repeat (first | refine EvQ.run ?_ | refine EvQ.fin X.rs ?_ | refine EvQ.fin1 (fun _ => rfl) rfl ?_)
    exact ⟨_, _, rfl, rfl, rfl⟩
  obtain ⟨w, hp', m1, rfl, rfl⟩ := main
  refine ⟨_, _, m1, rfl, q', b1, b2, fun id e => by have := b3 id e; rw [hset_next, hset_next] at this; exact this, ⟨hn4, by rw [b4.lim, hset_lim, hset_lim], fun n => b4.nil ((n.set (by omega) _).set (by rw [hset_next]; exact hmn) _), fun j x hj hjm hjq hx => b4.get j x hj hjq (by rw [hget_other hjm, hget_other (by omega)]; exact hx)⟩, ?_⟩
  exact b4.get m _ (by omega) hqm (hget_set _ _ _)
set_option maxHeartbeats 16000000 in
theorem part_data {hp : Hp} {body : List Int} {P : Hp → Prop} (h : ∃ w hp', EvC F false 95 [.pt 0 0 0, .ag (partData body)] hp (.ret w hp') ∧ (w = .tu [] ∧ P hp')) : ∃ w hp', EvC F false 66 [.pt 0 0 0, .ag (partData body)] hp (.ret w hp') ∧ (w = .tu [] ∧ P hp') := by
  refine EvC.ofQ d66 rfl rfl rfl ?_
  repeat (first | refine EvQ.run ?_ | refine EvQ.fin X.rs ?_ | refine EvQ.fin1 (fun _ => rfl) rfl ?_)
  refine EvQ.call rfl X.al h ?_
  rintro _ hp' ⟨rfl, hP⟩
  repeat (first | refine EvQ.run ?_ | refine EvQ.fin X.rs ?_ | refine EvQ.fin1 (fun _ => rfl) rfl ?_)
  exact ⟨_, _, rfl, rfl, hP⟩
end Go.Proofs.YtpncefcicfhibaaGreatDoor.back
