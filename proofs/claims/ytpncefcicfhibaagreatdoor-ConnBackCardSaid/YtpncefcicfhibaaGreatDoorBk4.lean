import Derived.Test.YtpncefcicfhibaaGreatDoorEvE
import Derived.Test.YtpncefcicfhibaaGreatDoorBk3
import Derived.Test.YtpncefcicfhibaaGreatDoorWith
set_option linter.unusedVariables false
set_option linter.unusedSimpArgs false
-- DATA on a stream that was reset, fed (EvHp EvOwn)
namespace Go.Proofs.YtpncefcicfhibaaGreatDoor.back
open Go hiding Fn
open Ev tab
attribute [local irreducible] EvP EvD EvL EvC evGds evLs C.run sK bK gK pK fK lpB stepD
section
variable {hp : Hp} {pw out : Int} {q ways : V} {m : Nat} {fr0 : Bool} {qs : List Int}
set_option maxHeartbeats 32000000 in
theorem frame_data (hS : PS hp (cM pw q out 65535 ways m .ns) qs) (hqm : idOf q ≠ some m) (hm2 : 2 ≤ m) (hm : hget hp m = some ⟨1, fr0, [[.it .i64 1]]⟩) (hw : lenOf false ways = some 0) (hwl : isLp ways = false) (hl : qs.length ≤ 100)
    (xn : Nat) (zs : List Int) (hx : xn ≤ 255) (hz : zs.length = 16000) :
    FrQ hp (cM pw q out 65535 ways m .ns) 0 8 1 (Int.ofNat xn :: zs) (fun hp2 c2 => ∃ q', c2 = cM pw q' out 65535 ways m .ns ∧ PS hp2 c2 (qs ++ wupd) ∧ idOf q' ≠ some m ∧ hget hp2 m = some ⟨1, true, [[.it .i64 1]]⟩) := by
  intro hp1 pv bv hc1 hr1 hb1 hbz hpv hpz k1
  have hpl : (Int.ofNat xn :: zs).length = 16001 := by rw [List.length_cons, hz]
  have hcR : hget hp1 0 = some ⟨26, false, [rowC (cM pw q out 65535 ways m .ns)]⟩ := hc1
  have hQs : ∀ b, hget hp1 0 = some b → b.sz ≠ 1 := fun b hb => by rw [hcR] at hb; cases hb; exact (by decide : (26 : Nat) ≠ 1)
  have hlim1 : hp1.lim = 0 := by rw [k1.lim]; exact hS.lim
  have hn1 := k1.next
  have hnx := hS.next
  have hmn : m < hp.next := Nat.lt_of_not_le fun hle => by rw [hS.nil m hle] at hm; cases hm
  have kA : Kp hp1 (hset hp1 0 (some ⟨26, false, [rowC (cM pw q out 65535 ways m .ns)]⟩)) := Kp.set (by decide) (by omega) _
  have hpA : By (hset hp1 0 (some ⟨26, false, [rowC (cM pw q out 65535 ways m .ns)]⟩)) pv (Int.ofNat xn :: zs) := hpv.mono (Ex.set _ _ 0) hQs
  have hbA : By (hset hp1 0 (some ⟨26, false, [rowC (cM pw q out 65535 ways m .ns)]⟩)) bv [] := hb1.mono (Ex.set _ _ 0) hQs
  obtain ⟨hpB, z1, g1, e1⟩ := close_by2 hpA
  have shp := shape_data xn zs hx hz
  generalize zs.take (16000 - xn) = body at shp
  generalize Int.ofNat xn :: zs = p at *
  have hcl : ClP c64.ps [.ag [.it .i64 0, .it .i64 8, .it .i64 1, pv]] (hset hp1 0 (some ⟨26, false, [rowC (cM pw q out 65535 ways m .ns)]⟩)) [.ag (fr 0 8 1 p)] hpB := .g (close_fr e1 _ (by show p.length + 10 ≤ 100000000; omega)) (.nil _)
  have pvl := hpv.lp
  have pvc := hpv.cells
  have pvk := hpv.keep
  have pvn : ∀ j, j < hp.next → idOf pv ≠ some j := fun j hj e => by have := hpz j e; omega
  have hcB : CnO hpB (cM pw q out 65535 ways m .ns) := by show hget _ _ = _; rw [g1 0 (pvn 0 (by omega))]; exact hget_set _ _ _
  have hrB : RdO hpB 1 16384 [] bv 0 0 := by show hget _ _ = _; rw [g1 1 (pvn 1 (by omega)), hget_other (by decide)]; exact hr1
  have hmB : hget hpB m = some ⟨1, fr0, [[.it .i64 1]]⟩ := by rw [g1 m (pvn m hmn), hget_other (by omega)]; exact k1.get m _ hm2 hm
  have hbB : By hpB bv [] := hbA.mono1 z1.to1
  have hlimB : hpB.lim = 0 := by rw [z1.lim]; exact hlim1
  have hnB : hpB.next = hp1.next := z1.next
  have hNB : Nil hpB := z1.nil (kA.nil (k1.nil hS.nil))
  have hqB : Ow hpB q 1 (bs qs) := by
    refine (hS.q).get (by omega) (by rw [hlimB, hS.lim]) fun id e => ?_
    rcases hS.q with ⟨e2, _⟩ | ⟨id', e2, q1, q2, q3⟩
    · rw [e2] at e; cases e
    · rw [e2] at e; cases e
      have h2 := hS.q0 _ (by rw [e2]; rfl)
      rw [g1 _ (pvn _ q1), hget_other (by omega), k1.get _ _ h2 q3, q3]
  have prt : ∃ w hp', EvC F false 66 [.pt 0 0 0, .ag (partData body)] hpB (.ret w hp') ∧ (w = .tu [] ∧ ∃ q', PS hp' (cM pw q' out 65535 ways m .ns) (qs ++ wupd) ∧ idOf q' ≠ some m ∧ hget hp' m = some ⟨1, true, [[.it .i64 1]]⟩) := by
    refine part_data ?_
    obtain ⟨w, hp', h1, rfl, q', a1, a2, a3, a4, a5⟩ := data95 (body := body) hcB hqB hS.q0 hqm hm2 hmB hw hwl hlimB (by omega) hNB hl
    refine ⟨_, _, h1, rfl, q', ⟨a1, a2, fun id e => by have := a3 id e; omega, ⟨bv, ?_, ?_⟩, a4.nil hNB, by rw [a4.lim]; exact hlimB, by have := a4.next; omega⟩, fun e => by have := a3 m e; omega, a5⟩
    · exact a4.get 1 _ (by decide) (by omega) (fun e => by have := hS.q0 1 e; omega) hrB
    · rcases hbB with ⟨e1, _⟩ | e1 | ⟨id, i, fr, rows, e1, q1, q2, q3, q4, q5⟩
      · exact .inl ⟨e1, rfl⟩
      · exact .inr (.inl e1)
      · have hid := hbz id (by rw [e1]; rfl)
        refine .inr (.inr ⟨id, i, fr, rows, e1, Nat.lt_of_lt_of_le q1 a4.next, by rw [a4.lim]; exact q2, a4.get _ _ (by omega) (by omega) ?_ q3, q4, q5⟩)
        intro e
        rcases hS.q with ⟨e2, _⟩ | ⟨id', e2, q1, q2, q3⟩
        · rw [show (cM pw q out 65535 ways m V.ns).q = q from rfl] at e2; rw [e2] at e; cases e
        · rw [show (cM pw q out 65535 ways m V.ns).q = q from rfl] at e2; rw [e2] at e; cases e; omega
  have main : ∃ w hp2, EvC F false 43 [.pt 0 0 0, .ag [.it .i64 0, .it .i64 8, .it .i64 1, pv]] hp1 (.ret w hp2) ∧ (w = .tu [] ∧ ∃ q', PS hp2 (cM pw q' out 65535 ways m .ns) (qs ++ wupd) ∧ idOf q' ≠ some m ∧ hget hp2 m = some ⟨1, true, [[.it .i64 1]]⟩) := by
    refine EvC.ofQ d43 rfl rfl rfl ?_
    repeat (first | refine EvQ.run ?_ | refine EvQ.fin X.rs ?_ | refine EvQ.fin1 (fun _ => rfl) rfl ?_)
    refine EvQ.lift (fun _ zn => X.pcall shp hcl rfl X.al rfl zn) ?_
    repeat (first | refine EvQ.run ?_ | refine EvQ.fin X.rs ?_ | refine EvQ.fin1 (fun _ => rfl) rfl ?_)
    refine EvQ.call rfl X.al prt ?_
    rintro _ hp2 ⟨rfl, hP⟩
    repeat (first | refine EvQ.run ?_ | refine EvQ.fin X.rs ?_ | refine EvQ.fin1 (fun _ => rfl) rfl ?_)
    exact ⟨_, _, rfl, rfl, hP⟩
  obtain ⟨w, hp2, h1, rfl, q', h2, h3, h4⟩ := main
  exact ⟨_, _, h1, rfl, _, h2.cn, rfl, h2.lim, q', rfl, h2, h3, h4⟩
theorem feedA_data (p : List Int) (h : p.length = 16001) : feedA 16384 (h9 0 8 1 p.length ++ p) = ([(0, 8, 1, p)], [], false) := by
  have := feed_put 16384 0 8 1 p (by unfold rightB; rw [h]; rfl)
  rw [this, h]
  rfl
theorem feed_data {v : V} (hS : PS hp (cM pw q out 65535 ways m .ns) qs) (hqm : idOf q ≠ some m) (hm2 : 2 ≤ m) (hm : hget hp m = some ⟨1, fr0, [[.it .i64 1]]⟩) (hw : lenOf false ways = some 0) (hwl : isLp ways = false) (hl : qs.length ≤ 100)
    (xn : Nat) (zs : List Int) (hx : xn ≤ 255) (hz : zs.length = 16000) (hV : By hp v (h9 0 8 1 (Int.ofNat xn :: zs).length ++ (Int.ofNat xn :: zs))) (hby : Bytes (h9 0 8 1 (Int.ofNat xn :: zs).length ++ (Int.ofNat xn :: zs))) :
    ∃ w hp3, EvC F false 17 [.pt 0 0 0, v] hp (.ret w hp3) ∧ (w = .ns ∧ ∃ q', PS hp3 (cM pw q' out 65535 ways m .ns) (qs ++ wupd) ∧ idOf q' ≠ some m ∧ hget hp3 m = some ⟨1, true, [[.it .i64 1]]⟩) := by
  obtain ⟨w, hp3, h1, hp2, c2, h2, h3, h4, h5, h6, q', rfl, h7, h8, h9'⟩ := feed_frame hS.cn hS.rd hV hby (by simp [h9]; omega) hS.lim hS.next hS.nil (feedA_data _ (by rw [List.length_cons, hz])) (frame_data hS hqm hm2 hm hw hwl hl xn zs hx hz)
  refine ⟨w, hp3, h1, h2, q', ?_, h8, ?_⟩
  · subst h4
    have hcR : hget hp2 0 = some ⟨26, false, [rowC (cM pw q' out 65535 ways m .ns)]⟩ := h3
    have hQs : ∀ b, hget hp2 0 = some b → b.sz ≠ 1 := fun b hb => by rw [hcR] at hb; cases hb; exact (by decide : (26 : Nat) ≠ 1)
    obtain ⟨bv, r1, r2⟩ := h7.rd
    refine ⟨hget_set _ _ _, ow_set h7.q fun id e => by have := h7.q0 id e; omega, h7.q0, ⟨bv, ?_, r2.mono (Ex.set _ _ 0) hQs⟩, h7.nil.set (by have := h7.next; omega) _, by rw [hset_lim]; exact h7.lim, by rw [hset_next]; exact h7.next⟩
    show hget _ _ = _
    rw [hget_other (by decide)]; exact r1
  · subst h4
    rw [hget_other (by omega)]; exact h9'
end
end Go.Proofs.YtpncefcicfhibaaGreatDoor.back
