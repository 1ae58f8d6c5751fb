import Derived.Test.YtpncefcicfhibaaGreatDoorEvE
import Derived.Test.YtpncefcicfhibaaGreatDoorCw2
set_option linter.unusedVariables false
set_option linter.unusedSimpArgs false
set_option linter.unusedSectionVars false
-- WINDOW_UPDATE on a stream (EvHp EvOwn)
namespace Go.Proofs.YtpncefcicfhibaaGreatDoor.win
open Go hiding Fn
open Ev tab back
attribute [local irreducible] EvP EvD EvL EvC evGds evLs C.run sK bK gK pK fK lpB stepD numE bareE
/-- the connection, what waits, its one stream with its window -/
structure WS (hp : Hp) (pw out : Int) (q : V) (qs : List Int) (n : Int) : Prop where
  ps : PS hp (cW pw out q) qs
  qn : idOf q ≠ some 31
  ways : hget hp 31 = some ⟨1, false, [[.pt 29 0 0]]⟩
  way : hget hp 29 = some ⟨6, false, [rowW n]⟩
section
variable {hp : Hp} {pw out n : Int} {q : V} {qs : List Int}
theorem WS.q29 (h : WS hp pw out q qs n) : idOf q ≠ some 29 := by
  intro e
  rcases h.ps.q with ⟨e2, _⟩ | ⟨id, e2, q1, q2, q3⟩
  · rw [show (cW pw out q).q = q from rfl] at e2; rw [e2] at e; cases e
  · rw [show (cW pw out q).q = q from rfl] at e2; rw [e2] at e; cases e
    rw [h.way] at q3; cases q3
theorem WS.lt (h : WS hp pw out q qs n) : 31 < hp.next := Nat.lt_of_not_le fun hle => by have := h.ps.nil 31 hle; rw [h.ways] at this; cases this
/-- the stream's window is set -/
theorem WS.set (h : WS hp pw out q qs n) (m : Int) : WS (hset hp 29 (some ⟨6, false, [rowW m]⟩)) pw out q qs m := by
  have hlt := h.lt
  have hQs : ∀ b, hget hp 29 = some b → b.sz ≠ 1 := fun b hb => by rw [h.way] at hb; cases hb; exact (by decide : (6 : Nat) ≠ 1)
  obtain ⟨bv, r1, r2⟩ := h.ps.rd
  refine ⟨⟨?_, ow_set h.ps.q fun id e e2 => h.q29 (by rw [e, e2]), h.ps.q0, ⟨bv, ?_, r2.mono (Ex.set _ _ 29) hQs⟩, h.ps.nil.set (by omega) _, h.ps.lim, h.ps.next⟩, h.qn, ?_, hget_set _ _ _⟩
  · show hget _ _ = _
    rw [hget_other (by decide)]; exact h.ps.cn
  · show hget _ _ = _
    rw [hget_other (by decide)]; exact r1
  · rw [hget_other (by decide)]; exact h.ways
set_option maxHeartbeats 8000000 in
theorem idle_ok (h : CnO hp (cW pw out q)) : ∃ w hp', EvC F false 92 [.pt 0 0 0, .it .i64 1] hp (.ret w hp') ∧ (w = .bo false ∧ hp' = hp) := by
  have hcR : hget hp 0 = some ⟨26, false, [rowC (cW pw out q)]⟩ := h
  refine EvC.ofQ d92 rfl rfl rfl ?_
  repeat (first | refine EvQ.run ?_ | refine EvQ.fin X.rs ?_ | refine EvQ.fin1 (fun _ => rfl) rfl ?_)
  exact ⟨_, _, rfl, rfl, rfl⟩
set_option maxHeartbeats 8000000 in
theorem find_ok (h : CnO hp (cW pw out q)) (hy : hget hp 31 = some ⟨1, false, [[.pt 29 0 0]]⟩) (hw : hget hp 29 = some ⟨6, false, [rowW n]⟩) : ∃ w hp', EvC F false 45 [.pt 0 0 0, .it .i64 1] hp (.ret w hp') ∧ (w = .pt 29 0 0 ∧ hp' = hp) := by
  have hcR : hget hp 0 = some ⟨26, false, [rowC (cW pw out q)]⟩ := h
  refine EvC.ofQ d45 rfl rfl rfl ?_
  repeat (first | refine EvQ.run ?_ | refine EvQ.fin X.rs ?_ | refine EvQ.fin1 (fun _ => rfl) rfl ?_)
  refine EvQ.loop (QL := RtQ [(4, .pt 29 0 0)] (fun _ hp' => hp' = hp)) ?_ ?_
  · refine EvL.invQ (S := Unit) (fun _ => [(1, .it .i64 1), (10, .hs 31 0 1), (11, .it .i64 (Int.ofNat 1)), (12, .it .i64 (Int.ofNat 0))]) (fun _ _ hp' => hp' = hp) (fun _ => 0) _ ?_ () _ _ _ rfl X.kv
    rintro _ lo hp' rfl
    repeat (first | refine EvQ.run ?_ | refine EvQ.fin X.rs ?_ | refine EvQ.fin1 (fun _ => rfl) rfl ?_)
    exact EvQ.rt (.mk' X.kv rfl)
  · rintro _ ⟨tm, lo, hp', rfl, rfl⟩
    repeat (first | refine EvQ.run ?_ | refine EvQ.fin X.rs ?_ | refine EvQ.fin1 (fun _ => rfl) rfl ?_)
    exact ⟨_, _, rfl, rfl, rfl⟩
set_option maxHeartbeats 8000000 in
theorem giving_ok (hw : hget hp 29 = some ⟨6, false, [rowW n]⟩) : ∃ w hp', EvC F false 46 [.pt 29 0 0] hp (.ret w hp') ∧ (w = .bo true ∧ hp' = hp) := by
  refine EvC.ofQ d46 rfl rfl rfl ?_
  repeat (first | refine EvQ.run ?_ | refine EvQ.fin X.rs ?_ | refine EvQ.fin1 (fun _ => rfl) rfl ?_)
  exact ⟨_, _, rfl, rfl, rfl⟩
set_option maxHeartbeats 16000000 in
theorem credited_ok (h : WS hp pw out q qs n) (k : Nat) (hk : k ≤ 5000) (h0' : 0 ≤ n) (h1 : n ≤ 60000) : ∃ w hp', EvC F false 99 [.pt 0 0 0, .ag (part8 (Int.ofNat k))] hp (.ret w hp') ∧ (w = .tu [] ∧ hp' = hset hp 29 (some ⟨6, false, [rowW (n + Int.ofNat k)]⟩)) := by
  have hcR : hget hp 0 = some ⟨26, false, [rowC (cW pw out q)]⟩ := h.ps.cn
  have hw := h.way
  have hlim := h.ps.lim
  have id1 := idle_ok h.ps.cn
  have fn := find_ok h.ps.cn h.ways h.way
  have cr := credit_ok n (Int.ofNat k) (by simp only [Int.ofNat_eq_natCast]; omega) (by simp only [Int.ofNat_eq_natCast]; omega) h0' (by omega)
  have ccl : CloL [.one] [V.it .i64 n] := .cons (clo_it _ _) .nil
  refine EvC.ofQ d99 rfl rfl rfl ?_
  repeat (first | refine EvQ.run ?_ | refine EvQ.fin X.rs ?_ | refine EvQ.fin1 (fun _ => rfl) rfl ?_)
  refine EvQ.call rfl X.al id1 ?_
  rintro _ hp1 ⟨rfl, rfl⟩
  repeat (first | refine EvQ.run ?_ | refine EvQ.fin X.rs ?_ | refine EvQ.fin1 (fun _ => rfl) rfl ?_)
  refine EvQ.call rfl X.al fn ?_
  rintro _ hp1 ⟨rfl, rfl⟩
  repeat (first | refine EvQ.run ?_ | refine EvQ.lift (fun _ zn => X.pcall (cr) X.cq rfl X.al rfl zn) ?_ | refine EvQ.lift (fun _ zn => X.pcallG (cr) rfl X.cq rfl X.al rfl zn) ?_ | refine EvQ.lift (fun _ zn => X.pcallC (cr) rfl X.cq rfl X.al rfl zn) ?_ | refine EvQ.lift (fun _ zn => X.pcallT (cr) (by decide) X.cq rfl X.al rfl zn) ?_ | refine EvQ.lift (fun _ zn => X.call rfl X.al (cr) zn) ?_ | refine EvQ.fin X.rs ?_ | refine EvQ.fin1 (fun _ => rfl) rfl ?_)
  exact ⟨_, _, rfl, rfl, rfl⟩
set_option maxHeartbeats 16000000 in
theorem part_win {P : Hp → Prop} {k : Int} (h : ∃ w hp', EvC F false 99 [.pt 0 0 0, .ag (part8 k)] hp (.ret w hp') ∧ (w = .tu [] ∧ P hp')) : ∃ w hp', EvC F false 66 [.pt 0 0 0, .ag (part8 k)] hp (.ret w hp') ∧ (w = .tu [] ∧ P hp') := by
  refine EvC.ofQ d66 rfl rfl rfl ?_
  repeat (first | refine EvQ.run ?_ | refine EvQ.fin X.rs ?_ | refine EvQ.fin1 (fun _ => rfl) rfl ?_)
  refine EvQ.call rfl X.al h ?_
  rintro _ hp' ⟨rfl, hP⟩
  repeat (first | refine EvQ.run ?_ | refine EvQ.fin X.rs ?_ | refine EvQ.fin1 (fun _ => rfl) rfl ?_)
  exact ⟨_, _, rfl, rfl, hP⟩
set_option maxHeartbeats 32000000 in
theorem frame_win (hS : WS hp pw out q qs n) (a b c d : Int) (k : Nat) (hb : bareE a b c d = Int.ofNat k) (hk0 : 0 < k) (hk : k ≤ 5000) (h0' : 0 ≤ n) (h1 : n ≤ 60000) :
    FrQ hp (cW pw out q) 8 0 1 [a, b, c, d] (fun hp2 c2 => c2 = cW pw out q ∧ WS hp2 pw out q qs (n + Int.ofNat k)) := by
  intro hp1 pv bv hc1 hr1 hb1 hbz hpv hpz k1
  have hcR : hget hp1 0 = some ⟨26, false, [rowC (cW pw out q)]⟩ := hc1
  have hQs : ∀ b, hget hp1 0 = some b → b.sz ≠ 1 := fun b hb => by rw [hcR] at hb; cases hb; exact (by decide : (26 : Nat) ≠ 1)
  have hlim1 : hp1.lim = 0 := by rw [k1.lim]; exact hS.ps.lim
  have hn1 := k1.next
  have hnx := hS.ps.next
  have h30 := hS.lt
  have kA : Kp hp1 (hset hp1 0 (some ⟨26, false, [rowC (cW pw out q)]⟩)) := Kp.set (by decide) (by omega) _
  have hpA : By (hset hp1 0 (some ⟨26, false, [rowC (cW pw out q)]⟩)) pv [a, b, c, d] := hpv.mono (Ex.set _ _ 0) hQs
  have hbA : By (hset hp1 0 (some ⟨26, false, [rowC (cW pw out q)]⟩)) bv [] := hb1.mono (Ex.set _ _ 0) hQs
  obtain ⟨hpB, z1, g1, e1⟩ := close_by2 hpA
  have shp := shape_win a b c d k hb hk0
  have hpl : [a, b, c, d].length = 4 := rfl
  generalize [a, b, c, d] = p at *
  have hcl : ClP c64.ps [.ag [.it .i64 8, .it .i64 0, .it .i64 1, pv]] (hset hp1 0 (some ⟨26, false, [rowC (cW pw out q)]⟩)) [.ag (fr 8 0 1 p)] hpB := .g (close_fr e1 _ (by show p.length + 10 ≤ 100000000; omega)) (.nil _)
  have pvl := hpv.lp
  have pvc := hpv.cells
  have pvk := hpv.keep
  have pvn : ∀ j, j < hp.next → idOf pv ≠ some j := fun j hj e => by have := hpz j e; omega
  have hcB : CnO hpB (cW pw out q) := by show hget _ _ = _; rw [g1 0 (pvn 0 (by omega))]; exact hget_set _ _ _
  have hrB : RdO hpB 1 16384 [] bv 0 0 := by show hget _ _ = _; rw [g1 1 (pvn 1 (by omega)), hget_other (by decide)]; exact hr1
  have hyB : hget hpB 31 = some ⟨1, false, [[.pt 29 0 0]]⟩ := by rw [g1 31 (pvn 31 h30), hget_other (by omega)]; exact k1.get 31 _ (by omega) hS.ways
  have hwB : hget hpB 29 = some ⟨6, false, [rowW n]⟩ := by rw [g1 29 (pvn 29 (by omega)), hget_other (by omega)]; exact k1.get 29 _ (by omega) hS.way
  have hbB : By hpB bv [] := hbA.mono1 z1.to1
  have hlimB : hpB.lim = 0 := by rw [z1.lim]; exact hlim1
  have hnB : hpB.next = hp1.next := z1.next
  have hNB : Nil hpB := z1.nil (kA.nil (k1.nil hS.ps.nil))
  have hqB : Ow hpB q 1 (bs qs) := by
    refine (hS.ps.q).get (by omega) (by rw [hlimB, hS.ps.lim]) fun id e => ?_
    rcases hS.ps.q with ⟨e2, _⟩ | ⟨id', e2, q1, q2, q3⟩
    · rw [e2] at e; cases e
    · rw [e2] at e; cases e
      have h2 := hS.ps.q0 _ (by rw [e2]; rfl)
      rw [g1 _ (pvn _ q1), hget_other (by omega), k1.get _ _ h2 q3, q3]
  have hSB : WS hpB pw out q qs n := ⟨⟨hcB, hqB, hS.ps.q0, ⟨bv, hrB, hbB⟩, hNB, hlimB, by omega⟩, hS.qn, hyB, hwB⟩
  have prt := part_win (credited_ok hSB k hk h0' h1)
  have main : ∃ w hp2, EvC F false 43 [.pt 0 0 0, .ag [.it .i64 8, .it .i64 0, .it .i64 1, pv]] hp1 (.ret w hp2) ∧ (w = .tu [] ∧ hp2 = hset hpB 29 (some ⟨6, false, [rowW (n + Int.ofNat k)]⟩)) := by
    refine EvC.ofQ d43 rfl rfl rfl ?_
    repeat (first | refine EvQ.run ?_ | refine EvQ.fin X.rs ?_ | refine EvQ.fin1 (fun _ => rfl) rfl ?_)
    refine EvQ.lift (fun _ zn => X.pcall shp hcl rfl X.al rfl zn) ?_
    repeat (first | refine EvQ.run ?_ | refine EvQ.fin X.rs ?_ | refine EvQ.fin1 (fun _ => rfl) rfl ?_)
    refine EvQ.call rfl X.al prt ?_
    rintro _ hp2 ⟨rfl, rfl⟩
    repeat (first | refine EvQ.run ?_ | refine EvQ.fin X.rs ?_ | refine EvQ.fin1 (fun _ => rfl) rfl ?_)
    exact ⟨_, _, rfl, rfl, rfl⟩
  obtain ⟨w, hp2, m1, rfl, rfl⟩ := main
  have hS2 := hSB.set (n + Int.ofNat k)
  exact ⟨_, _, m1, rfl, _, hS2.ps.cn, rfl, hS2.ps.lim, rfl, hS2⟩
theorem feedA_win (p : List Int) (h : p.length = 4) : feedA 16384 (h9 8 0 1 p.length ++ p) = ([(8, 0, 1, p)], [], false) := by
  have := feed_put 16384 8 0 1 p (by unfold rightB; rw [h]; rfl)
  rw [this, h]
  rfl
theorem WS.calm {c2 : CnV} (h : WS hp pw out q qs n) (e : c2 = cW pw out q) : WS (hset hp 0 (some ⟨26, false, [rowC c2.calm]⟩)) pw out q qs n := by
  subst e
  have hcR : hget hp 0 = some ⟨26, false, [rowC (cW pw out q)]⟩ := h.ps.cn
  have hQs : ∀ b, hget hp 0 = some b → b.sz ≠ 1 := fun b hb => by rw [hcR] at hb; cases hb; exact (by decide : (26 : Nat) ≠ 1)
  obtain ⟨bv, r1, r2⟩ := h.ps.rd
  have hnx := h.ps.next
  refine ⟨⟨hget_set _ _ _, ow_set h.ps.q fun id e => by have := h.ps.q0 id e; omega, h.ps.q0, ⟨bv, ?_, r2.mono (Ex.set _ _ 0) hQs⟩, h.ps.nil.set (by omega) _, h.ps.lim, h.ps.next⟩, h.qn, ?_, ?_⟩
  · show hget _ _ = _
    rw [hget_other (by decide)]; exact r1
  · rw [hget_other (by decide)]; exact h.ways
  · rw [hget_other (by decide)]; exact h.way
/-- a WINDOW_UPDATE, fed -/
theorem feed_win {v : V} (hS : WS hp pw out q qs n) (a b c d : Int) (k : Nat) (hb : bareE a b c d = Int.ofNat k) (hk0 : 0 < k) (hk : k ≤ 5000) (h0' : 0 ≤ n) (h1 : n ≤ 60000)
    (hV : By hp v (h9 8 0 1 [a, b, c, d].length ++ [a, b, c, d])) (hby : Bytes (h9 8 0 1 [a, b, c, d].length ++ [a, b, c, d])) :
    ∃ w hp3, EvC F false 17 [.pt 0 0 0, v] hp (.ret w hp3) ∧ (w = .ns ∧ WS hp3 pw out q qs (n + Int.ofNat k)) := by
  obtain ⟨w, hp3, h1, hp2, c2, h2, h3, h4, h5, h6, rfl, h7⟩ := feed_frame hS.ps.cn hS.ps.rd hV hby (by simp [h9]) hS.ps.lim hS.ps.next hS.ps.nil (feedA_win _ rfl) (frame_win hS a b c d k hb hk0 hk h0' h1)
  subst h4
  exact ⟨w, _, h1, h2, h7.calm rfl⟩
end
end Go.Proofs.YtpncefcicfhibaaGreatDoor.win
