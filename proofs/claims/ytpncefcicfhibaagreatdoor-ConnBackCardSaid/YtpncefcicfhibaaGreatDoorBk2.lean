import Derived.Test.YtpncefcicfhibaaGreatDoorEvE
import Derived.Test.YtpncefcicfhibaaGreatDoorBk1
set_option linter.unusedVariables false
set_option linter.unusedSimpArgs false
-- DATA on a stream that was reset (EvHp EvOwn)
namespace Go.Proofs.YtpncefcicfhibaaGreatDoor.back
open Go hiding Fn
open Ev tab
attribute [local irreducible] EvP EvD EvL EvC evGds evLs C.run sK bK gK pK fK lpB stepD
abbrev cM (pw : Int) (q : V) (out inn : Int) (ways : V) (m : Nat) (ev : V) : CnV := ⟨pw, q, out, inn, ways, 1, .hs m 0 1, ev⟩
section
variable {hp : Hp} {pw out inn : Int} {q ways ev : V} {m : Nat}
set_option maxHeartbeats 8000000 in
theorem idle_ok (h : CnO hp (cM pw q out inn ways m ev)) : ∃ w hp', EvC F false 92 [.pt 0 0 0, .it .i64 1] hp (.ret w hp') ∧ (w = .bo false ∧ hp' = hp) := by
  have hcR : hget hp 0 = some ⟨26, false, [rowC (cM pw q out inn ways m ev)]⟩ := h
  refine EvC.ofQ d92 rfl rfl rfl ?_
  repeat (first | refine EvQ.run ?_ | refine EvQ.fin X.rs ?_ | refine EvQ.fin1 (fun _ => rfl) rfl ?_)
  exact ⟨_, _, rfl, rfl, rfl⟩
set_option maxHeartbeats 8000000 in
theorem muted_ok {fr : Bool} (h : CnO hp (cM pw q out inn ways m ev)) (hm : hget hp m = some ⟨1, fr, [[.it .i64 1]]⟩) (hlim : hp.lim = 0) : ∃ w hp', EvC F false 93 [.pt 0 0 0, .it .i64 1] hp (.ret w hp') ∧ (w = .bo true ∧ hp' = hset hp m (some ⟨1, true, [[.it .i64 1]]⟩)) := by
  have hcR : hget hp 0 = some ⟨26, false, [rowC (cM pw q out inn ways m ev)]⟩ := h
  have c1 : closeC depth (.sl [.one]) (.hs m 0 1) hp = some (.vs 1 [[.it .i64 1]], hset hp m (some ⟨1, true, [[.it .i64 1]]⟩)) :=
    closeC_hs (ts := [.one]) (i := 0) (len := 1) hm (by omega) rfl (by decide) (fun e he => by
      simp only [List.drop_zero, List.mem_cons, List.take_succ_cons, List.take_zero, List.not_mem_nil, or_false] at he
      subst he
      exact .cons (clo_it _ _) .nil) (n := depth) (by decide)
  have hcl : ClP c116.ps [.hs m 0 1, .it .i64 1] hp [.vs 1 [[.it .i64 1]], .it .i64 1] (hset hp m (some ⟨1, true, [[.it .i64 1]]⟩)) := .c c1 (.s (clo_it _ _) (.nil _))
  refine EvC.ofQ d93 rfl rfl rfl ?_
  repeat (first | refine EvQ.run ?_ | refine EvQ.fin X.rs ?_ | refine EvQ.fin1 (fun _ => rfl) rfl ?_)
  refine EvQ.lift (fun _ zn => X.pcall contains_ok hcl rfl X.al rfl zn) ?_
  repeat (first | refine EvQ.run ?_ | refine EvQ.fin X.rs ?_ | refine EvQ.fin1 (fun _ => rfl) rfl ?_)
  exact ⟨_, _, rfl, rfl, rfl⟩
set_option maxHeartbeats 8000000 in
theorem find_none {id : Int} (h : CnO hp (cM pw q out inn ways m ev)) (hw : lenOf false ways = some 0) (hl : isLp ways = false) : ∃ w hp', EvC F false 45 [.pt 0 0 0, .it .i64 id] hp (.ret w hp') ∧ (w = .np ∧ hp' = hp) := by
  have hcR : hget hp 0 = some ⟨26, false, [rowC (cM pw q out inn ways m ev)]⟩ := h
  refine EvC.ofQ d45 rfl rfl rfl ?_
  repeat (first | refine EvQ.run ?_ | refine EvQ.fin X.rs ?_ | refine EvQ.fin1 (fun _ => rfl) rfl ?_)
  refine EvQ.loop (QL := XtQ 0 [] (fun _ hp' => hp' = hp)) ?_ ?_
  · refine EvL.invQ (S := Unit) (fun _ => [(1, .it .i64 id), (10, ways), (11, .it .i64 (Int.ofNat 0)), (12, .it .i64 (Int.ofNat 0))]) (fun _ _ hp' => hp' = hp) (fun _ => 0) _ ?_ () _ _ _ rfl X.kv
    rintro _ lo hp' rfl
    repeat (first | refine EvQ.run ?_ | refine EvQ.fin X.rs ?_ | refine EvQ.fin1 (fun _ => rfl) rfl ?_)
    exact EvQ.xt (.mk' X.kv rfl)
  · rintro _ ⟨tm, lo, hp', rfl, rfl⟩
    repeat (first | refine EvQ.run ?_ | refine EvQ.fin X.rs ?_ | refine EvQ.fin1 (fun _ => rfl) rfl ?_)
    exact ⟨_, _, rfl, rfl, rfl⟩
set_option maxHeartbeats 16000000 in
theorem back_ok {qs : List Int} (h : CnO hp (cM pw q out inn ways m ev)) (hq : Ow hp q 1 (bs qs)) (hq0 : ∀ id, idOf q = some id → 2 ≤ id) (hw : lenOf false ways = some 0) (hwl : isLp ways = false) (hlim : hp.lim = 0) (h2 : 2 ≤ hp.next) (hN : Nil hp) (hl : qs.length ≤ 100) (hi : 0 ≤ inn ∧ inn ≤ 65535) :
    ∃ w hp', EvC F false 55 [.pt 0 0 0, .it .i64 1, .it .i64 16001] hp (.ret w hp') ∧ (w = .bo true ∧ ∃ q', CnO hp' (cM pw q' out (inn + 16001) ways m ev) ∧ Ow hp' q' 1 (bs (qs ++ (h9 8 0 0 4 ++ [0, 0, 62, 129]))) ∧ (∀ id, idOf q' = some id → hp.next ≤ id) ∧ Kq q hp hp') := by
  have fn := find_none (id := 1) h hw hwl
  obtain ⟨w, hp1, an, rfl, q', a1, a2, a3, a4⟩ := answer_ok (ty := 8) (fl := 0) (s := 0) (p := [0, 0, 62, 129]) h hq hq0 hlim h2 hN (by simp; omega) rfl
  have a1R : hget hp1 0 = some ⟨26, false, [rowC (cM pw q' out inn ways m ev)]⟩ := a1
  have an : EvC F false 71 [.pt 0 0 0, .ag [.it .i64 8, .it .i64 0, .it .i64 0, .vs 1 (bs [0, 0, 62, 129])]] hp (.ret (.bo true) hp1) := an
  have cr := credit_ok inn 16001 (by omega) (by omega) hi.1 hi.2
  have fo := four_ok hp
  have l1 : hp1.lim = 0 := by rw [a4.lim]; exact hlim
  have ccl : CloL [.one] [V.it .i64 inn] := .cons (clo_it _ _) .nil
  have main : ∃ w hp', EvC F false 55 [.pt 0 0 0, .it .i64 1, .it .i64 16001] hp (.ret w hp') ∧ (w = .bo true ∧ hp' = hset hp1 0 (some ⟨26, false, [rowC (cM pw q' out (inn + 16001) ways m ev)]⟩)) := by
    refine EvC.ofQ d55 rfl rfl rfl ?_
    repeat (first | refine EvQ.run ?_ | refine EvQ.fin X.rs ?_ | refine EvQ.fin1 (fun _ => rfl) rfl ?_)
    refine EvQ.call rfl X.al fn ?_
    rintro _ hp2 ⟨rfl, rfl⟩
    repeat (first | refine EvQ.run ?_ | refine EvQ.lift (fun _ zn => X.pcall (fo) X.cq rfl X.al rfl zn) ?_ | refine EvQ.lift (fun _ zn => X.pcallG (fo) rfl X.cq rfl X.al rfl zn) ?_ | refine EvQ.lift (fun _ zn => X.pcallC (fo) rfl X.cq rfl X.al rfl zn) ?_ | refine EvQ.lift (fun _ zn => X.pcallT (fo) (by decide) X.cq rfl X.al rfl zn) ?_ | refine EvQ.lift (fun _ zn => X.call rfl X.al (fo) zn) ?_ | refine EvQ.lift (fun _ zn => X.pcall (an) X.cq rfl X.al rfl zn) ?_ | refine EvQ.lift (fun _ zn => X.pcallG (an) rfl X.cq rfl X.al rfl zn) ?_ | refine EvQ.lift (fun _ zn => X.pcallC (an) rfl X.cq rfl X.al rfl zn) ?_ | refine EvQ.lift (fun _ zn => X.pcallT (an) (by decide) X.cq rfl X.al rfl zn) ?_ | refine EvQ.lift (fun _ zn => X.call rfl X.al (an) zn) ?_ | refine EvQ.lift (fun _ zn => X.pcall (cr) X.cq rfl X.al rfl zn) ?_ | refine EvQ.lift (fun _ zn => X.pcallG (cr) rfl X.cq rfl X.al rfl zn) ?_ | refine EvQ.lift (fun _ zn => X.pcallC (cr) rfl X.cq rfl X.al rfl zn) ?_ | refine EvQ.lift (fun _ zn => X.pcallT (cr) (by decide) X.cq rfl X.al rfl zn) ?_ | refine EvQ.lift (fun _ zn => X.call rfl X.al (cr) zn) ?_ | refine EvQ.fin X.rs ?_ | refine EvQ.fin1 (fun _ => rfl) rfl ?_)
    exact ⟨_, _, rfl, rfl, rfl⟩
  obtain ⟨w, hp', h1, rfl, rfl⟩ := main
  have hn1 := a4.next
  refine ⟨_, _, h1, rfl, q', hget_set _ _ _, ow_set a2 fun id e => by have := a3 id e; omega, a3, ⟨by rw [hset_next]; exact hn1, by rw [hset_lim]; exact a4.lim, fun n => (a4.nil n).set (by omega) _, fun j x hj hjq hx => by rw [hget_other (by omega)]; exact a4.get j x hj hjq hx⟩⟩
end
end Go.Proofs.YtpncefcicfhibaaGreatDoor.back
