import Derived.Test.YtndodhmfdjcjgaaGreatDoorEvE
import Derived.Test.YtndodhmfdjcjgaaGreatDoorPf
set_option linter.unusedSectionVars false
set_option linter.unusedVariables false
set_option linter.unusedSimpArgs false
-- DATA is said (EvHp EvOwn)
namespace Go.Proofs.YtndodhmfdjcjgaaGreatDoor
open Go hiding Fn
open Ev tab
attribute [local irreducible] EvP EvD EvL EvC EvO evGds evLs C.run sK bK gK pK fK lpB stepD ackE numE setB
abbrev ptD (p : List Int) : List V := [.it .i64 0, .it .i64 1, .bo false, .bo false, .bo false, .vs 1 (bs p), .it .i64 0, .it .i64 0, .it .i64 0, .it .i64 (Int.ofNat 16384), .vs 2 []]
theorem padded_plain (p : List Int) : EvP F 56 c56 [.ag (fr 0 0 1 p)] [.it .i64 (Int.ofNat 0), .vs 1 (bs p), .bo true] := by
 refine EvP.ofQ d56 rfl rfl rfl ?_
 unfold fr
 repeat (first | refine EvQ.run ?_ | refine EvQ.fin X.rs ?_ | refine EvQ.fin1 (fun _ => rfl) rfl ?_)
 exact PQ.of (.s (clo_it _ _) (.s (clo_vs [.one] _) (.s (clo_bo _) (.nil _))))
theorem misplaced_plain (p : List Int) : EvP F 41 c41 [.ag (fr 0 0 1 p)] [.bo false] := by
 refine EvP.ofQ d41 rfl rfl rfl ?_
 unfold fr
 repeat (first | refine EvQ.run ?_ | refine EvQ.fin X.rs ?_ | refine EvQ.fin1 (fun _ => rfl) rfl ?_)
 exact PQ.bo rfl
set_option maxHeartbeats 8000000 in
theorem data_plain (p : List Int) (hl : p.length = 16384) : EvP F 43 c43 [.ag (fr 0 0 1 p), .ag (ptV 0 1)] [.ag (ptD p), zer] := by
 have pd := padded_plain p
 have cp := copied_any p (by omega)
 have clo := fr_clo 0 0 1 p
 have hb : (bs p).length = 16384 := by rw [bs_length]; exact hl
 have e37 : List.take ((Int.ofNat ((bs p).length - 0)).toNat - 0) (List.drop 0 (bs p)) = bs p := by show List.take (bs p).length (bs p) = _; exact List.take_length
 refine EvP.ofQ d43 rfl rfl rfl ?_
 unfold fr at *
 repeat (first | refine EvQ.run ?_ | refine EvQ.lift (fun _ zn => X.pcall (pd) X.cq rfl X.al rfl zn) ?_ | refine EvQ.lift (fun _ zn => X.pcallG (pd) rfl X.cq rfl X.al rfl zn) ?_ | refine EvQ.lift (fun _ zn => X.pcallC (pd) rfl X.cq rfl X.al rfl zn) ?_ | refine EvQ.lift (fun _ zn => X.pcallT (pd) (by decide) X.cq rfl X.al rfl zn) ?_ | refine EvQ.lift (fun _ zn => X.call rfl X.al (pd) zn) ?_ | refine EvQ.fin X.rs ?_ | refine EvQ.fin1 (fun _ => rfl) rfl ?_)
 refine EvQ.lift (fun _ zn => X.pcall cp (.s (clo_vs [.one] _) (.nil _)) (congrArg (fun z => [V.vs 1 z]) e37) X.al rfl zn) ?_
 rw [hb]
 repeat (first | refine EvQ.run ?_ | refine EvQ.fin X.rs ?_ | refine EvQ.fin1 (fun _ => rfl) rfl ?_)
 refine fin2 (fun _ => rfl) rfl rfl ?_
 exact PQ.of (.gs pt_clo (.gs bd_clo (.nil _)))
set_option maxHeartbeats 8000000 in
theorem of_data (p : List Int) (hl : p.length = 16384) : EvP F 26 c26 [.ag (fr 0 0 1 p)] [.ag (ptD p), zer] := by
 have rt := right_ok 0 0 1 p
 rw [show rightB 0 0 1 p.length = true by rw [hl]; rfl] at rt
 have ms := misplaced_plain p
 have dt := data_plain p hl
 have clo := fr_clo 0 0 1 p
 have hb := bs_length p
 refine EvP.ofQ d26 rfl rfl rfl ?_
 unfold fr at *
 repeat (first | refine EvQ.run ?_ | refine EvQ.lift (fun _ zn => X.pcall (rt) X.cq rfl X.al rfl zn) ?_ | refine EvQ.lift (fun _ zn => X.pcallG (rt) rfl X.cq rfl X.al rfl zn) ?_ | refine EvQ.lift (fun _ zn => X.pcallC (rt) rfl X.cq rfl X.al rfl zn) ?_ | refine EvQ.lift (fun _ zn => X.pcallT (rt) (by decide) X.cq rfl X.al rfl zn) ?_ | refine EvQ.lift (fun _ zn => X.call rfl X.al (rt) zn) ?_ | refine EvQ.lift (fun _ zn => X.pcall (ms) X.cq rfl X.al rfl zn) ?_ | refine EvQ.lift (fun _ zn => X.pcallG (ms) rfl X.cq rfl X.al rfl zn) ?_ | refine EvQ.lift (fun _ zn => X.pcallC (ms) rfl X.cq rfl X.al rfl zn) ?_ | refine EvQ.lift (fun _ zn => X.pcallT (ms) (by decide) X.cq rfl X.al rfl zn) ?_ | refine EvQ.lift (fun _ zn => X.call rfl X.al (ms) zn) ?_ | refine EvQ.fin X.rs ?_ | refine EvQ.fin1 (fun _ => rfl) rfl ?_)
 refine EvQ.lift (fun _ zn => X.pcall dt (.gs clo (.g (closeCs_clo2 pt_clo0 _ _ (by decide)) (.nil _))) rfl X.al rfl zn) ?_
 repeat (first | refine EvQ.run ?_ | refine EvQ.fin X.rs ?_ | refine EvQ.fin1 (fun _ => rfl) rfl ?_)
 refine fin2 (fun _ => rfl) rfl rfl ?_
 exact PQ.of (.gs pt_clo (.gs bd_clo (.nil _)))
theorem half_d : EvP F 59 c59 [.bo true] [.it .i64 2] := by
 refine EvP.ofQ d59 rfl rfl rfl ?_
 repeat (first | refine EvQ.run ?_ | refine EvQ.fin X.rs ?_ | refine EvQ.fin1 (fun _ => rfl) rfl ?_)
 exact PQ.it rfl
theorem ends_d : EvP F 60 c60 [.it .i64 4] [.bo false] := by
 refine EvP.ofQ d60 rfl rfl rfl ?_
 repeat (first | refine EvQ.run ?_ | refine EvQ.fin X.rs ?_ | refine EvQ.fin1 (fun _ => rfl) rfl ?_)
 exact PQ.bo rfl
theorem event_d : EvP F 30 c30 [.it .i64 3, .it .i64 4, .bo false] [.it .i64 4] := by
 refine EvP.ofQ d30 rfl rfl rfl ?_
 repeat (first | refine EvQ.run ?_ | refine EvQ.fin X.rs ?_ | refine EvQ.fin1 (fun _ => rfl) rfl ?_)
 exact PQ.it rfl
set_option maxHeartbeats 8000000 in
theorem next_d : EvP F 51 c51 [.it .i64 3, .it .i64 14] [.it .i64 3, .bo true] := by
 have a := half_d
 have b := ends_d
 refine EvP.ofQ d51 rfl rfl rfl ?_
 repeat (first | refine EvQ.run ?_ | refine EvQ.lift (fun _ zn => X.pcall (a) X.cq rfl X.al rfl zn) ?_ | refine EvQ.lift (fun _ zn => X.pcallG (a) rfl X.cq rfl X.al rfl zn) ?_ | refine EvQ.lift (fun _ zn => X.pcallC (a) rfl X.cq rfl X.al rfl zn) ?_ | refine EvQ.lift (fun _ zn => X.pcallT (a) (by decide) X.cq rfl X.al rfl zn) ?_ | refine EvQ.lift (fun _ zn => X.call rfl X.al (a) zn) ?_ | refine EvQ.lift (fun _ zn => X.pcall (b) X.cq rfl X.al rfl zn) ?_ | refine EvQ.lift (fun _ zn => X.pcallG (b) rfl X.cq rfl X.al rfl zn) ?_ | refine EvQ.lift (fun _ zn => X.pcallC (b) rfl X.cq rfl X.al rfl zn) ?_ | refine EvQ.lift (fun _ zn => X.pcallT (b) (by decide) X.cq rfl X.al rfl zn) ?_ | refine EvQ.lift (fun _ zn => X.call rfl X.al (b) zn) ?_ | refine EvQ.fin X.rs ?_ | refine EvQ.fin1 (fun _ => rfl) rfl ?_)
 exact PQ.of (.s (clo_it _ _) (.s (clo_bo _) (.nil _)))
/-- the judge where DATA is said -/
structure DS (hp : Hp) (w : Int) : Prop where
 j : hget hp 0 = some ⟨13, false, [jrw (.hs 12 0 1) (.hs 15 0 1) w 1 true]⟩
 s : hget hp 15 = some ⟨1, false, [[.pt 13 0 0]]⟩
 k : hget hp 13 = some ⟨3, false, [[.it .i64 1, .it .i64 3, .it .i64 w]]⟩
 lim : hp.lim = 0
set_option maxHeartbeats 8000000 in
theorem find_d {hp : Hp} {w : Int} (D : DS hp w) : EvC F false 27 [.pt 0 0 0, .it .i64 1] hp (.ret (.pt 13 0 0) hp) := by
 obtain ⟨hj, hs, hk, hl⟩ := D
 have main : ∃ v hp', EvC F false 27 [.pt 0 0 0, .it .i64 1] hp (.ret v hp') /\ (v = .pt 13 0 0 /\ hp' = hp) := by
  refine EvC.ofQ d27 rfl rfl rfl ?_
  repeat (first | refine EvQ.run ?_ | refine EvQ.fin X.rs ?_ | refine EvQ.fin1 (fun _ => rfl) rfl ?_)
  refine EvQ.loop (QL := RtQ [(4, .pt 13 0 0)] (fun lo hp' => hp' = hp)) ?_ ?_
  ·refine EvL.invQ (S := Unit) (fun _ => [(1, .it .i64 1), (10, .hs 15 0 1), (11, .it .i64 (Int.ofNat 1)), (12, .it .i64 (Int.ofNat 0))]) (fun _ lo hp' => hp' = hp) (fun _ => 0) _ ?_ () _ _ _ rfl X.kv
   rintro _ lo hp' rfl
   repeat (first | refine EvQ.run ?_ | refine EvQ.fin X.rs ?_ | refine EvQ.fin1 (fun _ => rfl) rfl ?_)
   exact EvQ.rt (.mk' X.kv rfl)
  ·rintro _ ⟨tm, lo, hp', rfl, rfl⟩
   repeat (first | refine EvQ.run ?_ | refine EvQ.fin X.rs ?_ | refine EvQ.fin1 (fun _ => rfl) rfl ?_)
   exact ⟨_, _, rfl, rfl, rfl⟩
 obtain ⟨_, _, e, rfl, rfl⟩ := main
 exact e
set_option maxHeartbeats 8000000 in
theorem sent_d {hp : Hp} {w : Int} (hk : hget hp 13 = some ⟨3, false, [[.it .i64 1, .it .i64 3, .it .i64 w]]⟩) (hl : hp.lim = 0) : EvC F false 54 [.pt 13 0 0, .it .i64 4] hp (.ret (.bo true) (hset hp 13 (some ⟨3, false, [[.it .i64 1, .it .i64 3, .it .i64 w]]⟩))) := by
 have nx := next_d
 have main : ∃ v hp', EvC F false 54 [.pt 13 0 0, .it .i64 4] hp (.ret v hp') /\ (v = .bo true /\ hp' = hset hp 13 (some ⟨3, false, [[.it .i64 1, .it .i64 3, .it .i64 w]]⟩)) := by
  refine EvC.ofQ d54 rfl rfl rfl ?_
  repeat (first | refine EvQ.run ?_ | refine EvQ.lift (fun _ zn => X.pcall (nx) X.cq rfl X.al rfl zn) ?_ | refine EvQ.lift (fun _ zn => X.pcallG (nx) rfl X.cq rfl X.al rfl zn) ?_ | refine EvQ.lift (fun _ zn => X.pcallC (nx) rfl X.cq rfl X.al rfl zn) ?_ | refine EvQ.lift (fun _ zn => X.pcallT (nx) (by decide) X.cq rfl X.al rfl zn) ?_ | refine EvQ.lift (fun _ zn => X.call rfl X.al (nx) zn) ?_ | refine EvQ.fin X.rs ?_ | refine EvQ.fin1 (fun _ => rfl) rfl ?_)
  exact ⟨_, _, rfl, rfl, rfl⟩
 obtain ⟨_, _, e, rfl, rfl⟩ := main
 exact e
set_option maxHeartbeats 16000000 in
theorem frame_d {hp : Hp} {w : Int} {pv : V} {p : List Int} (D : DS hp w) (hpv : By hp pv p) (hl : p.length = 16384) :
  EvC F false 34 [.pt 0 0 0, .ag [.it .i64 0, .it .i64 0, .it .i64 1, pv]] hp (.ret (.bo true) (hset hp 0 (some ⟨13, false, [jrw (.hs 12 0 1) (.hs 15 0 1) w 1 true]⟩))) := by
 obtain ⟨hj, hs, hk, hlim⟩ := D
 have pl := hpv.len
 rw [hl] at pl
 have pc := hpv.cells
 have pk := hpv.keep
 have pp := hpv.lp
 have main : ∃ v hp', EvC F false 34 [.pt 0 0 0, .ag [.it .i64 0, .it .i64 0, .it .i64 1, pv]] hp (.ret v hp') /\ (v = .bo true /\ hp' = hset hp 0 (some ⟨13, false, [jrw (.hs 12 0 1) (.hs 15 0 1) w 1 true]⟩)) := by
  refine EvC.ofQ d34 rfl rfl rfl ?_
  repeat (first | refine EvQ.run ?_ | refine EvQ.fin X.rs ?_ | refine EvQ.fin1 (fun _ => rfl) rfl ?_)
  exact ⟨_, _, rfl, rfl, rfl⟩
 obtain ⟨_, _, e, rfl, rfl⟩ := main
 exact e
set_option maxHeartbeats 16000000 in
theorem data_d {hp : Hp} {w w' : Int} {p : List Int} (D : DS hp w) (h1 : ilt w (Int.ofNat 16384) = false) (h2 : wr .i64 (w - Int.ofNat 16384) = w') :
  EvC F false 36 [.pt 0 0 0, .ag (ptD p)] hp (.ret (.bo true) (hset (hset (hset hp 0 (some ⟨13, false, [jrw (.hs 12 0 1) (.hs 15 0 1) w' 1 true]⟩)) 13 (some ⟨3, false, [[.it .i64 1, .it .i64 3, .it .i64 w']]⟩)) 13 (some ⟨3, false, [[.it .i64 1, .it .i64 3, .it .i64 w']]⟩))) := by
 have fd := find_d D
 have ev := event_d
 obtain ⟨hj, hs, hk, hlim⟩ := D
 have k1 : hget (hset hp 0 (some ⟨13, false, [jrw (.hs 12 0 1) (.hs 15 0 1) w' 1 true]⟩)) 13 = some ⟨3, false, [[.it .i64 1, .it .i64 3, .it .i64 w]]⟩ := by rw [hget_other (by decide)]; exact hk
 have sd := sent_d (hp := hset (hset hp 0 (some ⟨13, false, [jrw (.hs 12 0 1) (.hs 15 0 1) w' 1 true]⟩)) 13 (some ⟨3, false, [[.it .i64 1, .it .i64 3, .it .i64 w']]⟩)) (w := w') (hget_set _ _ _) (by rw [hset_lim, hset_lim]; exact hlim)
 have main : ∃ v hp', EvC F false 36 [.pt 0 0 0, .ag (ptD p)] hp (.ret v hp') /\ (v = .bo true /\ hp' = hset (hset (hset hp 0 (some ⟨13, false, [jrw (.hs 12 0 1) (.hs 15 0 1) w' 1 true]⟩)) 13 (some ⟨3, false, [[.it .i64 1, .it .i64 3, .it .i64 w']]⟩)) 13 (some ⟨3, false, [[.it .i64 1, .it .i64 3, .it .i64 w']]⟩)) := by
  refine EvC.ofQ d36 rfl rfl rfl ?_
  repeat (first | refine EvQ.run ?_ | refine EvQ.lift (fun _ zn => X.pcall (fd) X.cq rfl X.al rfl zn) ?_ | refine EvQ.lift (fun _ zn => X.pcallG (fd) rfl X.cq rfl X.al rfl zn) ?_ | refine EvQ.lift (fun _ zn => X.pcallC (fd) rfl X.cq rfl X.al rfl zn) ?_ | refine EvQ.lift (fun _ zn => X.pcallT (fd) (by decide) X.cq rfl X.al rfl zn) ?_ | refine EvQ.lift (fun _ zn => X.call rfl X.al (fd) zn) ?_ | refine EvQ.lift (fun _ zn => X.pcall (ev) X.cq rfl X.al rfl zn) ?_ | refine EvQ.lift (fun _ zn => X.pcallG (ev) rfl X.cq rfl X.al rfl zn) ?_ | refine EvQ.lift (fun _ zn => X.pcallC (ev) rfl X.cq rfl X.al rfl zn) ?_ | refine EvQ.lift (fun _ zn => X.pcallT (ev) (by decide) X.cq rfl X.al rfl zn) ?_ | refine EvQ.lift (fun _ zn => X.call rfl X.al (ev) zn) ?_ | refine EvQ.fin X.rs ?_ | refine EvQ.fin1 (fun _ => rfl) rfl ?_)
  rw [h2]
  repeat (first | refine EvQ.run ?_ | refine EvQ.lift (fun _ zn => X.pcall (sd) X.cq rfl X.al rfl zn) ?_ | refine EvQ.lift (fun _ zn => X.pcallG (sd) rfl X.cq rfl X.al rfl zn) ?_ | refine EvQ.lift (fun _ zn => X.pcallC (sd) rfl X.cq rfl X.al rfl zn) ?_ | refine EvQ.lift (fun _ zn => X.pcallT (sd) (by decide) X.cq rfl X.al rfl zn) ?_ | refine EvQ.lift (fun _ zn => X.call rfl X.al (sd) zn) ?_ | refine EvQ.fin X.rs ?_ | refine EvQ.fin1 (fun _ => rfl) rfl ?_)
  exact ⟨_, _, rfl, rfl, rfl⟩
 obtain ⟨_, _, e, rfl, rfl⟩ := main
 exact e
end Go.Proofs.YtndodhmfdjcjgaaGreatDoor
