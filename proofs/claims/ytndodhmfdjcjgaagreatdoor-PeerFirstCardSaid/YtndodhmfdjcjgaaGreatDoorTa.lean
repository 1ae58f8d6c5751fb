import Derived.Test.YtndodhmfdjcjgaaGreatDoorEvE
import Derived.Test.YtndodhmfdjcjgaaGreatDoorShC
set_option linter.unusedSectionVars false
set_option linter.unusedVariables false
set_option linter.unusedSimpArgs false
-- the document's shape: what it calls (EvHp EvOwn)
namespace Go.Proofs.YtndodhmfdjcjgaaGreatDoor
open Go hiding Fn
open Ev tab
attribute [local irreducible] EvP EvD EvL EvC EvO evGds evLs C.run sK bK gK pK fK lpB stepD
set_option maxHeartbeats 8000000 in
theorem all_any (p : List Int) (h : 4 <= p.length) : EvP F 19 c19 [.vs 1 (bs p)] [.it .i64 (numE p)] := by
 have hl := bs_length p
 refine EvP.ofQ d19 rfl rfl rfl ?_
 repeat (first | refine EvQ.run ?_ | refine EvQ.fin X.rs ?_ | refine EvQ.fin1 (fun _ => rfl) rfl ?_)
 exact PQ.it rfl
set_option maxHeartbeats 8000000 in
theorem four_any (p : List Int) (h : 4 <= p.length) : ∃ n, EvP F 18 c18 [.vs 1 (bs p)] [.it .i64 n] := by
 have hl := bs_length p
 have main : EvQ F (d18.body.run ⟨argT [.vs 1 (bs p)], fun _ => none, h0⟩ (fK d18)) (fun r => ∃ n, PQ d18.rs [.it .i64 n] r) := by
  repeat (first | refine EvQ.run ?_ | refine EvQ.fin X.rs ?_ | refine EvQ.fin1 (fun _ => rfl) rfl ?_)
  exact ⟨_, PQ.it rfl⟩
 obtain ⟨r, h, n, q⟩ := main
 exact ⟨n, EvP.ofQ d18 rfl rfl rfl ⟨r, h, q⟩⟩
set_option maxHeartbeats 8000000 in
theorem bad2_any (c s : Int) : EvP F 16 c16 [.it .i64 2, .it .i64 c, .it .i64 s] [.ag (ptV 0 0), .ag [.it .i64 2, .it .i64 c, .it .i64 0]] := by
 refine EvP.ofQ d16 rfl rfl rfl ?_
 repeat (first | refine EvQ.run ?_ | refine EvQ.fin X.rs ?_ | refine EvQ.fin1 (fun _ => rfl) rfl ?_)
 refine fin2 (fun _ => rfl) rfl rfl ?_
 exact PQ.of (.g (closeCs_clo2 pt_clo0 _ _ (by decide)) (.gs bd_clo (.nil _)))
set_option maxHeartbeats 8000000 in
theorem bad1_any (c s : Int) : EvP F 16 c16 [.it .i64 1, .it .i64 c, .it .i64 s] [.ag (ptV 0 0), .ag [.it .i64 1, .it .i64 c, .it .i64 s]] := by
 refine EvP.ofQ d16 rfl rfl rfl ?_
 repeat (first | refine EvQ.run ?_ | refine EvQ.fin X.rs ?_ | refine EvQ.fin1 (fun _ => rfl) rfl ?_)
 refine fin2 (fun _ => rfl) rfl rfl ?_
 exact PQ.of (.g (closeCs_clo2 pt_clo0 _ _ (by decide)) (.gs bd_clo (.nil _)))
set_option maxHeartbeats 16000000 in
theorem rvalue_any (id v : Int) : ∃ n, EvP F 31 c31 [.ag [.it .i64 id, .it .i64 v]] [.it .i64 n] /\ (n = 0 ↔ valB id v = true) := by
 have main : EvQ F (d31.body.run ⟨argT [.ag [.it .i64 id, .it .i64 v]], fun _ => none, h0⟩ (fK d31)) (fun r => ∃ n, PQ d31.rs [.it .i64 n] r /\ (n = 0 ↔ valB id v = true)) := by
  repeat' (first | refine EvQ.run ?_ | (refine EvQ.pickB rfl rfl rfl ?_) | (refine EvQ.cond rfl (fun h => ?_) (fun h => ?_) <;> ((first | replace h := X.nm h | skip); try have hne := ne_len h)) | (refine EvQ.g1 rfl (fun h => ?_) (fun h => ?_) <;> ((first | replace h := X.nm h | skip); try have hne := ne_len h)) | (refine EvQ.pick rfl (fun _ => rfl) (fun _ => rfl) (fun h => ?_) (fun h => ?_) <;> ((first | replace h := X.nm h | skip); try have hne := ne_len h)) | refine EvQ.fin X.rs ?_ | refine EvQ.fin1 (fun _ => rfl) rfl ?_)
  all_goals
   refine ⟨_, PQ.it rfl, ?_⟩
   simp [valB, ieqD, ilt_eq] at *
   try (repeat' split)
  all_goals (try omega)
 obtain ⟨r, h, n, q, z⟩ := main
 exact ⟨n, EvP.ofQ d31 rfl rfl rfl ⟨r, h, q⟩, z⟩
end Go.Proofs.YtndodhmfdjcjgaaGreatDoor
