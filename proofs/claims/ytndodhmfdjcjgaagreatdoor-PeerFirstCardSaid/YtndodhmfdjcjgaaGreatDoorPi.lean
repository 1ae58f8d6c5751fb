import Derived.Test.YtndodhmfdjcjgaaGreatDoorEvE
import Derived.Test.YtndodhmfdjcjgaaGreatDoorPj
set_option linter.unusedSectionVars false
set_option linter.unusedVariables false
set_option linter.unusedSimpArgs false
-- chapter 25's last run (EvHp EvOwn)
namespace Go.Proofs.YtndodhmfdjcjgaaGreatDoor
open Go hiding Fn
open Ev tab
attribute [local irreducible] EvP EvD EvL EvC EvO evGds evLs C.run sK bK gK pK fK lpB stepD ackE numE setB feedG feedA feedM d4L z16 H0 H1 H2 H3 H4 H5 H6
def wN (i : Nat) : Int := 65535 - 16384 * (i : Int)
set_option maxHeartbeats 32000000 in
theorem mv_d : ∃ hp', EvC F false 13 [.pt 0 0 0, .pt 3 0 0, .vs 1 (bs d4L)] H6 (.ret (.bo false) hp') := by
 obtain ⟨g0, g15, g13, g3, g19, gl, gn⟩ := f6
 have hBv : By H6 (.hs 19 10 0) [] := .inr (.inr ⟨19, 10, false, m3L, rfl, by omega, by omega, g19, by decide, rfl⟩)
 obtain ⟨out, bv', hp1, q1, q2, -, -, q5, -⟩ := feed_gen (Q := 3) (most := 16777215) (pre := []) g3 hBv (.vs H6 d4L) (fun _ h => by cases h) d4_bytes (by rw [d4_len]; decide) (by decide) (by omega) (by omega) n6
 have ef : feedG 16777215 [] [] d4L = (d4F, [], [], 0) := by
  unfold feedG
  rw [strip_nil]
  simp only [List.nil_append]
  rw [d4_feed]
  rfl
 rw [ef] at q1 q2
 have q1 : EvC F false 14 [.pt 3 0 0, .vs 1 (bs d4L)] H6 (.ret (.tu [out, zer]) hp1) := q1
 have D1 : DS hp1 (wN 0) := ⟨q5.get 0 _ (by decide) g0, q5.get 15 _ (by decide) g15, q5.get 13 _ (by decide) g13, by rw [q5.lim]; exact gl⟩
 rcases q2 with ⟨_, q⟩ | ⟨id, rows, rfl, hz, hlt, hil, hg4, hF⟩
 ·cases q
 have hrl := hF.length
 have hrl : rows.length = 5 := hrl
 have main : ∃ v hp', EvC F false 13 [.pt 0 0 0, .pt 3 0 0, .vs 1 (bs d4L)] H6 (.ret v hp') /\ v = .bo false := by
  refine EvC.ofQ d13 rfl rfl rfl ?_
  repeat (first | refine EvQ.run ?_ | refine EvQ.fin X.rs ?_ | refine EvQ.fin1 (fun _ => rfl) rfl ?_)
  refine EvQ.lift (fun _ zn => X.call rfl X.al q1 zn) ?_
  repeat (first | refine EvQ.run ?_ | refine EvQ.fin X.rs ?_ | refine EvQ.fin1 (fun _ => rfl) rfl ?_)
  refine EvQ.loop (QL := RtQ [(6, .bo false)] (fun lo hp' => True)) ?_ ?_
  ·refine EvL.invQ (S := Nat) (fun i => [(0, .pt 0 0 0), (8, .lp 8 0), (17, .hs id 0 5), (18, .it .i64 (Int.ofNat 5)), (19, .it .i64 (Int.ofNat i))]) (fun i lo hp' => i <= 3 /\ DS hp' (wN i) /\ hget hp' id = some ⟨4, false, rows⟩ /\ FrR hp' H6.next rows d4F) (fun i => 5 - i) _ ?_ 0 _ _ _ ⟨by decide, D1, hg4, hF⟩ X.kv
   rintro i lo hp' ⟨h3, D, hg, hR⟩
   obtain ⟨pv, erow, hpv, hpz⟩ := hR.at i 0 0 1 z16 (by
    have : i = 0 \/ i = 1 \/ i = 2 \/ i = 3 := by omega
    rcases this with rfl | rfl | rfl | rfl <;> rfl)
   have erow0 : rows.getD (0 + i) [] = [.it .i64 0, .it .i64 0, .it .i64 1, pv] := by rw [Nat.zero_add]; exact erow
   have hi5 : 0 + i < rows.length := by omega
   have pl := hpv.len
   have pc := hpv.cells
   have pk := hpv.keep
   have pp := hpv.lp
   by_cases hi : i < 3
   ·obtain ⟨hp2, hsay, D2, S2⟩ := say_d (w' := wN (i + 1)) D hpv (fun id e => by have := hpz id e; omega) z16_len (by rw [ilt_eq]; exact decide_eq_false (by unfold wN; simp only [Int.ofNat_eq_natCast]; omega)) (by unfold wN; rw [wr64] <;> simp only [Int.ofNat_eq_natCast] <;> omega)
    repeat (first | refine EvQ.run ?_ | refine EvQ.lift (fun _ zn => X.pcall (hsay) X.cq rfl X.al rfl zn) ?_ | refine EvQ.lift (fun _ zn => X.pcallG (hsay) rfl X.cq rfl X.al rfl zn) ?_ | refine EvQ.lift (fun _ zn => X.pcallC (hsay) rfl X.cq rfl X.al rfl zn) ?_ | refine EvQ.lift (fun _ zn => X.pcallT (hsay) (by decide) X.cq rfl X.al rfl zn) ?_ | refine EvQ.lift (fun _ zn => X.call rfl X.al (hsay) zn) ?_ | refine EvQ.fin X.rs ?_ | refine EvQ.fin1 (fun _ => rfl) rfl ?_)
    exact EvQ.go (i + 1) X.kv ⟨by omega, D2, S2.get id _ (by omega) hg (show (4 : Nat) ≠ 1 by decide), hR.mono1 S2.x⟩ (by omega)
   ·obtain ⟨hp2, hsay⟩ := say_x D hpv (fun id e => by have := hpz id e; omega) z16_len (by rw [ilt_eq]; exact decide_eq_true (by unfold wN; simp only [Int.ofNat_eq_natCast]; omega))
    repeat (first | refine EvQ.run ?_ | refine EvQ.lift (fun _ zn => X.pcall (hsay) X.cq rfl X.al rfl zn) ?_ | refine EvQ.lift (fun _ zn => X.pcallG (hsay) rfl X.cq rfl X.al rfl zn) ?_ | refine EvQ.lift (fun _ zn => X.pcallC (hsay) rfl X.cq rfl X.al rfl zn) ?_ | refine EvQ.lift (fun _ zn => X.pcallT (hsay) (by decide) X.cq rfl X.al rfl zn) ?_ | refine EvQ.lift (fun _ zn => X.call rfl X.al (hsay) zn) ?_ | refine EvQ.fin X.rs ?_ | refine EvQ.fin1 (fun _ => rfl) rfl ?_)
    exact EvQ.rt (.mk' X.kv trivial)
  ·rintro _ ⟨tm, lo, hp', rfl, -⟩
   repeat (first | refine EvQ.run ?_ | refine EvQ.fin X.rs ?_ | refine EvQ.fin1 (fun _ => rfl) rfl ?_)
   exact ⟨_, _, rfl, rfl⟩
 obtain ⟨_, hp', e, rfl⟩ := main
 exact ⟨hp', e⟩
end Go.Proofs.YtndodhmfdjcjgaaGreatDoor
