import Derived.Test.YtpncefcicfhibaaGreatDoorEvE
import Derived.Test.YtpncefcicfhibaaGreatDoorCw6
set_option linter.unusedVariables false
set_option linter.unusedSimpArgs false
set_option linter.unusedSectionVars false
-- ConnWindows, whole (EvHp EvOwn)
namespace Go.Proofs.YtpncefcicfhibaaGreatDoor.win
open Go hiding Fn
open Ev tab back
theorem nextA : hA.next = 14 := by kernel_rfl
theorem limA : hA.lim = 0 := by kernel_rfl
theorem wsD (x y : Int) (z : List (List V)) : WS (hD x y z) (pwE x y z) (Int.ofNat 65535) (.hs 35 0 19) [0, 0, 0, 4, 1, 0, 0, 0, 0, 0, 0, 1, 1, 4, 0, 0, 0, 1, 136] (pwE x y z) :=
  ⟨⟨rowD x y z, .inr ⟨35, rfl, by rw [nextD]; decide, by rw [limD]; decide, queueD x y z⟩, fun id e => (by cases e; decide), ⟨.hs 20 10 0, readD x y z, .inr (.inr ⟨20, 10, false, [0, 0, 1, 1, 5, 0, 0, 0, 1, 130], rfl, by rw [nextD]; decide, by rw [limD]; decide, restD x y z, by decide, rfl⟩)⟩, nilD x y z, limD x y z, by rw [nextD]; decide⟩, fun e => (by cases e), waysD x y z, wayD x y z⟩
theorem put_any (ty fl s : Int) (p b : List Int) (h : putL [] ty fl s p = b) (hp : p.length ≤ 1000) : EvP F 24 c24 [.vs 1 [], .ag (fr ty fl s p)] [.vs 1 (bs b)] := by
  have := (rput_ok [] ty fl s p (by simp; omega)).toP
  rw [h] at this
  exact this
abbrev e6 (n : Nat) : List (List V) := [[.it .u8 0], [.it .u8 4], [.it .u8 0], [.it .u8 0], [.it .u8 (wr .u8 ((Int.ofNat n).fdiv (Int.ofNat 256)))], [.it .u8 (wr .u8 (Int.ofNat n))]]
theorem put_s (n : Nat) : EvP F 24 c24 [.vs 1 [], .ag [.it .i64 4, .it .i64 0, .it .i64 0, .vs 1 (e6 n)]] [.vs 1 (bs (setL (hiB n) (loB n)))] := put_any 4 0 0 [0, 4, 0, 0, hiB n, loB n] _ (by
  have e : putL [] 4 0 0 [0, 4, 0, 0, hiB n, loB n] = h9 4 0 0 [0, 4, 0, 0, hiB n, loB n].length ++ [0, 4, 0, 0, hiB n, loB n] := by unfold putL; rfl
  have e2 : h9 4 0 0 [0, 4, 0, 0, hiB n, loB n].length = [0, 0, 6, 4, 0, 0, 0, 0, 0] := by show h9 4 0 0 6 = _; decide
  rw [e, e2]; rfl) (by simp)
theorem put_h : EvP F 24 c24 [.vs 1 [], .ag [.it .i64 1, .it .i64 5, .it .i64 1, .vs 1 [[.it .u8 130]]]] [.vs 1 (bs headL)] := put_any 1 5 1 [130] _ (by decide) (by simp)
theorem clo_s (n : Nat) : CloL [.one, .one, .one, .sl [.one]] [.it .i64 4, .it .i64 0, .it .i64 0, .vs 1 (e6 n)] := fr_clo 4 0 0 [0, 4, 0, 0, hiB n, loB n]
theorem clo_h : CloL [.one, .one, .one, .sl [.one]] [.it .i64 1, .it .i64 5, .it .i64 1, .vs 1 [[.it .u8 130]]] := fr_clo 1 5 1 [130]
theorem row_ok : EvP F 16 c16 [.st [58, 115, 116, 97, 116, 117, 115], .st [50, 48, 48]] [.ag [.st [58, 115, 116, 97, 116, 117, 115], .st [50, 48, 48], .it .i64 1]] := by
  obtain ⟨hp, h⟩ := EvD.kern (F := F) (d := bodyD c16 [.st [58, 115, 116, 97, 116, 117, 115], .st [50, 48, 48]] h0) (v := .ag [.st [58, 115, 116, 97, 116, 117, 115], .st [50, 48, 48], .it .i64 1]) 300 30 (fun N M => by kernel_rfl)
  exact ⟨rfl, rfl, rfl, _, hp, hp, h, .gs (.cons (clo_st _) (.cons (clo_st _) (.cons (clo_it _ _) .nil))) (.nil _)⟩
theorem sl_zero (k : Nat) : Sl (hA2 (List.replicate k [.it .u8 0])) (.hs 14 0 k) 1 (bs ((List.replicate k 0).map Int.ofNat)) := by
  have e : bs ((List.replicate k 0).map Int.ofNat) = List.replicate k [.it .u8 0] := by simp [bs]
  rw [e]
  have h := hget_new hA ⟨1, false, List.replicate k [.it .u8 0]⟩
  rw [nextA] at h
  refine .inr (.inr ⟨14, 0, false, List.replicate k [.it .u8 0], by rw [List.length_replicate], ?_, ?_, h, by simp, by simp⟩)
  · show 14 < (hnew hA _).next
    rw [hnew_next, nextA]; decide
  · show (hnew hA _).lim ≤ 14
    rw [hnew_lim, limA]; decide
attribute [local irreducible] EvP EvD EvL EvC EvO evGds evLs C.run sK bK gK pK fK lpB stepD numE bareE hA hB hC hD vC pwE
set_option maxHeartbeats 64000000 in
theorem win_run (wi : Int) (cs : List Int) (size : Int) : ∃ h, EvD F (stepD d6 [.it .i64 wi, .vs 1 (is cs), .it .i64 size] h0) (Rt (.bo true) h) := by
  obtain ⟨n, n1, n2, W1⟩ := within_p wi 0 5000 (by decide) (by decide) (by decide)
  obtain ⟨n, rfl⟩ : ∃ n' : Nat, n = Int.ofNat n' := ⟨n.toNat, by simp only [Int.ofNat_eq_natCast]; omega⟩
  obtain ⟨k, k1, k2, W2⟩ := within_p size 1 8000 (by decide) (by decide) (by decide)
  obtain ⟨k, rfl⟩ : ∃ k' : Nat, k = Int.ofNat k' := ⟨k.toNat, by simp only [Int.ofNat_eq_natCast]; omega⟩
  have hn : n ≤ 5000 := by simp only [Int.ofNat_eq_natCast] at n2; omega
  have hk : k ≤ 8000 := by simp only [Int.ofNat_eq_natCast] at k2; omega
  have hk1 : 1 ≤ k := by simp only [Int.ofNat_eq_natCast] at k1; omega
  have b1 := own_ok
  have b2 := begun_ok
  have b3 := put_s n
  have b4 := clo_s n
  have b5 := put_h
  have b6 := clo_h
  have b7 := row_ok
  have hz : Sl (hnew hA ⟨1, false, List.replicate k [V.it .u8 (Int.ofNat 0)]⟩) (.hs hA.next 0 k) 1 (bs ((List.replicate k 0).map Int.ofNat)) := by rw [nextA]; exact sl_zero k
  have f1 : EvC F false 17 [.pt 0 0 0, .vs 1 (bs (setL (hiB n) (loB n)))] (hnew hA ⟨1, false, List.replicate k [V.it .u8 (Int.ofNat 0)]⟩) (.ret .ns (hB (hiB n) (loB n) (List.replicate k [V.it .u8 (Int.ofNat 0)]))) := feedS hn _
  generalize hzz : List.replicate k [V.it .u8 (Int.ofNat 0)] = z at *
  have f2 := feedH hn z
  have f3 := head_ok (hiB n) (loB n) z
  have f2l := vC_lp (hiB n) (loB n) z
  have ws := wsD (hiB n) (loB n) z
  rw [pwE_of hn z] at ws
  have hJ : JW (Int.ofNat n) (-1) n (List.replicate k 0).length (hD (hiB n) (loB n) z) := ⟨65535, _, _, ws, by rw [List.length_replicate]; omega, by decide, by rw [List.length_replicate]; simp; omega⟩
  generalize hD (hiB n) (loB n) z = HD at *
  generalize hC (hiB n) (loB n) z = HC at *
  generalize hB (hiB n) (loB n) z = HB at *
  generalize vC (hiB n) (loB n) z = vc at *
  refine EvQ.law ?_
  repeat (first | refine EvQ.run ?_ | refine EvQ.lift (fun _ zn => X.pcall (b1) X.cq rfl X.al rfl zn) ?_ | refine EvQ.lift (fun _ zn => X.pcallG (b1) rfl X.cq rfl X.al rfl zn) ?_ | refine EvQ.lift (fun _ zn => X.pcallC (b1) rfl X.cq rfl X.al rfl zn) ?_ | refine EvQ.lift (fun _ zn => X.pcallT (b1) (by decide) X.cq rfl X.al rfl zn) ?_ | refine EvQ.lift (fun _ zn => X.call rfl X.al (b1) zn) ?_ | refine EvQ.lift (fun _ zn => X.pcall (b2) X.cq rfl X.al rfl zn) ?_ | refine EvQ.lift (fun _ zn => X.pcallG (b2) rfl X.cq rfl X.al rfl zn) ?_ | refine EvQ.lift (fun _ zn => X.pcallC (b2) rfl X.cq rfl X.al rfl zn) ?_ | refine EvQ.lift (fun _ zn => X.pcallT (b2) (by decide) X.cq rfl X.al rfl zn) ?_ | refine EvQ.lift (fun _ zn => X.call rfl X.al (b2) zn) ?_ | refine EvQ.lift (fun _ zn => X.pcall (W1) X.cq rfl X.al rfl zn) ?_ | refine EvQ.lift (fun _ zn => X.pcallG (W1) rfl X.cq rfl X.al rfl zn) ?_ | refine EvQ.lift (fun _ zn => X.pcallC (W1) rfl X.cq rfl X.al rfl zn) ?_ | refine EvQ.lift (fun _ zn => X.pcallT (W1) (by decide) X.cq rfl X.al rfl zn) ?_ | refine EvQ.lift (fun _ zn => X.call rfl X.al (W1) zn) ?_ | refine EvQ.lift (fun _ zn => X.pcall (W2) X.cq rfl X.al rfl zn) ?_ | refine EvQ.lift (fun _ zn => X.pcallG (W2) rfl X.cq rfl X.al rfl zn) ?_ | refine EvQ.lift (fun _ zn => X.pcallC (W2) rfl X.cq rfl X.al rfl zn) ?_ | refine EvQ.lift (fun _ zn => X.pcallT (W2) (by decide) X.cq rfl X.al rfl zn) ?_ | refine EvQ.lift (fun _ zn => X.call rfl X.al (W2) zn) ?_ | refine EvQ.fin X.rs ?_ | refine EvQ.fin1 (fun _ => rfl) rfl ?_)
  rw [hzz]
  refine EvQ.lift (fun _ zn => X.b2s rfl hz (fun n hn => by rw [List.eq_of_mem_replicate hn]; decide) zn) ?_
  repeat (first | refine EvQ.run ?_ | refine EvQ.lift (fun _ zn => X.pcall (b3) X.cq rfl X.al rfl zn) ?_ | refine EvQ.lift (fun _ zn => X.pcallG (b3) rfl X.cq rfl X.al rfl zn) ?_ | refine EvQ.lift (fun _ zn => X.pcallC (b3) rfl X.cq rfl X.al rfl zn) ?_ | refine EvQ.lift (fun _ zn => X.pcallT (b3) (by decide) X.cq rfl X.al rfl zn) ?_ | refine EvQ.lift (fun _ zn => X.call rfl X.al (b3) zn) ?_ | refine EvQ.lift (fun _ zn => X.pcall (f1) X.cq rfl X.al rfl zn) ?_ | refine EvQ.lift (fun _ zn => X.pcallG (f1) rfl X.cq rfl X.al rfl zn) ?_ | refine EvQ.lift (fun _ zn => X.pcallC (f1) rfl X.cq rfl X.al rfl zn) ?_ | refine EvQ.lift (fun _ zn => X.pcallT (f1) (by decide) X.cq rfl X.al rfl zn) ?_ | refine EvQ.lift (fun _ zn => X.call rfl X.al (f1) zn) ?_ | refine EvQ.lift (fun _ zn => X.pcall (b5) X.cq rfl X.al rfl zn) ?_ | refine EvQ.lift (fun _ zn => X.pcallG (b5) rfl X.cq rfl X.al rfl zn) ?_ | refine EvQ.lift (fun _ zn => X.pcallC (b5) rfl X.cq rfl X.al rfl zn) ?_ | refine EvQ.lift (fun _ zn => X.pcallT (b5) (by decide) X.cq rfl X.al rfl zn) ?_ | refine EvQ.lift (fun _ zn => X.call rfl X.al (b5) zn) ?_ | refine EvQ.lift (fun _ zn => X.pcall (f2) X.cq rfl X.al rfl zn) ?_ | refine EvQ.lift (fun _ zn => X.pcallG (f2) rfl X.cq rfl X.al rfl zn) ?_ | refine EvQ.lift (fun _ zn => X.pcallC (f2) rfl X.cq rfl X.al rfl zn) ?_ | refine EvQ.lift (fun _ zn => X.pcallT (f2) (by decide) X.cq rfl X.al rfl zn) ?_ | refine EvQ.lift (fun _ zn => X.call rfl X.al (f2) zn) ?_ | refine EvQ.lift (fun _ zn => X.pcall (b7) X.cq rfl X.al rfl zn) ?_ | refine EvQ.lift (fun _ zn => X.pcallG (b7) rfl X.cq rfl X.al rfl zn) ?_ | refine EvQ.lift (fun _ zn => X.pcallC (b7) rfl X.cq rfl X.al rfl zn) ?_ | refine EvQ.lift (fun _ zn => X.pcallT (b7) (by decide) X.cq rfl X.al rfl zn) ?_ | refine EvQ.lift (fun _ zn => X.call rfl X.al (b7) zn) ?_ | refine EvQ.lift (fun _ zn => X.pcall (f3) X.cq rfl X.al rfl zn) ?_ | refine EvQ.lift (fun _ zn => X.pcallG (f3) rfl X.cq rfl X.al rfl zn) ?_ | refine EvQ.lift (fun _ zn => X.pcallC (f3) rfl X.cq rfl X.al rfl zn) ?_ | refine EvQ.lift (fun _ zn => X.pcallT (f3) (by decide) X.cq rfl X.al rfl zn) ?_ | refine EvQ.lift (fun _ zn => X.call rfl X.al (f3) zn) ?_ | refine EvQ.fin X.rs ?_ | refine EvQ.fin1 (fun _ => rfl) rfl ?_)
  refine EvQ.loop (win_loop cs (Int.ofNat n) n hn (List.replicate k 0) (by rw [List.length_replicate]; exact hk) _ hJ _ ?_ _ ?_) ?_
  · exact X.lo
  · exact X.kv
  rintro _ ⟨tm, lo, hp, rfl, -⟩
  have cr := cr_ok hp
  repeat (first | refine EvQ.run ?_ | refine EvQ.lift (fun _ zn => X.pcall (cr) X.cq rfl X.al rfl zn) ?_ | refine EvQ.lift (fun _ zn => X.pcallG (cr) rfl X.cq rfl X.al rfl zn) ?_ | refine EvQ.lift (fun _ zn => X.pcallC (cr) rfl X.cq rfl X.al rfl zn) ?_ | refine EvQ.lift (fun _ zn => X.pcallT (cr) (by decide) X.cq rfl X.al rfl zn) ?_ | refine EvQ.lift (fun _ zn => X.call rfl X.al (cr) zn) ?_ | refine EvQ.fin X.rs ?_ | refine EvQ.fin1 (fun _ => rfl) rfl ?_)
  exact ⟨_, rfl⟩
end Go.Proofs.YtpncefcicfhibaaGreatDoor.win
