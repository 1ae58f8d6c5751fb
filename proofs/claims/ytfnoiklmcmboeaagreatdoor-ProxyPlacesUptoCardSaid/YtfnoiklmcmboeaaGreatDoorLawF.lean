import Derived.Test.YtfnoiklmcmboeaaGreatDoorEvE
import Derived.Test.YtfnoiklmcmboeaaGreatDoorPpGa
import Derived.Test.YtfnoiklmcmboeaaGreatDoorPpGb
import Derived.Test.YtfnoiklmcmboeaaGreatDoorPpGc
import Derived.Test.YtfnoiklmcmboeaaGreatDoorPpGd
import Derived.Test.YtfnoiklmcmboeaaGreatDoorPpGe
import Derived.Test.YtfnoiklmcmboeaaGreatDoorPpGf
import Derived.Test.YtfnoiklmcmboeaaGreatDoorRun9
set_option linter.unusedVariables false
set_option linter.unusedSimpArgs false
set_option linter.unusedSectionVars false
set_option maxHeartbeats 640000000
namespace Go.Proofs.YtfnoiklmcmboeaaGreatDoor.cnw
open Go hiding Fn
open Ev tab
attribute [local irreducible] C.run EvC EvD EvL EvO EvP bK evGds evLs fK gK hp9 lpB pK sK stat stepD
theorem pl_loop (hp1 : Hp) (c : Cfg) (hok : okC c.st c.wn c.ls) (p s : Nat) (d0 : List V) (hJ : PxJ hp1 c p s d0) (l : List ActV) (hl : l.length <= 2000000)
  (lo : Lo) (hlo : shed [7] lo = lset (fun _ => none) 5 (thR d0)) (tm : Tm) (hk : [0, 3, 5, 6].map (fun x => (x, tm x)) = [(0, .vs 4 (acts l)), (3, .pt p 0 0), (5, .lp 5 0), (6, .it .i64 (Int.ofNat 0))]) :
  ∃ r, EvL Fq [0, 3, 5, 6] [7] (lpB (d3.body.lps.getD 0 .skip)) ⟨tm, lo, hp1⟩ r /\ XtQ 0 [] (fun _ _ => True) r := by
 refine EvL.invQ (S := Nat × List V) (kvP l p) (JP l c p s) (fun y => l.length - y.1) _ ?_ (0, d0) tm lo hp1 ⟨hlo, Nat.zero_le _, hJ⟩ hk
 intro ⟨i, d⟩ lo hp ⟨e1, e2, hJ⟩
 simp only at e1 e2 hJ
 rw [e1]
 obtain ⟨x0, x1, x2, x3, x4, x5, x6, x7, rfl⟩ := list8 hJ.len
 have hal := acts_length l
 by_cases hi : i < l.length
 ·by_cases h60 : i < 60
  ·generalize ha : l.getD i av0 = a
   obtain ⟨k, n, sz, b⟩ := a
   have all : ∀ kn : Nat, (kn = 1 \/ kn = 3 \/ kn = 4) -> k = Int.ofNat kn -> EvQ Fq ((d3.body.lps.getD 0 .skip).run ⟨tmOf [(0, .vs 4 (acts l)), (3, .pt p 0 0), (5, .lp 5 0), (6, .it .i64 (Int.ofNat i))], lset (fun _ => none) 5 (thR [x0, x1, x2, x3, x4, x5, x6, x7]), hp⟩ .done) (RP l c p s i) := fun kn hkn e => by
    subst e
    by_cases hn : 0 <= n /\ n < 8
    ·obtain ⟨m, hm, rfl⟩ := in_of hn
     cases hT : isT ([x0, x1, x2, x3, x4, x5, x6, x7].getD m .np) <;> rcases hkn with rfl | rfl | rfl
     ·exact rnd1f l hl c hok p s i hp x0 x1 x2 x3 x4 x5 x6 x7 hJ hi h60 sz b m hm hT ha
     ·exact rnd3f l hl c hok p s i hp x0 x1 x2 x3 x4 x5 x6 x7 hJ hi h60 sz b m hm hT ha
     ·exact rnd4f l hl c hok p s i hp x0 x1 x2 x3 x4 x5 x6 x7 hJ hi h60 sz b m hm hT ha
     ·exact rnd1t l hl c hok p s i hp x0 x1 x2 x3 x4 x5 x6 x7 hJ hi h60 sz b m hm hT ha
     ·exact rnd3t l hl c hok p s i hp x0 x1 x2 x3 x4 x5 x6 x7 hJ hi h60 sz b m hm hT ha
     ·exact rnd4t l hl c hok p s i hp x0 x1 x2 x3 x4 x5 x6 x7 hJ hi h60 sz b m hm hT ha
    ·exact rndF l hl c hok p s i hp x0 x1 x2 x3 x4 x5 x6 x7 hJ hi h60 sz b kn hkn n hn ha
   by_cases h1 : k = 1
   ·exact all 1 (.inl rfl) h1
   ·by_cases h3 : k = 3
    ·exact all 3 (.inr (.inl rfl)) h3
    ·by_cases h4 : k = 4
     ·exact all 4 (.inr (.inr rfl)) h4
     ·exact rndX l hl c hok p s i hp x0 x1 x2 x3 x4 x5 x6 x7 hJ hi h60 sz b k n h1 h3 h4 ha
  ·show EvQ Fq ((d3.body.lps.getD 0 .skip).run ⟨tmOf [(0, .vs 4 (acts l)), (3, .pt p 0 0), (5, .lp 5 0), (6, .it .i64 (Int.ofNat i))], lset (fun _ => none) 5 (thR [x0, x1, x2, x3, x4, x5, x6, x7]), hp⟩ .done) (RP l c p s i)
   have q6 : ilt (Int.ofNat i) (Int.ofNat 60) = false := il0 (by simp only [Int.ofNat_eq_natCast]; omega)
   repeat (first | refine EvQ.run ?_ | refine EvQ.fin X.rs ?_ | refine EvQ.fin1 (fun _ => rfl) rfl ?_)
   exact EvQ.xt (.mk' X.kv trivial)
 ·show EvQ Fq ((d3.body.lps.getD 0 .skip).run ⟨tmOf [(0, .vs 4 (acts l)), (3, .pt p 0 0), (5, .lp 5 0), (6, .it .i64 (Int.ofNat i))], lset (fun _ => none) 5 (thR [x0, x1, x2, x3, x4, x5, x6, x7]), hp⟩ .done) (RP l c p s i)
  repeat' (first | refine EvQ.run ?_ | (refine EvQ.pickB rfl rfl rfl ?_) | (refine EvQ.cond rfl (fun h => ?_) (fun h => ?_) <;> ((first | replace h := X.nm h | skip); try have hne := ne_len h)) | (refine EvQ.g1 rfl (fun h => ?_) (fun h => ?_) <;> ((first | replace h := X.nm h | skip); try have hne := ne_len h)) | (refine EvQ.pick rfl (fun _ => rfl) (fun _ => rfl) (fun h => ?_) (fun h => ?_) <;> ((first | replace h := X.nm h | skip); try have hne := ne_len h)) | refine EvQ.fin X.rs ?_ | refine EvQ.fin1 (fun _ => rfl) rfl ?_)
  exact EvQ.xt (.mk' X.kv trivial)
theorem np8 : ∀ j, ([.np, .np, .np, .np, .np, .np, .np, .np] : List V).getD j .np = .np
 | 0 => rfl
 | 1 => rfl
 | 2 => rfl
 | 3 => rfl
 | 4 => rfl
 | 5 => rfl
 | 6 => rfl
 | 7 => rfl
 | n + 8 => rfl
theorem pl_run (l : List ActV) (hl : l.length <= 2000000) : ∃ h, EvD Fq (stepD d3 [.vs 4 (acts l)] h0) (Rt (.bo true) h) := by
 have hal := acts_length l
 have hok : okP ⟨10000, 4591870180066957722, 2, 65535, 65536, 4, 1⟩ := by simp [okP, okC]
 have pn := pxN_ok (own := false) h0 _ hok (Nat.le_refl _)
 refine EvQ.law ?_
 repeat (first | refine EvQ.run ?_ | refine EvQ.lift (fun _ zn => X.pcall (cfg_ok _) X.cq rfl X.al rfl zn) ?_ | refine EvQ.lift (fun _ zn => X.pcallG (cfg_ok _) rfl X.cq rfl X.al rfl zn) ?_ | refine EvQ.lift (fun _ zn => X.pcallC (cfg_ok _) rfl X.cq rfl X.al rfl zn) ?_ | refine EvQ.lift (fun _ zn => X.pcallT (cfg_ok _) (by decide) X.cq rfl X.al rfl zn) ?_ | refine EvQ.lift (fun _ zn => X.call rfl X.al (cfg_ok _) zn) ?_ | refine EvQ.fin X.rs ?_ | refine EvQ.fin1 (fun _ => rfl) rfl ?_)
 refine EvQ.call rfl X.al pn ?_
 rintro _ hp1 ⟨p, s, rfl, g, p1, p2, u⟩
 have hJ : PxJ hp1 ⟨10000, 4591870180066957722, 2, 65535, 65536, 4, 1⟩ p s [.np, .np, .np, .np, .np, .np, .np, .np] :=
  ⟨g, by rw [u.lim]; exact Nat.zero_le _, p2, rfl, fun i _ => .inl (np8 i), fun i j k _ _ e _ => by rw [np8] at e; cases e⟩
 repeat (first | refine EvQ.run ?_ | refine EvQ.fin X.rs ?_ | refine EvQ.fin1 (fun _ => rfl) rfl ?_)
 refine EvQ.loop (pl_loop hp1 _ hok.1 p s _ hJ l hl _ ?_ _ ?_) ?_
 ·exact X.lo
 ·exact X.kv
 rintro _ ⟨tm, lo, hp3, rfl, -⟩
 repeat' (first | refine EvQ.run ?_ | refine EvQ.lift (fun _ zn => X.pcall (cr_ok _) X.cq rfl X.al rfl zn) ?_ | refine EvQ.lift (fun _ zn => X.pcallG (cr_ok _) rfl X.cq rfl X.al rfl zn) ?_ | refine EvQ.lift (fun _ zn => X.pcallC (cr_ok _) rfl X.cq rfl X.al rfl zn) ?_ | refine EvQ.lift (fun _ zn => X.pcallT (cr_ok _) (by decide) X.cq rfl X.al rfl zn) ?_ | refine EvQ.lift (fun _ zn => X.call rfl X.al (cr_ok _) zn) ?_ | (refine EvQ.pickB rfl rfl rfl ?_) | (refine EvQ.cond rfl (fun h => ?_) (fun h => ?_) <;> ((first | replace h := X.nm h | skip); try have hne := ne_len h)) | (refine EvQ.g1 rfl (fun h => ?_) (fun h => ?_) <;> ((first | replace h := X.nm h | skip); try have hne := ne_len h)) | (refine EvQ.pick rfl (fun _ => rfl) (fun _ => rfl) (fun h => ?_) (fun h => ?_) <;> ((first | replace h := X.nm h | skip); try have hne := ne_len h)) | refine EvQ.fin X.rs ?_ | refine EvQ.fin1 (fun _ => rfl) rfl ?_)
 all_goals exact ⟨_, rfl⟩
theorem law (xs : List V) (hx : ShP [(false, [.sl [.it .i64, .it .i64, .it .i64, .sl [.it .u8]]])] xs) (hb : sizP xs <= 1048576) :
  ∃ L k hp', runF (callF Fq L k) L c3 xs h0 = .ret (.bo true) hp' := by
 obtain ⟨y, r, rfl, h3, h, e3⟩ := hx.one'
 cases h.nil'
 obtain ⟨es, rfl, h5, e5⟩ := slice_of h3
 obtain ⟨l, rfl, h6⟩ := acts_of h5
 exact law_of d3 rfl (pl_run l (by omega))
theorem yes_hp {r : CR} (h : yes r = true) : r = .ret (.bo true) (crHp r) := by
 obtain ⟨hp, e⟩ := yes_ret h
 rw [e]; rfl
end Go.Proofs.YtfnoiklmcmboeaaGreatDoor.cnw
namespace Go.Proofs.YtfnoiklmcmboeaaGreatDoor.cnw
open Go hiding Fn
open Ev tab
attribute [local irreducible] hp9
theorem tableQ : Table Tryz.prog Fq mds := Table.memo table11 table2 (f := 9) (fn := c9) (by rfl) rfl (by unfold hp9; exact yes_hp runs9)
end Go.Proofs.YtfnoiklmcmboeaaGreatDoor.cnw
