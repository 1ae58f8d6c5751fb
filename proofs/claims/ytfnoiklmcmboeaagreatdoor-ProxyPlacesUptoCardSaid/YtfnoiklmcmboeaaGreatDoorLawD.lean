import Derived.Test.YtfnoiklmcmboeaaGreatDoorEvE
import Derived.Test.YtfnoiklmcmboeaaGreatDoorLawC
set_option linter.unusedVariables false
set_option linter.unusedSimpArgs false
set_option linter.unusedSectionVars false
set_option maxHeartbeats 640000000
namespace Go.Proofs.YtfnoiklmcmboeaaGreatDoor.cnw
open Go hiding Fn
open Ev tab
attribute [local irreducible] C.run EvC EvD EvL EvO EvP bK evGds evLs fK gK hp9 lpB pK sK stat stepD
theorem clV_cases {hp : Hp} {c : Cfg} {p s : Nat} {d : List V} (hJ : PxJ hp c p s d) (n : Int) : clV d n = .np \/ ∃ m kk, m < 8 /\ d.getD m .np = .pt kk 0 0 /\ clV d n = .pt kk 0 0 := by
 by_cases hn : 0 <= n /\ n < 8
 ·obtain ⟨m, hm, rfl⟩ := in_of hn
  rw [clV_in hm]
  rcases hJ.cl m hm with e | ⟨kk, _, _, _, _, _, _, _, _, _, _, e, _⟩
  ·exact .inl e
  ·exact .inr ⟨m, kk, hm, e, e⟩
 ·exact .inl (if_neg hn)
theorem doP_ok {own : Bool} {hp : Hp} {c : Cfg} {p s : Nat} {d : List V} (hJ : PxJ hp c p s d) (hok : okC c.st c.wn c.ls) (k n sz : Int) (b : List (List V)) (hk : k = 1 \/ k = 3 \/ k = 4) :
  ∃ w hp', EvC Fq own 7 [.pt p 0 0, .ag (actV k n sz b)] hp (.ret w hp') /\ ∃ x, w = .ag [.bo (tkB k n d), x, .ns] /\ (isLp x = false /\ x.cells = [x] /\ x.keep = true) /\ ∃ d', PxJ hp' c p s d' /\ nxt k n d d' := by
 have ac := act_all (own := false) hJ.same hok k n sz b hk
 obtain ⟨x0, x1, x2, x3, x4, x5, x6, x7, rfl⟩ := list8 hJ.len
 have g0 := hJ.obj
 unfold pxD rowCf at g0
 simp only [List.getD_cons_zero, List.getD_cons_succ, List.cons_append, List.nil_append] at g0
 have l0 : isLp x0 = false := (hJ.cells 0).1
 have l1 : isLp x1 = false := (hJ.cells 1).1
 have l2 : isLp x2 = false := (hJ.cells 2).1
 have l3 : isLp x3 = false := (hJ.cells 3).1
 have l4 : isLp x4 = false := (hJ.cells 4).1
 have l5 : isLp x5 = false := (hJ.cells 5).1
 have l6 : isLp x6 = false := (hJ.cells 6).1
 have l7 : isLp x7 = false := (hJ.cells 7).1
 have hlim := hJ.lim
 have z7 : ieq k (Int.ofNat 7) = false := by
  rw [ieqD]; refine decide_eq_false ?_
  rcases hk with rfl | rfl | rfl <;> decide
 refine EvC.ofQ d7 rfl rfl rfl ?_
 repeat (first | refine EvQ.run ?_ | refine EvQ.fin X.rs ?_ | refine EvQ.fin1 (fun _ => rfl) rfl ?_)
 refine EvQ.call rfl X.al ac ?_
 rintro _ hp2 ⟨t, rfl, ht, d', hJ2, hx⟩
 have st2 := settle_ok (own := false) hp2 p c d' s .ns hJ2.obj hJ2.lt (fun i hi => (hJ2.cl i hi).cl)
 clear l0 l1 l2 l3 l4 l5 l6 l7 g0
 repeat (first | refine EvQ.run ?_ | refine EvQ.fin X.rs ?_ | refine EvQ.fin1 (fun _ => rfl) rfl ?_)
 refine EvQ.call rfl X.al st2 ?_
 rintro _ hp3 ⟨rfl, u3⟩
 have hJ3 := hJ2.up u3
 clear st2 ac
 have cl := client_ok (own := false) hp3 p c d' s .ns n hJ3.obj (fun i => (hJ3.cells i).1) (fun i => (hJ3.cells i).2)
 have cc := clV_cases hJ3 n
 obtain ⟨y0, y1, y2, y3, y4, y5, y6, y7, hy⟩ := list8 hJ3.len
 have so := fun hp1 (h : PxJ hp1 c p s d') => source_ok (own := false) hp1 p c d' s .ns n h.obj
 have gx : ∀ hp1, PxJ hp1 c p s d' -> hget hp1 p = some ⟨27, false, [[.it .i64 c.bud, .fl .f64 c.sh, .it .i64 c.st, .it .i64 c.wn, .it .i64 c.ls, .it .i64 c.tr, .it .i64 c.ups, y0, y1, y2, y3, y4, y5, y6, y7, .np, .np, .np, .np, .np, .np, .np, .np, .pt s 0 0, .it .i64 0, .ns, .ns]]⟩ := fun hp1 h => by
  rw [h.obj, hy]; rfl
 have sm : ∀ hp1, PxJ hp1 c p s d' -> PxJ (hset hp1 p (some ⟨27, false, [[.it .i64 c.bud, .fl .f64 c.sh, .it .i64 c.st, .it .i64 c.wn, .it .i64 c.ls, .it .i64 c.tr, .it .i64 c.ups, y0, y1, y2, y3, y4, y5, y6, y7, .np, .np, .np, .np, .np, .np, .np, .np, .pt s 0 0, .it .i64 0, .ns, .ns]]⟩)) c p s d' := fun hp1 h => by
  have q := h.same
  rw [hy] at q ⊢
  exact q
 have hc0 := fun i => hJ3.cells i
 rw [hy] at hc0
 have l0 : isLp y0 = false := (hc0 0).1
 have l1 : isLp y1 = false := (hc0 1).1
 have l2 : isLp y2 = false := (hc0 2).1
 have l3 : isLp y3 = false := (hc0 3).1
 have l4 : isLp y4 = false := (hc0 4).1
 have l5 : isLp y5 = false := (hc0 5).1
 have l6 : isLp y6 = false := (hc0 6).1
 have l7 : isLp y7 = false := (hc0 7).1
 clear hc0
 rcases cc with e | ⟨m, kk, hm, em, e⟩
 ·rw [e] at cl
  have s3 := so hp3 hJ3
  have g3 := gx hp3 hJ3
  have hlim3 := hJ3.lim
  by_cases h4 : k = 4
  ·have z4 : ieq k (Int.ofNat 4) = true := by rw [ieqD]; exact decide_eq_true h4
   repeat (first | refine EvQ.run ?_ | refine EvQ.fin X.rs ?_ | refine EvQ.fin1 (fun _ => rfl) rfl ?_)
   refine EvQ_callU rfl X.al (fun _ => rfl) cl ?_
   rintro _ _ ⟨rfl, q⟩
   rw [q]
   repeat (first | refine EvQ.run ?_ | refine EvQ.fin X.rs ?_ | refine EvQ.fin1 (fun _ => rfl) rfl ?_)
   refine EvQ_callU rfl X.al (fun _ => rfl) s3 ?_
   rintro _ _ ⟨rfl, q⟩
   rw [q]
   repeat (first | refine EvQ.run ?_ | refine EvQ.fin X.rs ?_ | refine EvQ.fin1 (fun _ => rfl) rfl ?_)
   exact ⟨_, _, rfl, .ns, by rw [<- ht]; rfl, ⟨rfl, rfl, rfl⟩, d', sm hp3 hJ3, hx⟩
  ·have z4 : ieq k (Int.ofNat 4) = false := by rw [ieqD]; exact decide_eq_false h4
   repeat (first | refine EvQ.run ?_ | refine EvQ.fin X.rs ?_ | refine EvQ.fin1 (fun _ => rfl) rfl ?_)
   refine EvQ_callU rfl X.al (fun _ => rfl) cl ?_
   rintro _ _ ⟨rfl, q⟩
   rw [q]
   repeat (first | refine EvQ.run ?_ | refine EvQ.fin X.rs ?_ | refine EvQ.fin1 (fun _ => rfl) rfl ?_)
   refine EvQ_callU rfl X.al (fun _ => rfl) s3 ?_
   rintro _ _ ⟨rfl, q⟩
   rw [q]
   repeat (first | refine EvQ.run ?_ | refine EvQ.fin X.rs ?_ | refine EvQ.fin1 (fun _ => rfl) rfl ?_)
   exact ⟨_, _, rfl, .ns, by rw [<- ht]; rfl, ⟨rfl, rfl, rfl⟩, d', sm hp3 hJ3, hx⟩
 ·rw [e] at cl
  by_cases h4 : k = 4
  ·have z4 : ieq k (Int.ofNat 4) = true := by rw [ieqD]; exact decide_eq_true h4
   obtain ⟨st, wn, ls, a, b', pv, v, o, i, qq, gk, k1, k2, ow, ql⟩ : ∃ (st wn ls : Int) (a b' pv v : V) (o i : Int) (qq : List Int), hget hp3 kk = some ⟨26, false, [cnR st wn ls a b' pv v o i]⟩ /\ kk < hp3.next /\ hp3.lim <= kk /\ Ow hp3 v 1 (bs qq) /\ qq.length <= 1000 := by
    rcases hJ3.cl m hm with q | ⟨k, st, wn, ls, a, b, p, v, o, i, q, q1, g, k1, k2, ow, ql⟩
    ·rw [em] at q; cases q
    ·rw [em] at q1; cases q1; exact ⟨st, wn, ls, a, b, p, v, o, i, q, g, k1, k2, ow, ql⟩
   have ou := out_ok (own := false) hp3 kk sz st wn ls a b' pv v o i qq gk ow ql k2 k1
   repeat (first | refine EvQ.run ?_ | refine EvQ.fin X.rs ?_ | refine EvQ.fin1 (fun _ => rfl) rfl ?_)
   refine EvQ_callU rfl X.al (fun _ => rfl) cl ?_
   rintro _ _ ⟨rfl, q⟩
   rw [q]
   repeat (first | refine EvQ.run ?_ | refine EvQ.fin X.rs ?_ | refine EvQ.fin1 (fun _ => rfl) rfl ?_)
   refine EvQ_callU rfl X.al (fun _ => rfl) ou ?_
   rintro w hp4 ⟨v', q', r, oW, oV, ql', gk', vi, wi, hn, hl, hu⟩
   have hJ4 := hJ3.out hm em gk' oV ql' hu hn hl
   have wl := oW.lp
   have wc := oW.cells
   have wk := oW.keep
   have st4 := settle_ok (own := false) hp4 p c d' s .ns hJ4.obj hJ4.lt (fun i hi => (hJ4.cl i hi).cl)
   repeat (first | refine EvQ.run ?_ | refine EvQ.fin X.rs ?_ | refine EvQ.fin1 (fun _ => rfl) rfl ?_)
   refine EvQ.call rfl X.al st4 ?_
   rintro _ hp5 ⟨rfl, u5⟩
   have hJ5 := hJ4.up u5
   have s5 := so hp5 hJ5
   have g5 := gx hp5 hJ5
   have hlim5 := hJ5.lim
   repeat (first | refine EvQ.run ?_ | refine EvQ.fin X.rs ?_ | refine EvQ.fin1 (fun _ => rfl) rfl ?_)
   refine EvQ_callU rfl X.al (fun _ => rfl) s5 ?_
   rintro _ _ ⟨rfl, q⟩
   rw [q]
   repeat (first | refine EvQ.run ?_ | refine EvQ.fin X.rs ?_ | refine EvQ.fin1 (fun _ => rfl) rfl ?_)
   exact ⟨_, _, rfl, w, by rw [<- ht]; rfl, ⟨wl, wc, wk⟩, d', sm hp5 hJ5, hx⟩
  ·have z4 : ieq k (Int.ofNat 4) = false := by rw [ieqD]; exact decide_eq_false h4
   have s3 := so hp3 hJ3
   have g3 := gx hp3 hJ3
   have hlim3 := hJ3.lim
   repeat (first | refine EvQ.run ?_ | refine EvQ.fin X.rs ?_ | refine EvQ.fin1 (fun _ => rfl) rfl ?_)
   refine EvQ_callU rfl X.al (fun _ => rfl) cl ?_
   rintro _ _ ⟨rfl, q⟩
   rw [q]
   repeat (first | refine EvQ.run ?_ | refine EvQ.fin X.rs ?_ | refine EvQ.fin1 (fun _ => rfl) rfl ?_)
   refine EvQ_callU rfl X.al (fun _ => rfl) s3 ?_
   rintro _ _ ⟨rfl, q⟩
   rw [q]
   repeat (first | refine EvQ.run ?_ | refine EvQ.fin X.rs ?_ | refine EvQ.fin1 (fun _ => rfl) rfl ?_)
   exact ⟨_, _, rfl, .ns, by rw [<- ht]; rfl, ⟨rfl, rfl, rfl⟩, d', sm hp3 hJ3, hx⟩
def isl (l : List Int) : List (List V) := l.map fun n => [.it .i64 n]
theorem isl_length (l : List Int) : (isl l).length = l.length := by simp [isl]
theorem isl_append (a : List Int) (n : Int) : isl a ++ [[.it .i64 n]] = isl (a ++ [n]) := by simp [isl]
theorem isl_getD {l : List Int} {i : Nat} (h : i < l.length) : (isl l).getD i [] = [.it .i64 (l.getD i 0)] := by simp [isl, List.getD, h]
theorem waitc_ok {own : Bool} (hp : Hp) (k : Nat) (st wn ls : Int) (a b p v : V) (o i : Int) (q : List Int) (hg : hget hp k = some ⟨26, false, [cnR st wn ls a b p v o i]⟩) (hO : Ow hp v 1 (bs q)) :
  ∃ w hp', EvC Fq own 26 [.pt k 0 0] hp (.ret w hp') /\ (w = .it .i64 (Int.ofNat q.length) /\ hp' = hp) := by
 unfold cnR at hg
 have al := hO.lp
 have ac := hO.cells
 have an := hO.len
 rw [bs_length] at an
 refine EvC.ofQ d26 rfl rfl rfl ?_
 repeat (first | refine EvQ.run ?_ | refine EvQ.fin X.rs ?_ | refine EvQ.fin1 (fun _ => rfl) rfl ?_)
 exact ⟨_, _, rfl, rfl, rfl⟩
structure WJ (hp0 hp : Hp) (v : V) (l : List Int) (i : Nat) (xs : List V) : Prop where
 ow : Ow hp v 1 (isl l)
 len : l.length = i
 tells : ∀ j, j < i -> ilt (l.getD j 0) (Int.ofNat 0) = !isT (xs.getD j .np)
 up : Up hp0.next hp0 hp
 id : ∀ id, idOf v = some id -> hp0.next <= id
theorem WJ.more {hp0 hp : Hp} {v : V} {l : List Int} {i : Nat} {xs : List V} (h : WJ hp0 hp v l i xs) (hl : hp0.lim <= hp0.next) (n : Int) (hn : ilt n (Int.ofNat 0) = !isT (xs.getD i .np)) :
  WJ hp0 (oah hp v 1 (isl l ++ [[.it .i64 n]])) (.hs hp.next 0 ((isl l).length + 1)) (l ++ [n]) (i + 1) xs := by
 have h1 := h.up.next
 have h2 := h.up.lim
 refine ⟨?_, by rw [List.length_append, h.len]; rfl, fun j hj => ?_, h.up.oah h1 h.id, fun id q => by cases q; omega⟩
 ·have := h.ow.put (new := [[.it .i64 n]]) (by omega)
  rw [isl_append] at this
  rw [isl_append]; exact this
 ·by_cases e : j < i
  ·rw [List.getD_eq_getElem?_getD, List.getElem?_append_left (by rw [h.len]; exact e), <- List.getD_eq_getElem?_getD]
   exact h.tells j e
  ·obtain rfl : j = i := by omega
   rw [List.getD_eq_getElem?_getD, List.getElem?_append_right (by rw [h.len]; omega), h.len, Nat.sub_self]
   exact hn
theorem ilt_nn (n : Nat) : ilt (Int.ofNat n) (Int.ofNat 0) = false := il0 (by simp only [Int.ofNat_eq_natCast]; omega)
theorem wait_loop1 (hp0 : Hp) (pv : V) (x0 x1 x2 x3 x4 x5 x6 x7 : V) (h0 : ClQ hp0 x0) (h1 : ClQ hp0 x1) (h2 : ClQ hp0 x2) (h3 : ClQ hp0 x3) (h4 : ClQ hp0 x4) (h5 : ClQ hp0 x5) (h6 : ClQ hp0 x6) (h7 : ClQ hp0 x7) (hlm : hp0.lim <= hp0.next) (hpv : isLp pv = false)
  (lo : Lo) (hlo : shed [] lo = fun _ => none) (tm : Tm) (hk : [0, 2, 3, 13, 14].map (fun x => (x, tm x)) = [(0, pv), (2, .ns), (3, .ns), (13, .ag [x0, x1, x2, x3, x4, x5, x6, x7]), (14, .it .i64 (Int.ofNat 0))]) :
  ∃ r, EvL Fq [0, 2, 3, 13, 14] [] (lpB (d8.body.lps.getD 0 .skip)) ⟨tm, lo, hp0⟩ r /\ ∃ v, XtQ 0 [(0, pv), (2, v), (3, .ns)] (fun lo hp => lo = (fun _ => none) /\ ∃ l, WJ hp0 hp v l 8 [x0, x1, x2, x3, x4, x5, x6, x7]) r := by
 refine EvL.invQ (S := Nat × V) (fun y => [(0, pv), (2, y.2), (3, .ns), (13, .ag [x0, x1, x2, x3, x4, x5, x6, x7]), (14, .it .i64 (Int.ofNat y.1))]) (fun y lo hp => shed [] lo = (fun _ => none) /\ y.1 <= 8 /\ ∃ l, WJ hp0 hp y.2 l y.1 [x0, x1, x2, x3, x4, x5, x6, x7]) (fun y => 8 - y.1) _ ?_ (0, .ns) tm lo hp0 ⟨hlo, Nat.zero_le _, [], ⟨.ns, rfl, (by intro _ h; omega), .refl _ _, (by intro _ h; cases h)⟩⟩ hk
 intro ⟨i, v⟩ lo hp ⟨e1, e2, l, hW⟩
 simp only at e1 e2 hW
 rw [e1]
 have vl := hW.ow.lp
 have vc := hW.ow.cells
 have vk := hW.ow.keep
 have vn := hW.ow.len
 rw [isl_length, hW.len] at vn
 have q0 := (h0.up hW.up).cl.lp
 have q1 := (h1.up hW.up).cl.lp
 have q2 := (h2.up hW.up).cl.lp
 have q3 := (h3.up hW.up).cl.lp
 have q4 := (h4.up hW.up).cl.lp
 have q5 := (h5.up hW.up).cl.lp
 have q6 := (h6.up hW.up).cl.lp
 have q7 := (h7.up hW.up).cl.lp
 have h9 : i = 0 \/ i = 1 \/ i = 2 \/ i = 3 \/ i = 4 \/ i = 5 \/ i = 6 \/ i = 7 \/ i = 8 := by omega
 have hc : i < 8 -> ClQ hp ([x0, x1, x2, x3, x4, x5, x6, x7].getD i .np) := fun _ => by
  rcases h9 with rfl | rfl | rfl | rfl | rfl | rfl | rfl | rfl | rfl
  ·exact h0.up hW.up
  ·exact h1.up hW.up
  ·exact h2.up hW.up
  ·exact h3.up hW.up
  ·exact h4.up hW.up
  ·exact h5.up hW.up
  ·exact h6.up hW.up
  ·exact h7.up hW.up
  ·omega
 clear h0 h1 h2 h3 h4 h5 h6 h7
 rcases h9 with rfl | rfl | rfl | rfl | rfl | rfl | rfl | rfl | rfl
 iterate 8
  ·rcases hc (by omega) with e | ⟨k, st, wn, ls, a, b', pp, v', o, ii, q, e, g, k1, k2, ow', ql⟩
   ·simp only [List.getD_cons_zero, List.getD_cons_succ] at e
    subst e
    repeat (first | refine EvQ.run ?_ | refine EvQ.fin X.rs ?_ | refine EvQ.fin1 (fun _ => rfl) rfl ?_)
    refine EvQ.lift (fun _ zn => X.apo (hp := hp) (v := v) (rows := isl l) (new := [[.it .i64 (-1)]]) rfl rfl hW.ow (Sl.els Sl.vs) (List.cons_ne_nil _ _) (fun _ => rfl) (by rw [isl_length, hW.len]; exact Nat.le_of_ble_eq_true rfl) zn) ?_
    repeat (first | refine EvQ.run ?_ | refine EvQ.fin X.rs ?_ | refine EvQ.fin1 (fun _ => rfl) rfl ?_)
    exact EvQ.go (S := Nat × V) (_, _) X.kv ⟨X.lo, Nat.le_of_ble_eq_true rfl, _, hW.more hlm (-1) rfl⟩ (Nat.le_of_ble_eq_true rfl)
   ·simp only [List.getD_cons_zero, List.getD_cons_succ] at e
    subst e
    repeat (first | refine EvQ.run ?_ | refine EvQ.fin X.rs ?_ | refine EvQ.fin1 (fun _ => rfl) rfl ?_)
    refine EvQ.call rfl X.al (waitc_ok (own := false) hp k st wn ls a b' pp v' o ii q g ow') ?_
    rintro _ _ ⟨rfl, qe⟩
    rw [qe]
    repeat (first | refine EvQ.run ?_ | refine EvQ.fin X.rs ?_ | refine EvQ.fin1 (fun _ => rfl) rfl ?_)
    refine EvQ.lift (fun _ zn => X.apo (hp := hp) (v := v) (rows := isl l) (new := [[.it .i64 (Int.ofNat q.length)]]) rfl rfl hW.ow (Sl.els Sl.vs) (List.cons_ne_nil _ _) (fun _ => rfl) (by rw [isl_length, hW.len]; exact Nat.le_of_ble_eq_true rfl) zn) ?_
    repeat (first | refine EvQ.run ?_ | refine EvQ.fin X.rs ?_ | refine EvQ.fin1 (fun _ => rfl) rfl ?_)
    exact EvQ.go (S := Nat × V) (_, _) X.kv ⟨X.lo, Nat.le_of_ble_eq_true rfl, _, hW.more hlm (Int.ofNat q.length) (ilt_nn _)⟩ (Nat.le_of_ble_eq_true rfl)
 ·repeat (first | refine EvQ.run ?_ | refine EvQ.fin X.rs ?_ | refine EvQ.fin1 (fun _ => rfl) rfl ?_)
  exact EvQ.xt ⟨v, .mk' X.kv ⟨rfl, l, hW⟩⟩
theorem wait_loop2 (hp0 : Hp) (v1 : V) (hv1 : isLp v1 = false) (hc1 : v1.cells = [v1]) (hlm : hp0.lim <= hp0.next)
  (lo : Lo) (hlo : shed [] lo = fun _ => none) (tm : Tm) (hk : [2, 3, 29, 30].map (fun x => (x, tm x)) = [(2, v1), (3, .ns), (29, .ag [.np, .np, .np, .np, .np, .np, .np, .np]), (30, .it .i64 (Int.ofNat 0))]) :
  ∃ r, EvL Fq [2, 3, 29, 30] [] (lpB (d8.body.lps.getD 1 .skip)) ⟨tm, lo, hp0⟩ r /\ ∃ v, XtQ 2 [(2, v1), (3, v)] (fun lo hp => lo = (fun _ => none) /\ ∃ l, WJ hp0 hp v l 8 []) r := by
 refine EvL.invQ (S := Nat × V) (fun y => [(2, v1), (3, y.2), (29, .ag [.np, .np, .np, .np, .np, .np, .np, .np]), (30, .it .i64 (Int.ofNat y.1))]) (fun y lo hp => shed [] lo = (fun _ => none) /\ y.1 <= 8 /\ ∃ l, WJ hp0 hp y.2 l y.1 []) (fun y => 8 - y.1) _ ?_ (0, .ns) tm lo hp0 ⟨hlo, Nat.zero_le _, [], ⟨.ns, rfl, (by intro _ h; omega), .refl _ _, (by intro _ h; cases h)⟩⟩ hk
 intro ⟨i, v⟩ lo hp ⟨e1, e2, l, hW⟩
 simp only at e1 e2 hW
 rw [e1]
 have vl := hW.ow.lp
 have vc := hW.ow.cells
 have vk := hW.ow.keep
 have vn := hW.ow.len
 rw [isl_length, hW.len] at vn
 have h9 : i = 0 \/ i = 1 \/ i = 2 \/ i = 3 \/ i = 4 \/ i = 5 \/ i = 6 \/ i = 7 \/ i = 8 := by omega
 rcases h9 with rfl | rfl | rfl | rfl | rfl | rfl | rfl | rfl | rfl
 iterate 8
  ·skip
   ·repeat (first | refine EvQ.run ?_ | refine EvQ.fin X.rs ?_ | refine EvQ.fin1 (fun _ => rfl) rfl ?_)
    refine EvQ.lift (fun _ zn => X.apo (hp := hp) (v := v) (rows := isl l) (new := [[.it .i64 (-1)]]) rfl rfl hW.ow (Sl.els Sl.vs) (List.cons_ne_nil _ _) (fun _ => rfl) (by rw [isl_length, hW.len]; exact Nat.le_of_ble_eq_true rfl) zn) ?_
    repeat (first | refine EvQ.run ?_ | refine EvQ.fin X.rs ?_ | refine EvQ.fin1 (fun _ => rfl) rfl ?_)
    exact EvQ.go (S := Nat × V) (_, _) X.kv ⟨X.lo, Nat.le_of_ble_eq_true rfl, _, hW.more hlm (-1) rfl⟩ (Nat.le_of_ble_eq_true rfl)
 ·repeat (first | refine EvQ.run ?_ | refine EvQ.fin X.rs ?_ | refine EvQ.fin1 (fun _ => rfl) rfl ?_)
  exact EvQ.xt ⟨v, .mk' X.kv ⟨rfl, l, hW⟩⟩
theorem waiting_ok {own : Bool} {hp : Hp} {c : Cfg} {p s : Nat} {d : List V} (hJ : PxJ hp c p s d) :
  ∃ w hp', EvC Fq own 8 [.pt p 0 0] hp (.ret w hp') /\ ∃ v1 v2 l, w = .tu [v1, v2] /\ Ow hp' v1 1 (isl l) /\ l.length = 8 /\ (∀ j, j < 8 -> ilt (l.getD j 0) (Int.ofNat 0) = !isT (d.getD j .np)) /\ isLp v2 = false /\ Up hp.next hp hp' := by
 obtain ⟨x0, x1, x2, x3, x4, x5, x6, x7, rfl⟩ := list8 hJ.len
 have g0 := hJ.obj
 unfold pxD rowCf at g0
 simp only [List.getD_cons_zero, List.getD_cons_succ, List.cons_append, List.nil_append] at g0
 have h0 : ClQ hp x0 := hJ.cl 0 (by omega)
 have h1 : ClQ hp x1 := hJ.cl 1 (by omega)
 have h2 : ClQ hp x2 := hJ.cl 2 (by omega)
 have h3 : ClQ hp x3 := hJ.cl 3 (by omega)
 have h4 : ClQ hp x4 := hJ.cl 4 (by omega)
 have h5 : ClQ hp x5 := hJ.cl 5 (by omega)
 have h6 : ClQ hp x6 := hJ.cl 6 (by omega)
 have h7 : ClQ hp x7 := hJ.cl 7 (by omega)
 have l0 := h0.cl.lp
 have l1 := h1.cl.lp
 have l2 := h2.cl.lp
 have l3 := h3.cl.lp
 have l4 := h4.cl.lp
 have l5 := h5.cl.lp
 have l6 := h6.cl.lp
 have l7 := h7.cl.lp
 have k0 := h0.cl.cells
 have k1 := h1.cl.cells
 have k2 := h2.cl.cells
 have k3 := h3.cl.cells
 have k4 := h4.cl.cells
 have k5 := h5.cl.cells
 have k6 := h6.cl.cells
 have k7 := h7.cl.cells
 have hlm : hp.lim <= hp.next := by have := hJ.lim; have := hJ.lt; omega
 refine EvC.ofQ d8 rfl rfl rfl ?_
 repeat (first | refine EvQ.run ?_ | refine EvQ.fin X.rs ?_ | refine EvQ.fin1 (fun _ => rfl) rfl ?_)
 refine EvQ.loop (wait_loop1 hp (.pt p 0 0) x0 x1 x2 x3 x4 x5 x6 x7 h0 h1 h2 h3 h4 h5 h6 h7 hlm rfl _ ?_ _ ?_) ?_
 ·exact X.lo
 ·exact X.kv
 rintro _ ⟨v1, tm, lo, hp1, rfl, rfl, l, hW⟩
 have g1 := (hW.up.get p hJ.lt).trans g0
 have vl := hW.ow.lp
 have vc := hW.ow.cells
 have vk := hW.ow.keep
 have n1 := hW.up.next
 have m1 := hW.up.lim
 repeat (first | refine EvQ.run ?_ | refine EvQ.fin X.rs ?_ | refine EvQ.fin1 (fun _ => rfl) rfl ?_)
 refine EvQ.loop (wait_loop2 hp1 v1 vl vc (by omega) _ ?_ _ ?_) ?_
 ·exact X.lo
 ·exact X.kv
 rintro _ ⟨v2, tm, lo, hp2, rfl, rfl, l2, hW2⟩
 have vl2 := hW2.ow.lp
 have vc2 := hW2.ow.cells
 have vk2 := hW2.ow.keep
 repeat (first | refine EvQ.run ?_ | refine EvQ.fin X.rs ?_ | refine EvQ.fin1 (fun _ => rfl) rfl ?_)
 exact ⟨_, _, rfl, v1, v2, l, rfl, hW.ow.up hW2.up hW.ow.lt, hW.len, hW.tells, vl2, hW.up.trans (hW2.up.mono n1)⟩
end Go.Proofs.YtfnoiklmcmboeaaGreatDoor.cnw
