import Derived.Test.YtfnoiklmcmboeaaGreatDoorEvE
import Derived.Test.YtfnoiklmcmboeaaGreatDoorLawB
set_option linter.unusedVariables false
set_option linter.unusedSimpArgs false
set_option linter.unusedSectionVars false
set_option maxHeartbeats 640000000
namespace Go.Proofs.YtfnoiklmcmboeaaGreatDoor.cnw
open Go hiding Fn
open Ev tab
attribute [local irreducible] C.run EvC EvD EvL EvO EvP bK evGds evLs fK gK lpB pK sK stat stepD
theorem open_out {own : Bool} (hp : Hp) (p : Nat) (n : Int) (h : ¬ (0 <= n /\ n < 8)) : ∃ w hp', EvC Fq own 59 [.pt p 0 0, .it .i64 n] hp (.ret w hp') /\ (w = .bo false /\ hp' = hp) := by
 refine EvC.ofQ d59 rfl rfl rfl ?_
 by_cases h0 : n < 0
 ·have q1 : ilt n (Int.ofNat 0) = true := il1 h0
  repeat (first | refine EvQ.run ?_ | refine EvQ.fin X.rs ?_ | refine EvQ.fin1 (fun _ => rfl) rfl ?_)
  exact ⟨_, _, rfl, rfl, rfl⟩
 ·have q1 : ilt n (Int.ofNat 0) = false := il0 h0
  have q2 : ilt n (Int.ofNat 8) = false := il0 (by show ¬ n < 8; omega)
  repeat' (first | refine EvQ.run ?_ | (refine EvQ.pickB rfl rfl rfl ?_) | (refine EvQ.cond rfl (fun h => ?_) (fun h => ?_) <;> ((first | replace h := X.nm h | skip); try have hne := ne_len h)) | (refine EvQ.g1 rfl (fun h => ?_) (fun h => ?_) <;> ((first | replace h := X.nm h | skip); try have hne := ne_len h)) | (refine EvQ.pick rfl (fun _ => rfl) (fun _ => rfl) (fun h => ?_) (fun h => ?_) <;> ((first | replace h := X.nm h | skip); try have hne := ne_len h)) | refine EvQ.fin X.rs ?_ | refine EvQ.fin1 (fun _ => rfl) rfl ?_)
  all_goals exact ⟨_, _, rfl, rfl, rfl⟩
theorem set_getD {d : List V} {i j : Nat} {y : V} (h : i < d.length) : (d.set i y).getD j .np = if i = j then y else d.getD j .np := by
 simp only [List.getD_eq_getElem?_getD, List.getElem?_set]
 by_cases e : i = j
 ·subst e; simp [h]
 ·simp [e]
def Opn (hp : Hp) (p : Nat) (c : Cfg) (d : List V) (s : Nat) (t : V) (n : Nat) (w : V) (hp' : Hp) : Prop := ∃ (r u pk : Nat) (v : V) (q : List Int), w = .bo true /\ hget hp' p = some ⟨27, false, [pxD c (d.set n (.pt hp.next 0 0)) s t]⟩ /\
   hget hp' hp.next = some ⟨26, false, [cnR c.st c.wn c.ls (.pt r 0 0) (.pt u 0 0) (.pt pk 0 0) v 65535 65535]⟩ /\ Ow hp' v 1 (bs q) /\ q.length <= 1000 /\ (∀ id, idOf v = some id -> hp.next < id) /\ hp.next < hp'.next /\ hp'.lim = hp.lim /\ ∀ j, j < hp.next -> j ≠ p -> hget hp' j = hget hp j
theorem list8 {d : List V} (h : d.length = 8) : ∃ x0 x1 x2 x3 x4 x5 x6 x7, d = [x0, x1, x2, x3, x4, x5, x6, x7] := by
 match d, h with
 | [x0, x1, x2, x3, x4, x5, x6, x7], _ => exact ⟨x0, x1, x2, x3, x4, x5, x6, x7, rfl⟩
theorem open_all {own : Bool} (hp : Hp) (p : Nat) (c : Cfg) (d : List V) (s : Nat) (t : V) (hok : okC c.st c.wn c.ls) (hlim : hp.lim <= p) (hlt : p < hp.next) (hg : hget hp p = some ⟨27, false, [pxD c d s t]⟩) (hl : d.length = 8) (hd : ∀ i, i < 8 -> Cl hp (d.getD i .np)) (m : Nat) (hm : m < 8) (h : d.getD m .np = .np) :
  ∃ w hp', EvC Fq own 59 [.pt p 0 0, .it .i64 (Int.ofNat m)] hp (.ret w hp') /\ Opn hp p c d s t m w hp' := by
 obtain ⟨x0, x1, x2, x3, x4, x5, x6, x7, rfl⟩ := list8 hl
 unfold pxD rowCf at hg
 simp only [List.getD_cons_zero, List.getD_cons_succ, List.cons_append, List.nil_append] at hg
 have l0 : isLp x0 = false := (hd 0 (by omega)).lp
 have l1 : isLp x1 = false := (hd 1 (by omega)).lp
 have l2 : isLp x2 = false := (hd 2 (by omega)).lp
 have l3 : isLp x3 = false := (hd 3 (by omega)).lp
 have l4 : isLp x4 = false := (hd 4 (by omega)).lp
 have l5 : isLp x5 = false := (hd 5 (by omega)).lp
 have l6 : isLp x6 = false := (hd 6 (by omega)).lp
 have l7 : isLp x7 = false := (hd 7 (by omega)).lp
 clear hd
 unfold Opn
 refine EvC.ofQ d59 rfl rfl rfl ?_
 have h9 : m = 0 \/ m = 1 \/ m = 2 \/ m = 3 \/ m = 4 \/ m = 5 \/ m = 6 \/ m = 7 := by omega
 rcases h9 with rfl | rfl | rfl | rfl | rfl | rfl | rfl | rfl
 all_goals
  simp only [List.getD_cons_zero, List.getD_cons_succ] at h
  subst h
  repeat (first | refine EvQ.run ?_ | refine EvQ.fin X.rs ?_ | refine EvQ.fin1 (fun _ => rfl) rfl ?_)
  refine EvQ.call rfl X.al (cnew_ok (own := true) hp c.st c.wn c.ls hok (by omega)) ?_
  rintro _ hp2 ⟨r, u, pk, v, q, rfl, g1, o1, o2, o3, o4, o5⟩
  have g2 := (o4.get p hlt).trans hg
  have l9 : hp2.lim <= p := by rw [o4.lim]; exact hlim
  repeat (first | refine EvQ.run ?_ | refine EvQ.fin X.rs ?_ | refine EvQ.fin1 (fun _ => rfl) rfl ?_)
  refine ⟨_, _, rfl, r, u, pk, v, q, rfl, hget_set _ _ _, (hget_other (by omega)).trans g1, o1.get (Nat.le_refl _) rfl fun id e => hget_other (by have := o3 id e; omega), o2, o3, o5, o4.lim, fun j j1 j2 => (hget_other j2).trans (o4.get j j1)⟩
theorem open_there {own : Bool} (hp : Hp) (p : Nat) (c : Cfg) (d : List V) (s : Nat) (t : V) (hg : hget hp p = some ⟨27, false, [pxD c d s t]⟩) (hd : ∀ i, i < 8 -> Cl hp (d.getD i .np)) (m k : Nat) (h8 : m < 8) (h : d.getD m .np = .pt k 0 0) :
  ∃ w hp', EvC Fq own 59 [.pt p 0 0, .it .i64 (Int.ofNat m)] hp (.ret w hp') /\ (w = .bo false /\ hp' = hp) := by
 unfold pxD rowCf at hg
 have l0 := (hd 0 (by omega)).lp
 have l1 := (hd 1 (by omega)).lp
 have l2 := (hd 2 (by omega)).lp
 have l3 := (hd 3 (by omega)).lp
 have l4 := (hd 4 (by omega)).lp
 have l5 := (hd 5 (by omega)).lp
 have l6 := (hd 6 (by omega)).lp
 have l7 := (hd 7 (by omega)).lp
 obtain ⟨st, wn, ls, a, b, pp, v, o, i, hk⟩ : ∃ (st wn ls : Int) (a b pp v : V) (o i : Int), hget hp k = some ⟨26, false, [cnR st wn ls a b pp v o i]⟩ := by
  rcases hd m h8 with e | ⟨k2, st, wn, ls, a, b, pp, v, o, i, e, q, _⟩
  ·rw [h] at e; cases e
  ·rw [h] at e; cases e; exact ⟨st, wn, ls, a, b, pp, v, o, i, q⟩
 unfold cnR at hk
 clear hd
 refine EvC.ofQ d59 rfl rfl rfl ?_
 have h9 : m = 0 \/ m = 1 \/ m = 2 \/ m = 3 \/ m = 4 \/ m = 5 \/ m = 6 \/ m = 7 := by omega
 rcases h9 with rfl | rfl | rfl | rfl | rfl | rfl | rfl | rfl
 all_goals
  rw [h] at hg
  clear h
  generalize d.getD 0 .np = x0 at *
  generalize d.getD 1 .np = x1 at *
  generalize d.getD 2 .np = x2 at *
  generalize d.getD 3 .np = x3 at *
  generalize d.getD 4 .np = x4 at *
  generalize d.getD 5 .np = x5 at *
  generalize d.getD 6 .np = x6 at *
  generalize d.getD 7 .np = x7 at *
  simp only [List.cons_append, List.nil_append] at hg
  repeat (first | refine EvQ.run ?_ | refine EvQ.fin X.rs ?_ | refine EvQ.fin1 (fun _ => rfl) rfl ?_)
  exact ⟨_, _, rfl, rfl, rfl⟩
theorem source_ok {own : Bool} (hp : Hp) (p : Nat) (c : Cfg) (d : List V) (s : Nat) (t : V) (n : Int) (hg : hget hp p = some ⟨27, false, [pxD c d s t]⟩) :
  ∃ w hp', EvC Fq own 25 [.pt p 0 0, .it .i64 n] hp (.ret w hp') /\ (w = .np /\ hp' = hp) := by
 unfold pxD rowCf at hg
 generalize d.getD 0 .np = x0, d.getD 1 .np = x1, d.getD 2 .np = x2, d.getD 3 .np = x3, d.getD 4 .np = x4, d.getD 5 .np = x5, d.getD 6 .np = x6, d.getD 7 .np = x7 at hg
 simp only [List.cons_append, List.nil_append] at hg
 refine EvC.ofQ d25 rfl rfl rfl ?_
 by_cases h0 : n < 0
 ·have q1 : ilt n (Int.ofNat 0) = true := il1 h0
  repeat (first | refine EvQ.run ?_ | refine EvQ.fin X.rs ?_ | refine EvQ.fin1 (fun _ => rfl) rfl ?_)
  exact ⟨_, _, rfl, rfl, rfl⟩
 ·obtain ⟨m, rfl⟩ : ∃ m : Nat, n = Int.ofNat m := ⟨n.toNat, by simp only [Int.ofNat_eq_natCast]; omega⟩
  have q1 : ilt (Int.ofNat m) (Int.ofNat 0) = false := il0 h0
  by_cases h8 : m < 8
  ·have h9 : m = 0 \/ m = 1 \/ m = 2 \/ m = 3 \/ m = 4 \/ m = 5 \/ m = 6 \/ m = 7 := by omega
   rcases h9 with rfl | rfl | rfl | rfl | rfl | rfl | rfl | rfl
   all_goals
    repeat (first | refine EvQ.run ?_ | refine EvQ.fin X.rs ?_ | refine EvQ.fin1 (fun _ => rfl) rfl ?_)
    exact ⟨_, _, rfl, rfl, rfl⟩
  ·repeat' (first | refine EvQ.run ?_ | (refine EvQ.pickB rfl rfl rfl ?_) | (refine EvQ.cond rfl (fun h => ?_) (fun h => ?_) <;> ((first | replace h := X.nm h | skip); try have hne := ne_len h)) | (refine EvQ.g1 rfl (fun h => ?_) (fun h => ?_) <;> ((first | replace h := X.nm h | skip); try have hne := ne_len h)) | (refine EvQ.pick rfl (fun _ => rfl) (fun _ => rfl) (fun h => ?_) (fun h => ?_) <;> ((first | replace h := X.nm h | skip); try have hne := ne_len h)) | refine EvQ.fin X.rs ?_ | refine EvQ.fin1 (fun _ => rfl) rfl ?_)
   all_goals exact ⟨_, _, rfl, rfl, rfl⟩
attribute [local irreducible] hp9
def ClQ (hp : Hp) (x : V) : Prop := x = .np \/ ∃ (k : Nat) (st wn ls : Int) (a b p v : V) (o i : Int) (q : List Int), x = .pt k 0 0 /\ hget hp k = some ⟨26, false, [cnR st wn ls a b p v o i]⟩ /\ k < hp.next /\ hp.lim <= k /\ Ow hp v 1 (bs q) /\ q.length <= 1000
theorem ClQ.cl {hp : Hp} {x : V} (h : ClQ hp x) : Cl hp x := by
 rcases h with rfl | ⟨k, st, wn, ls, a, b, p, v, o, i, q, rfl, g, k1, k2, ow, ql⟩
 ·exact .inl rfl
 ·exact .inr ⟨k, st, wn, ls, a, b, p, v, o, i, rfl, g, k1⟩
theorem ClQ.other {hp hp' : Hp} {x : V} {m : Nat} {b : Bk} (h : ClQ hp x) (hx : x ≠ .pt m 0 0) (hm : hget hp m = some b) (hb : b.sz ≠ 1) (hu : ∀ j, j < hp.next -> j ≠ m -> hget hp' j = hget hp j) (hn : hp.next <= hp'.next) (hl : hp'.lim = hp.lim) : ClQ hp' x := by
 rcases h with rfl | ⟨k, st, wn, ls, a, b', p, v, o, i, q, rfl, g, k1, k2, ow, ql⟩
 ·exact .inl rfl
 ·refine .inr ⟨k, st, wn, ls, a, b', p, v, o, i, q, rfl, (hu k k1 (fun e => hx (by rw [e]))).trans g, by omega, by omega, ow.get hn hl (fun id e => hu id (ow.lt _ e) ?_), ql⟩
  rintro rfl
  rcases ow with ⟨rfl, _⟩ | ⟨id2, rfl, _, _, q3⟩
  ·cases e
  ·cases e; rw [hm] at q3; cases q3; exact hb rfl
theorem ClQ.up {hp hp' : Hp} {x : V} (h : ClQ hp x) (u : Up hp.next hp hp') : ClQ hp' x := by
 rcases h with rfl | ⟨k, st, wn, ls, a, b', p, v, o, i, q, rfl, g, k1, k2, ow, ql⟩
 ·exact .inl rfl
 ·have := u.lim; have := u.next
  exact .inr ⟨k, st, wn, ls, a, b', p, v, o, i, q, rfl, (u.get k k1).trans g, by omega, by omega, ow.get u.next u.lim (fun id e => u.get id (ow.lt _ e)), ql⟩
structure PxJ (hp : Hp) (c : Cfg) (p s : Nat) (d : List V) : Prop where
 obj : hget hp p = some ⟨27, false, [pxD c d s .ns]⟩
 lim : hp.lim <= p
 lt : p < hp.next
 len : d.length = 8
 cl : ∀ i, i < 8 -> ClQ hp (d.getD i .np)
 dist : ∀ i j k, i < 8 -> j < 8 -> d.getD i .np = .pt k 0 0 -> d.getD j .np = .pt k 0 0 -> i = j
theorem PxJ.up {hp hp' : Hp} {c : Cfg} {p s : Nat} {d : List V} (h : PxJ hp c p s d) (u : Up hp.next hp hp') : PxJ hp' c p s d := by
 have := u.lim; have := u.next; have := h.lim; have := h.lt
 exact ⟨(u.get p h.lt).trans h.obj, by omega, by omega, h.len, fun i hi => (h.cl i hi).up u, h.dist⟩
theorem PxJ.ne {hp : Hp} {c : Cfg} {p s : Nat} {d : List V} (h : PxJ hp c p s d) {i : Nat} (hi : i < 8) : d.getD i .np ≠ .pt p 0 0 := by
 intro e
 rcases h.cl i hi with q | ⟨k, st, wn, ls, a, b', pp, v, o, ii, q, q1, g, _⟩
 ·rw [e] at q; cases q
 ·rw [e] at q1; cases q1
  rw [h.obj] at g; cases g
theorem PxJ.same {hp : Hp} {c : Cfg} {p s : Nat} {d : List V} (h : PxJ hp c p s d) : PxJ (hset hp p (some ⟨27, false, [pxD c d s .ns]⟩)) c p s d :=
 ⟨hget_set _ _ _, h.lim, h.lt, h.len, fun i hi => (h.cl i hi).other (h.ne hi) h.obj (by show (27 : Nat) ≠ 1; decide) (fun j _ q => hget_other q) (Nat.le_refl _) rfl, h.dist⟩
theorem PxJ.cells {hp : Hp} {c : Cfg} {p s : Nat} {d : List V} (h : PxJ hp c p s d) (i : Nat) : isLp (d.getD i .np) = false /\ (d.getD i .np).cells = [d.getD i .np] := by
 by_cases hi : i < 8
 ·exact ⟨(h.cl i hi).cl.lp, (h.cl i hi).cl.cells⟩
 ·have : d.getD i .np = .np := by rw [List.getD, List.getElem?_eq_none (by have := h.len; omega)]; rfl
  rw [this]; exact ⟨rfl, rfl⟩
theorem PxJ.shut {hp hp' : Hp} {c : Cfg} {p s : Nat} {d : List V} (h : PxJ hp c p s d) (m : Nat) (g : hget hp' p = some ⟨27, false, [pxD c (d.set m .np) s .ns]⟩) (hu : ∀ j, j < hp.next -> j ≠ p -> hget hp' j = hget hp j) (hn : hp.next <= hp'.next) (hl : hp'.lim = hp.lim) : PxJ hp' c p s (d.set m .np) := by
 have h1 := h.lim; have h2 := h.lt
 have gd : ∀ j, (d.set m .np).getD j .np = if m = j /\ m < d.length then .np else d.getD j .np := fun j => by
  simp only [List.getD_eq_getElem?_getD, List.getElem?_set]
  by_cases e : m = j
  ·subst e
   by_cases q : m < d.length
   ·simp [q]
   ·simp [q]
  ·simp [e]
 refine ⟨g, by omega, by omega, by rw [List.length_set]; exact h.len, fun i hi => ?_, fun i j k hi hj e1 e2 => ?_⟩
 ·rw [gd]
  split
  ·exact .inl rfl
  ·exact (h.cl i hi).other (h.ne hi) h.obj (by show (27 : Nat) ≠ 1; decide) hu hn hl
 ·rw [gd] at e1 e2
  split at e1
  ·cases e1
  ·split at e2
   ·cases e2
   ·exact h.dist i j k hi hj e1 e2
theorem PxJ.come {hp hp' : Hp} {c : Cfg} {p s : Nat} {d : List V} (h : PxJ hp c p s d) (m : Nat) (hm : m < 8) {w : V} (ho : Opn hp p c d s .ns m w hp') : PxJ hp' c p s (d.set m (.pt hp.next 0 0)) := by
 obtain ⟨r, u, pk, v, q, -, g1, g2, ow, ql, vi, hn, hl, hu⟩ := ho
 have h1 := h.lim; have h2 := h.lt; have h3 := h.len
 have gd : ∀ j, (d.set m (.pt hp.next 0 0)).getD j .np = if m = j then .pt hp.next 0 0 else d.getD j .np := fun j => set_getD (by omega)
 have old : ∀ i, i < 8 -> d.getD i .np ≠ .pt hp.next 0 0 := fun i hi e => by
  rcases h.cl i hi with q | ⟨k, _, _, _, _, _, _, _, _, _, _, q1, _, q2, _⟩
  ·rw [e] at q; cases q
  ·rw [e] at q1; cases q1; omega
 refine ⟨g1, by omega, by omega, by rw [List.length_set]; exact h3, fun i hi => ?_, fun i j k hi hj e1 e2 => ?_⟩
 ·rw [gd]
  split
  ·exact .inr ⟨hp.next, _, _, _, _, _, _, v, _, _, q, rfl, g2, hn, by omega, ow, ql⟩
  ·exact (h.cl i hi).other (h.ne hi) h.obj (by show (27 : Nat) ≠ 1; decide) hu (by omega) hl
 ·rw [gd] at e1 e2
  split at e1
  ·cases e1
   split at e2
   ·omega
   ·exact absurd e2 (old j hj)
  ·split at e2
   ·cases e2; exact absurd e1 (old i hi)
   ·exact h.dist i j k hi hj e1 e2
theorem PxJ.out {hp hp' : Hp} {c : Cfg} {p s : Nat} {d : List V} (h : PxJ hp c p s d) {m kk : Nat} (hm : m < 8) (e : d.getD m .np = .pt kk 0 0) {st wn ls : Int} {a b pp v : V} {o i : Int} {q : List Int} (g : hget hp' kk = some ⟨26, false, [cnR st wn ls a b pp v o i]⟩)
  (ow : Ow hp' v 1 (bs q)) (ql : q.length <= 1000) (hu : ∀ j, j < hp.next -> j ≠ kk -> hget hp' j = hget hp j) (hn : hp.next <= hp'.next) (hl : hp'.lim = hp.lim) : PxJ hp' c p s d := by
 have h1 := h.lim; have h2 := h.lt
 obtain ⟨b0, g0, hb0, k1, k2⟩ : ∃ b0, hget hp kk = some b0 /\ b0.sz = 26 /\ kk < hp.next /\ hp.lim <= kk := by
  rcases h.cl m hm with q | ⟨k, st, wn, ls, a, b, p, v, o, i, q, q1, g, k1, k2, _⟩
  ·rw [e] at q; cases q
  ·rw [e] at q1; cases q1; exact ⟨_, g, rfl, k1, k2⟩
 have hne : p ≠ kk := by
  rintro rfl
  rw [h.obj] at g0; cases g0; cases hb0
 refine ⟨(hu p h2 hne).trans h.obj, by omega, by omega, h.len, fun j hj => ?_, h.dist⟩
 by_cases hx : d.getD j .np = .pt kk 0 0
 ·rw [hx]
  exact .inr ⟨kk, st, wn, ls, a, b, pp, v, o, i, q, rfl, g, by omega, by omega, ow, ql⟩
 ·exact (h.cl j hj).other hx g0 (by rw [hb0]; decide) hu hn hl
theorem loseAll_ok {own : Bool} (hp : Hp) (p : Nat) (c : Cfg) (d : List V) (s : Nat) (t : V) (n : Int) (hg : hget hp p = some ⟨27, false, [pxD c d s t]⟩) (hlt : p < hp.next) :
  ∃ w hp', EvC Fq own 63 [.pt p 0 0, .it .i64 n] hp (.ret w hp') /\ (w = .tu [] /\ Up hp.next hp hp') := by
 refine EvC.ofQ d63 rfl rfl rfl ?_
 have hg2 : hget (hnew (hnew hp ⟨1, false, [[.pt p 0 0]]⟩) ⟨1, false, [[.it .i64 n]]⟩) p = some ⟨27, false, [pxD c d s t]⟩ := (hget_old (by show p ≠ hp.next + 1; omega)).trans ((hget_old (by omega)).trans hg)
 have hg3 : hget (hnew (hnew hp ⟨1, false, [[.pt p 0 0]]⟩) ⟨1, false, [[.it .i64 n]]⟩) hp.next = some ⟨1, false, [[.pt p 0 0]]⟩ := (hget_old (by show hp.next ≠ hp.next + 1; omega)).trans (hget_new _ _)
 repeat (first | refine EvQ.run ?_ | refine EvQ.fin X.rs ?_ | refine EvQ.fin1 (fun _ => rfl) rfl ?_)
 refine EvQ.call rfl X.al (each_ok (own := false) _ p c d s t _ hg2 rfl) ?_
 rintro _ _ ⟨rfl, rfl⟩
 repeat (first | refine EvQ.run ?_ | refine EvQ.fin X.rs ?_ | refine EvQ.fin1 (fun _ => rfl) rfl ?_)
 exact ⟨_, _, rfl, rfl, (Up.new _ _ (Nat.le_refl _)).trans (Up.new _ _ (by show hp.next <= hp.next + 1; omega))⟩
def actV (k n sz : Int) (b : List (List V)) : List V := [.it .i64 k, .it .i64 n, .it .i64 sz, .vs 1 b]
theorem clients_out {own : Bool} {hp : Hp} {c : Cfg} {p s : Nat} {d : List V} (hJ : PxJ hp c p s d) (k n sz : Int) (b : List (List V)) (h : clV d n = .np) :
  ∃ w hp', EvC Fq own 60 [.pt p 0 0, .ag (actV k n sz b)] hp (.ret w hp') /\ (w = .bo false /\ hp' = hp) := by
 have cl := client_ok (own := false) hp p c d s .ns n hJ.obj (fun i => (hJ.cells i).1) (fun i => (hJ.cells i).2)
 rw [h] at cl
 refine EvC.ofQ d60 rfl rfl rfl ?_
 repeat (first | refine EvQ.run ?_ | refine EvQ.fin X.rs ?_ | refine EvQ.fin1 (fun _ => rfl) rfl ?_)
 refine EvQ_callU rfl X.al (fun _ => rfl) cl ?_
 rintro _ _ ⟨rfl, q⟩
 rw [q]
 repeat (first | refine EvQ.run ?_ | refine EvQ.fin X.rs ?_ | refine EvQ.fin1 (fun _ => rfl) rfl ?_)
 exact ⟨_, _, rfl, rfl, rfl⟩
theorem clients_room {own : Bool} {hp : Hp} {c : Cfg} {p s : Nat} {d : List V} (hJ : PxJ hp c p s d) (n sz : Int) (b : List (List V)) (kk : Nat) (h : clV d n = .pt kk 0 0) :
  ∃ w hp', EvC Fq own 60 [.pt p 0 0, .ag (actV (Int.ofNat 4) n sz b)] hp (.ret w hp') /\ (w = .bo true /\ hp' = hp) := by
 have cl := client_ok (own := false) hp p c d s .ns n hJ.obj (fun i => (hJ.cells i).1) (fun i => (hJ.cells i).2)
 rw [h] at cl
 refine EvC.ofQ d60 rfl rfl rfl ?_
 repeat (first | refine EvQ.run ?_ | refine EvQ.fin X.rs ?_ | refine EvQ.fin1 (fun _ => rfl) rfl ?_)
 refine EvQ_callU rfl X.al (fun _ => rfl) cl ?_
 rintro _ _ ⟨rfl, q⟩
 rw [q]
 repeat (first | refine EvQ.run ?_ | refine EvQ.fin X.rs ?_ | refine EvQ.fin1 (fun _ => rfl) rfl ?_)
 exact ⟨_, _, rfl, rfl, rfl⟩
theorem clV_in {d : List V} {m : Nat} (h : m < 8) : clV d (Int.ofNat m) = d.getD m .np := if_pos ⟨by simp only [Int.ofNat_eq_natCast]; omega, by simp only [Int.ofNat_eq_natCast]; omega⟩
theorem close_all {own : Bool} (hp : Hp) (p : Nat) (c : Cfg) (d : List V) (s : Nat) (sz : Int) (b : List (List V)) (hlt : p < hp.next) (hlim : hp.lim <= p) (hg : hget hp p = some ⟨27, false, [pxD c d s .ns]⟩) (hl : d.length = 8) (hc : ∀ i, isLp (d.getD i .np) = false /\ (d.getD i .np).cells = [d.getD i .np]) (m : Nat) (hm : m < 8) (kk : Nat) (h : d.getD m .np = .pt kk 0 0) :
  ∃ w hp', EvC Fq own 60 [.pt p 0 0, .ag (actV (Int.ofNat 3) (Int.ofNat m) sz b)] hp (.ret w hp') /\ (w = .bo true /\ hget hp' p = some ⟨27, false, [pxD c (d.set m .np) s .ns]⟩ /\ hp.next <= hp'.next /\ hp'.lim = hp.lim /\ ∀ j, j < hp.next -> j ≠ p -> hget hp' j = hget hp j) := by
 have cl := client_ok (own := false) hp p c d s .ns (Int.ofNat m) hg (fun i => (hc i).1) (fun i => (hc i).2)
 rw [clV_in hm, h] at cl
 obtain ⟨x0, x1, x2, x3, x4, x5, x6, x7, rfl⟩ := list8 hl
 have lo := fun hp1 g l => loseAll_ok (own := false) hp1 p c ([x0, x1, x2, x3, x4, x5, x6, x7].set m .np) s .ns (Int.ofNat m) g l
 unfold pxD rowCf at hg
 simp only [List.getD_cons_zero, List.getD_cons_succ, List.cons_append, List.nil_append] at hg
 have l0 : isLp x0 = false := (hc 0).1
 have l1 : isLp x1 = false := (hc 1).1
 have l2 : isLp x2 = false := (hc 2).1
 have l3 : isLp x3 = false := (hc 3).1
 have l4 : isLp x4 = false := (hc 4).1
 have l5 : isLp x5 = false := (hc 5).1
 have l6 : isLp x6 = false := (hc 6).1
 have l7 : isLp x7 = false := (hc 7).1
 clear hc
 refine EvC.ofQ d60 rfl rfl rfl ?_
 have h9 : m = 0 \/ m = 1 \/ m = 2 \/ m = 3 \/ m = 4 \/ m = 5 \/ m = 6 \/ m = 7 := by omega
 rcases h9 with rfl | rfl | rfl | rfl | rfl | rfl | rfl | rfl
 all_goals
  simp only [List.getD_cons_zero, List.getD_cons_succ] at h
  subst h
  repeat (first | refine EvQ.run ?_ | refine EvQ.fin X.rs ?_ | refine EvQ.fin1 (fun _ => rfl) rfl ?_)
  refine EvQ_callU rfl X.al (fun _ => rfl) cl ?_
  rintro _ _ ⟨rfl, q⟩
  rw [q]
  repeat (first | refine EvQ.run ?_ | refine EvQ.fin X.rs ?_ | refine EvQ.fin1 (fun _ => rfl) rfl ?_)
  refine EvQ_callU rfl X.al (fun _ => rfl) (lo _ (hget_set _ _ _) hlt) ?_
  rintro _ hp3 ⟨rfl, u⟩
  repeat (first | refine EvQ.run ?_ | refine EvQ.fin X.rs ?_ | refine EvQ.fin1 (fun _ => rfl) rfl ?_)
  exact ⟨_, _, rfl, rfl, (u.get p hlt).trans (hget_set _ _ _), u.next, u.lim, fun j j1 j2 => (u.get j j1).trans (hget_other j2)⟩
def isT : V -> Bool
 | .np => false
 | _ => true
def tkB (k n : Int) (d : List V) : Bool := if 0 <= n /\ n < 8 then (if k = 1 then !isT (d.getD n.toNat .np) else isT (d.getD n.toNat .np)) else false
def nxt (k n : Int) (d d' : List V) : Prop := if tkB k n d = true /\ k ≠ 4 then (if k = 1 then ∃ kk, d' = d.set n.toNat (.pt kk 0 0) else d' = d.set n.toNat .np) else d' = d
theorem act1_ok {own : Bool} {P : Bool -> Hp -> Prop} (hp : Hp) (p : Nat) (n sz : Int) (b : List (List V)) (h : ∃ w hp', EvC Fq false 59 [.pt p 0 0, .it .i64 n] hp (.ret w hp') /\ ∃ t, w = .bo t /\ P t hp') :
  ∃ w hp', EvC Fq own 21 [.pt p 0 0, .ag (actV (Int.ofNat 1) n sz b)] hp (.ret w hp') /\ ∃ t, w = .bo t /\ P t hp' := by
 refine EvC.ofQ d21 rfl rfl rfl ?_
 repeat (first | refine EvQ.run ?_ | refine EvQ.fin X.rs ?_ | refine EvQ.fin1 (fun _ => rfl) rfl ?_)
 refine EvQ_callU rfl X.al (fun _ => rfl) h ?_
 rintro _ hp' ⟨t, rfl, q⟩
 repeat (first | refine EvQ.run ?_ | refine EvQ.fin X.rs ?_ | refine EvQ.fin1 (fun _ => rfl) rfl ?_)
 exact ⟨_, _, rfl, t, rfl, q⟩
theorem act3_ok {own : Bool} {P : Bool -> Hp -> Prop} (hp : Hp) (p : Nat) (n sz : Int) (b : List (List V)) (h : ∃ w hp', EvC Fq false 60 [.pt p 0 0, .ag (actV (Int.ofNat 3) n sz b)] hp (.ret w hp') /\ ∃ t, w = .bo t /\ P t hp') :
  ∃ w hp', EvC Fq own 21 [.pt p 0 0, .ag (actV (Int.ofNat 3) n sz b)] hp (.ret w hp') /\ ∃ t, w = .bo t /\ P t hp' := by
 refine EvC.ofQ d21 rfl rfl rfl ?_
 repeat (first | refine EvQ.run ?_ | refine EvQ.fin X.rs ?_ | refine EvQ.fin1 (fun _ => rfl) rfl ?_)
 refine EvQ.call rfl X.al h ?_
 rintro _ hp' ⟨t, rfl, q⟩
 repeat (first | refine EvQ.run ?_ | refine EvQ.fin X.rs ?_ | refine EvQ.fin1 (fun _ => rfl) rfl ?_)
 exact ⟨_, _, rfl, t, rfl, q⟩
theorem act4_ok {own : Bool} {P : Bool -> Hp -> Prop} (hp : Hp) (p : Nat) (n sz : Int) (b : List (List V)) (h : ∃ w hp', EvC Fq false 60 [.pt p 0 0, .ag (actV (Int.ofNat 4) n sz b)] hp (.ret w hp') /\ ∃ t, w = .bo t /\ P t hp') :
  ∃ w hp', EvC Fq own 21 [.pt p 0 0, .ag (actV (Int.ofNat 4) n sz b)] hp (.ret w hp') /\ ∃ t, w = .bo t /\ P t hp' := by
 refine EvC.ofQ d21 rfl rfl rfl ?_
 repeat (first | refine EvQ.run ?_ | refine EvQ.fin X.rs ?_ | refine EvQ.fin1 (fun _ => rfl) rfl ?_)
 refine EvQ.call rfl X.al h ?_
 rintro _ hp' ⟨t, rfl, q⟩
 repeat (first | refine EvQ.run ?_ | refine EvQ.fin X.rs ?_ | refine EvQ.fin1 (fun _ => rfl) rfl ?_)
 exact ⟨_, _, rfl, t, rfl, q⟩
theorem in_of {n : Int} (h : 0 <= n /\ n < 8) : ∃ m : Nat, m < 8 /\ n = Int.ofNat m := ⟨n.toNat, by omega, by simp only [Int.ofNat_eq_natCast]; omega⟩
theorem tk_in {k : Int} {m : Nat} {d : List V} (h : m < 8) : tkB k (Int.ofNat m) d = if k = 1 then !isT (d.getD m .np) else isT (d.getD m .np) := if_pos ⟨by simp only [Int.ofNat_eq_natCast]; omega, by simp only [Int.ofNat_eq_natCast]; omega⟩
def Acted (c : Cfg) (p s : Nat) (d : List V) (k n : Int) (t : Bool) (hp' : Hp) : Prop := t = tkB k n d /\ ∃ d', PxJ hp' c p s d' /\ nxt k n d d'
theorem act_all {own : Bool} {hp : Hp} {c : Cfg} {p s : Nat} {d : List V} (hJ : PxJ hp c p s d) (hok : okC c.st c.wn c.ls) (k n sz : Int) (b : List (List V)) (hk : k = 1 \/ k = 3 \/ k = 4) :
  ∃ w hp', EvC Fq own 21 [.pt p 0 0, .ag (actV k n sz b)] hp (.ret w hp') /\ ∃ t, w = .bo t /\ Acted c p s d k n t hp' := by
 by_cases hn : 0 <= n /\ n < 8
 ·obtain ⟨m, hm, rfl⟩ := in_of hn
  have h8 := hJ.cl m hm
  have cin := clV_in (d := d) hm
  rcases h8 with e | ⟨kk, _, _, _, _, _, _, _, _, _, _, e, _⟩
  ·rw [e] at cin
   rcases hk with rfl | rfl | rfl
   ·have op : ∃ w hp', EvC Fq false 59 [.pt p 0 0, .it .i64 (Int.ofNat m)] hp (.ret w hp') /\ Opn hp p c d s .ns m w hp' := open_all hp p c d s .ns hok hJ.lim hJ.lt hJ.obj hJ.len (fun i hi => (hJ.cl i hi).cl) m hm e
    refine act1_ok hp p _ sz b ?_
    obtain ⟨w, hp', h1, h2⟩ := op
    have ht : tkB 1 (Int.ofNat m) d = true := by rw [tk_in hm, if_pos rfl, e]; rfl
    refine ⟨w, hp', h1, true, ?_, ht.symm, _, hJ.come m hm h2, ?_⟩
    ·obtain ⟨_, _, _, _, _, q, _⟩ := h2; exact q
    ·unfold nxt; rw [if_pos ⟨ht, by decide⟩, if_pos rfl]; exact ⟨_, rfl⟩
   ·have ht : tkB 3 (Int.ofNat m) d = false := by rw [tk_in hm, if_neg (by decide), e]; rfl
    refine act3_ok hp p _ sz b ?_
    obtain ⟨w, hp', h1, h2, h3⟩ := clients_out (own := false) hJ 3 (Int.ofNat m) sz b cin
    exact ⟨w, hp', h1, false, h2, ht.symm, d, h3 ▸ hJ, by unfold nxt; rw [if_neg (by rw [ht]; simp)]⟩
   ·have ht : tkB 4 (Int.ofNat m) d = false := by rw [tk_in hm, if_neg (by decide), e]; rfl
    refine act4_ok hp p _ sz b ?_
    obtain ⟨w, hp', h1, h2, h3⟩ := clients_out (own := false) hJ 4 (Int.ofNat m) sz b cin
    exact ⟨w, hp', h1, false, h2, ht.symm, d, h3 ▸ hJ, by unfold nxt; rw [if_neg (by rw [ht]; simp)]⟩
  ·rw [e] at cin
   rcases hk with rfl | rfl | rfl
   ·have ht : tkB 1 (Int.ofNat m) d = false := by rw [tk_in hm, if_pos rfl, e]; rfl
    refine act1_ok hp p _ sz b ?_
    obtain ⟨w, hp', h1, h2, h3⟩ := open_there (own := false) hp p c d s .ns hJ.obj (fun i hi => (hJ.cl i hi).cl) m kk hm e
    exact ⟨w, hp', h1, false, h2, ht.symm, d, h3 ▸ hJ, by unfold nxt; rw [if_neg (by rw [ht]; simp)]⟩
   ·have ht : tkB 3 (Int.ofNat m) d = true := by rw [tk_in hm, if_neg (by decide), e]; rfl
    have cl : ∃ w hp', EvC Fq false 60 [.pt p 0 0, .ag (actV (Int.ofNat 3) (Int.ofNat m) sz b)] hp (.ret w hp') /\ (w = .bo true /\ hget hp' p = some ⟨27, false, [pxD c (d.set m .np) s .ns]⟩ /\ hp.next <= hp'.next /\ hp'.lim = hp.lim /\ ∀ j, j < hp.next -> j ≠ p -> hget hp' j = hget hp j) := close_all hp p c d s sz b hJ.lt hJ.lim hJ.obj hJ.len hJ.cells m hm kk e
    refine act3_ok hp p _ sz b ?_
    obtain ⟨w, hp', h1, h2, g1, g2, g3, g4⟩ := cl
    exact ⟨w, hp', h1, true, h2, ht.symm, _, hJ.shut m g1 g4 g2 g3, by unfold nxt; rw [if_pos ⟨ht, by decide⟩, if_neg (by decide)]; rfl⟩
   ·have ht : tkB 4 (Int.ofNat m) d = true := by rw [tk_in hm, if_neg (by decide), e]; rfl
    refine act4_ok hp p _ sz b ?_
    obtain ⟨w, hp', h1, h2, h3⟩ := clients_room (own := false) hJ (Int.ofNat m) sz b kk cin
    exact ⟨w, hp', h1, true, h2, ht.symm, d, h3 ▸ hJ, by unfold nxt; rw [if_neg (by simp)]⟩
 ·have ht : ∀ k, tkB k n d = false := fun k => if_neg hn
  have nx : nxt k n d d := by unfold nxt; rw [if_neg (by rw [ht]; simp)]
  rcases hk with rfl | rfl | rfl
  ·refine act1_ok hp p _ sz b ?_
   obtain ⟨w, hp', h1, h2, h3⟩ := open_out (own := false) hp p n hn
   exact ⟨w, hp', h1, false, h2, (ht _).symm, d, h3 ▸ hJ, nx⟩
  ·refine act3_ok hp p _ sz b ?_
   obtain ⟨w, hp', h1, h2, h3⟩ := clients_out (own := false) hJ 3 n sz b (if_neg hn)
   exact ⟨w, hp', h1, false, h2, (ht _).symm, d, h3 ▸ hJ, nx⟩
  ·refine act4_ok hp p _ sz b ?_
   obtain ⟨w, hp', h1, h2, h3⟩ := clients_out (own := false) hJ 4 n sz b (if_neg hn)
   exact ⟨w, hp', h1, false, h2, (ht _).symm, d, h3 ▸ hJ, nx⟩
end Go.Proofs.YtfnoiklmcmboeaaGreatDoor.cnw
