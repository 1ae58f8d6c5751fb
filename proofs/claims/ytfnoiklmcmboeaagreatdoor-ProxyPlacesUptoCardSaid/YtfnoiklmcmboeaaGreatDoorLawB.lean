import Derived.Test.YtfnoiklmcmboeaaGreatDoorEvE
import Derived.Test.YtfnoiklmcmboeaaGreatDoorLawA
set_option linter.unusedVariables false
set_option linter.unusedSimpArgs false
set_option linter.unusedSectionVars false
set_option maxHeartbeats 640000000
namespace Go.Proofs.YtfnoiklmcmboeaaGreatDoor.cnw
open Go hiding Fn
open Ev tab
attribute [local irreducible] C.run EvC EvD EvL EvO EvP bK evGds evLs fK gK lpB pK sK stat stepD
def pxD (c : Cfg) (d : List V) (s : Nat) (t : V) : List V := rowCf c ++ [d.getD 0 .np, d.getD 1 .np, d.getD 2 .np, d.getD 3 .np, d.getD 4 .np, d.getD 5 .np, d.getD 6 .np, d.getD 7 .np, .np, .np, .np, .np, .np, .np, .np, .np, .pt s 0 0, .it .i64 0, .ns, t]
theorem clone_ns {own : Bool} (hp : Hp) : ∃ w hp', EvC Fq own 101 [.ns] hp (.ret w hp') /\ (w = .ns /\ hp' = hp) := by
 refine EvC.ofQ d101 rfl rfl rfl ?_
 repeat (first | refine EvQ.run ?_ | refine EvQ.fin X.rs ?_ | refine EvQ.fin1 (fun _ => rfl) rfl ?_)
 exact ⟨_, _, rfl, rfl, rfl⟩
theorem each_loop (hp0 : Hp) (f : V) (lo : Lo) (hlo : shed [] lo = fun _ => none) (tm : Tm)
  (hk : [1, 10, 11, 12].map (fun x => (x, tm x)) = [(1, f), (10, .ns), (11, .it .i64 (Int.ofNat 0)), (12, .it .i64 (Int.ofNat 0))]) :
  ∃ r, EvL Fq [1, 10, 11, 12] [] (lpB (d65.body.lps.getD 0 .skip)) ⟨tm, lo, hp0⟩ r /\ XtQ 0 [] (fun lo hp => lo = (fun _ => none) /\ hp = hp0) r := by
 refine EvL.invQ (S := Unit) (fun _ => [(1, f), (10, .ns), (11, .it .i64 (Int.ofNat 0)), (12, .it .i64 (Int.ofNat 0))]) (fun _ lo hp => shed [] lo = (fun _ => none) /\ hp = hp0) (fun _ => 0) _ ?_ () tm lo hp0 ⟨hlo, rfl⟩ hk
 intro i lo hp ⟨e1, e2⟩
 rw [e1]
 subst e2
 repeat (first | refine EvQ.run ?_ | refine EvQ.fin X.rs ?_ | refine EvQ.fin1 (fun _ => rfl) rfl ?_)
 exact EvQ.xt (.mk' X.kv ⟨rfl, rfl⟩)
theorem each_ok {own : Bool} (hp : Hp) (p : Nat) (c : Cfg) (d : List V) (s : Nat) (t f : V) (hg : hget hp p = some ⟨27, false, [pxD c d s t]⟩) (hf : isLp f = false) :
  ∃ w hp', EvC Fq own 65 [.pt p 0 0, f] hp (.ret w hp') /\ (w = .tu [] /\ hp' = hp) := by
 unfold pxD rowCf at hg
 generalize d.getD 0 .np = x0, d.getD 1 .np = x1, d.getD 2 .np = x2, d.getD 3 .np = x3, d.getD 4 .np = x4, d.getD 5 .np = x5, d.getD 6 .np = x6, d.getD 7 .np = x7 at hg
 simp only [List.cons_append, List.nil_append] at hg
 refine EvC.ofQ d65 rfl rfl rfl ?_
 repeat (first | refine EvQ.run ?_ | refine EvQ.fin X.rs ?_ | refine EvQ.fin1 (fun _ => rfl) rfl ?_)
 refine EvQ.call rfl X.al (clone_ns (own := false) _) ?_
 rintro _ _ ⟨rfl, rfl⟩
 repeat (first | refine EvQ.run ?_ | refine EvQ.fin X.rs ?_ | refine EvQ.fin1 (fun _ => rfl) rfl ?_)
 refine EvQ.loop (each_loop _ f _ ?_ _ ?_) ?_
 ·exact X.lo
 ·exact X.kv
 rintro _ ⟨tm, lo, hp3, rfl, rfl, rfl, rfl⟩
 repeat (first | refine EvQ.run ?_ | refine EvQ.fin X.rs ?_ | refine EvQ.fin1 (fun _ => rfl) rfl ?_)
 exact ⟨_, _, rfl, rfl, rfl⟩
def clV (d : List V) (n : Int) : V := if 0 <= n /\ n < 8 then d.getD n.toNat .np else .np
theorem client_ok {own : Bool} (hp : Hp) (p : Nat) (c : Cfg) (d : List V) (s : Nat) (t : V) (n : Int) (hg : hget hp p = some ⟨27, false, [pxD c d s t]⟩) (hd : ∀ i, isLp (d.getD i .np) = false) (hc : ∀ i, (d.getD i .np).cells = [d.getD i .np]) :
  ∃ w hp', EvC Fq own 23 [.pt p 0 0, .it .i64 n] hp (.ret w hp') /\ (w = clV d n /\ hp' = hp) := by
 unfold pxD rowCf at hg
 have l0 := hd 0
 have l1 := hd 1
 have l2 := hd 2
 have l3 := hd 3
 have l4 := hd 4
 have l5 := hd 5
 have l6 := hd 6
 have l7 := hd 7
 have e : ∀ m : Nat, m < 8 -> clV d (Int.ofNat m) = d.getD m .np := fun m h => if_pos ⟨by simp only [Int.ofNat_eq_natCast]; omega, by simp only [Int.ofNat_eq_natCast]; omega⟩
 have e0 := e 0 (by omega)
 have e1 := e 1 (by omega)
 have e2 := e 2 (by omega)
 have e3 := e 3 (by omega)
 have e4 := e 4 (by omega)
 have e5 := e 5 (by omega)
 have e6 := e 6 (by omega)
 have e7 := e 7 (by omega)
 have eo : ¬ (0 <= n /\ n < 8) -> clV d n = .np := fun h => if_neg h
 generalize d.getD 0 .np = x0, d.getD 1 .np = x1, d.getD 2 .np = x2, d.getD 3 .np = x3, d.getD 4 .np = x4, d.getD 5 .np = x5, d.getD 6 .np = x6, d.getD 7 .np = x7 at *
 simp only [List.cons_append, List.nil_append] at hg
 refine EvC.ofQ d23 rfl rfl rfl ?_
 by_cases h0 : n < 0
 ·have q1 : ilt n (Int.ofNat 0) = true := il1 h0
  rw [eo (by omega)]
  repeat (first | refine EvQ.run ?_ | refine EvQ.fin X.rs ?_ | refine EvQ.fin1 (fun _ => rfl) rfl ?_)
  exact ⟨_, _, rfl, rfl, rfl⟩
 ·obtain ⟨m, rfl⟩ : ∃ m : Nat, n = Int.ofNat m := ⟨n.toNat, by simp only [Int.ofNat_eq_natCast]; omega⟩
  have q1 : ilt (Int.ofNat m) (Int.ofNat 0) = false := il0 h0
  by_cases h8 : m < 8
  ·have h9 : m = 0 \/ m = 1 \/ m = 2 \/ m = 3 \/ m = 4 \/ m = 5 \/ m = 6 \/ m = 7 := by omega
   rcases h9 with rfl | rfl | rfl | rfl | rfl | rfl | rfl | rfl
   ·rw [e0]
    repeat (first | refine EvQ.run ?_ | refine EvQ.fin X.rs ?_ | refine EvQ.fin1 (fun _ => rfl) rfl ?_)
    exact ⟨_, _, rfl, rfl, rfl⟩
   ·rw [e1]
    repeat (first | refine EvQ.run ?_ | refine EvQ.fin X.rs ?_ | refine EvQ.fin1 (fun _ => rfl) rfl ?_)
    exact ⟨_, _, rfl, rfl, rfl⟩
   ·rw [e2]
    repeat (first | refine EvQ.run ?_ | refine EvQ.fin X.rs ?_ | refine EvQ.fin1 (fun _ => rfl) rfl ?_)
    exact ⟨_, _, rfl, rfl, rfl⟩
   ·rw [e3]
    repeat (first | refine EvQ.run ?_ | refine EvQ.fin X.rs ?_ | refine EvQ.fin1 (fun _ => rfl) rfl ?_)
    exact ⟨_, _, rfl, rfl, rfl⟩
   ·rw [e4]
    repeat (first | refine EvQ.run ?_ | refine EvQ.fin X.rs ?_ | refine EvQ.fin1 (fun _ => rfl) rfl ?_)
    exact ⟨_, _, rfl, rfl, rfl⟩
   ·rw [e5]
    repeat (first | refine EvQ.run ?_ | refine EvQ.fin X.rs ?_ | refine EvQ.fin1 (fun _ => rfl) rfl ?_)
    exact ⟨_, _, rfl, rfl, rfl⟩
   ·rw [e6]
    repeat (first | refine EvQ.run ?_ | refine EvQ.fin X.rs ?_ | refine EvQ.fin1 (fun _ => rfl) rfl ?_)
    exact ⟨_, _, rfl, rfl, rfl⟩
   ·rw [e7]
    repeat (first | refine EvQ.run ?_ | refine EvQ.fin X.rs ?_ | refine EvQ.fin1 (fun _ => rfl) rfl ?_)
    exact ⟨_, _, rfl, rfl, rfl⟩
  ·rw [eo (by simp only [Int.ofNat_eq_natCast]; omega)]
   repeat' (first | refine EvQ.run ?_ | (refine EvQ.pickB rfl rfl rfl ?_) | (refine EvQ.cond rfl (fun h => ?_) (fun h => ?_) <;> ((first | replace h := X.nm h | skip); try have hne := ne_len h)) | (refine EvQ.g1 rfl (fun h => ?_) (fun h => ?_) <;> ((first | replace h := X.nm h | skip); try have hne := ne_len h)) | (refine EvQ.pick rfl (fun _ => rfl) (fun _ => rfl) (fun h => ?_) (fun h => ?_) <;> ((first | replace h := X.nm h | skip); try have hne := ne_len h)) | refine EvQ.fin X.rs ?_ | refine EvQ.fin1 (fun _ => rfl) rfl ?_)
   all_goals exact ⟨_, _, rfl, rfl, rfl⟩
def Cl (hp : Hp) (x : V) : Prop := x = .np \/ ∃ (k : Nat) (st wn ls : Int) (a b p v : V) (o i : Int), x = .pt k 0 0 /\ hget hp k = some ⟨26, false, [cnR st wn ls a b p v o i]⟩ /\ k < hp.next
theorem settle_loop1 (hp0 : Hp) (z : V) (x0 x1 x2 x3 x4 x5 x6 x7 : V) (h0 : Cl hp0 x0) (h1 : Cl hp0 x1) (h2 : Cl hp0 x2) (h3 : Cl hp0 x3) (h4 : Cl hp0 x4) (h5 : Cl hp0 x5) (h6 : Cl hp0 x6) (h7 : Cl hp0 x7)
  (lo : Lo) (hlo : shed [] lo = fun _ => none) (tm : Tm)
  (hk : [1, 9, 10].map (fun x => (x, tm x)) = [(1, z), (9, .ag [x0, x1, x2, x3, x4, x5, x6, x7]), (10, .it .i64 (Int.ofNat 0))]) :
  ∃ r, EvL Fq [1, 9, 10] [] (lpB (d22.body.lps.getD 0 .skip)) ⟨tm, lo, hp0⟩ r /\ XtQ 0 [(1, z)] (fun lo hp => lo = (fun _ => none) /\ hp = hp0) r := by
 refine EvL.invQ (S := Nat) (fun i => [(1, z), (9, .ag [x0, x1, x2, x3, x4, x5, x6, x7]), (10, .it .i64 (Int.ofNat i))]) (fun i lo hp => shed [] lo = (fun _ => none) /\ i <= 8 /\ hp = hp0) (fun i => 8 - i) _ ?_ 0 tm lo hp0 ⟨hlo, by omega, rfl⟩ hk
 intro i lo hp ⟨e1, e2, e3⟩
 rw [e1]
 subst e3
 have h9 : i = 0 \/ i = 1 \/ i = 2 \/ i = 3 \/ i = 4 \/ i = 5 \/ i = 6 \/ i = 7 \/ i = 8 := by omega
 have hc : i < 8 -> Cl hp ([x0, x1, x2, x3, x4, x5, x6, x7].getD i .np) := fun _ => by
  rcases h9 with rfl | rfl | rfl | rfl | rfl | rfl | rfl | rfl | rfl
  ·exact h0
  ·exact h1
  ·exact h2
  ·exact h3
  ·exact h4
  ·exact h5
  ·exact h6
  ·exact h7
  ·omega
 clear h0 h1 h2 h3 h4 h5 h6 h7
 rcases h9 with rfl | rfl | rfl | rfl | rfl | rfl | rfl | rfl | rfl
 iterate 8
  ·rcases hc (by omega) with e | ⟨k, st, wn, ls, a, b, p, v, o, i, e, hg, _⟩
   ·simp only [List.getD_cons_zero, List.getD_cons_succ] at e
    subst e
    repeat (first | refine EvQ.run ?_ | refine EvQ.fin X.rs ?_ | refine EvQ.fin1 (fun _ => rfl) rfl ?_)
    exact EvQ.go _ X.kv ⟨X.lo, Nat.le_of_ble_eq_true rfl, rfl⟩ (Nat.le_of_ble_eq_true rfl)
   ·simp only [List.getD_cons_zero, List.getD_cons_succ] at e
    subst e
    repeat (first | refine EvQ.run ?_ | refine EvQ.fin X.rs ?_ | refine EvQ.fin1 (fun _ => rfl) rfl ?_)
    refine EvQ.call rfl X.al (dead_ok (own := false) _ k st wn ls a b p v o i hg) ?_
    rintro _ _ ⟨rfl, rfl⟩
    repeat (first | refine EvQ.run ?_ | refine EvQ.fin X.rs ?_ | refine EvQ.fin1 (fun _ => rfl) rfl ?_)
    exact EvQ.go _ X.kv ⟨X.lo, Nat.le_of_ble_eq_true rfl, rfl⟩ (Nat.le_of_ble_eq_true rfl)
 ·repeat (first | refine EvQ.run ?_ | refine EvQ.fin X.rs ?_ | refine EvQ.fin1 (fun _ => rfl) rfl ?_)
  exact EvQ.xt (.mk' X.kv ⟨rfl, rfl⟩)
theorem settle_loop2 (hp0 : Hp) (z : V) (lo : Lo) (hlo : shed [] lo = fun _ => none) (tm : Tm)
  (hk : [1, 27, 28].map (fun x => (x, tm x)) = [(1, z), (27, .ag [.np, .np, .np, .np, .np, .np, .np, .np]), (28, .it .i64 (Int.ofNat 0))]) :
  ∃ r, EvL Fq [1, 27, 28] [] (lpB (d22.body.lps.getD 1 .skip)) ⟨tm, lo, hp0⟩ r /\ XtQ 2 [(1, z)] (fun lo hp => lo = (fun _ => none) /\ hp = hp0) r := by
 refine EvL.invQ (S := Nat) (fun i => [(1, z), (27, .ag [.np, .np, .np, .np, .np, .np, .np, .np]), (28, .it .i64 (Int.ofNat i))]) (fun i lo hp => shed [] lo = (fun _ => none) /\ i <= 8 /\ hp = hp0) (fun i => 8 - i) _ ?_ 0 tm lo hp0 ⟨hlo, by omega, rfl⟩ hk
 intro i lo hp ⟨e1, e2, e3⟩
 rw [e1]
 subst e3
 have h9 : i = 0 \/ i = 1 \/ i = 2 \/ i = 3 \/ i = 4 \/ i = 5 \/ i = 6 \/ i = 7 \/ i = 8 := by omega
 rcases h9 with rfl | rfl | rfl | rfl | rfl | rfl | rfl | rfl | rfl
 iterate 8
  ·repeat (first | refine EvQ.run ?_ | refine EvQ.fin X.rs ?_ | refine EvQ.fin1 (fun _ => rfl) rfl ?_)
   exact EvQ.go _ X.kv ⟨X.lo, Nat.le_of_ble_eq_true rfl, rfl⟩ (Nat.le_of_ble_eq_true rfl)
 ·repeat (first | refine EvQ.run ?_ | refine EvQ.fin X.rs ?_ | refine EvQ.fin1 (fun _ => rfl) rfl ?_)
  exact EvQ.xt (.mk' X.kv ⟨rfl, rfl⟩)
theorem Cl.lp {hp : Hp} {x : V} (h : Cl hp x) : isLp x = false := by rcases h with rfl | ⟨k, _, _, _, _, _, _, _, _, _, rfl, _⟩ <;> rfl
theorem Cl.cells {hp : Hp} {x : V} (h : Cl hp x) : x.cells = [x] := by rcases h with rfl | ⟨k, _, _, _, _, _, _, _, _, _, rfl, _⟩ <;> rfl
theorem Cl.mono {hp hp' : Hp} {x : V} (h : Cl hp x) (hu : ∀ j, j < hp.next -> hget hp' j = hget hp j) (hn : hp.next <= hp'.next) : Cl hp' x := by
 rcases h with rfl | ⟨k, st, wn, ls, a, b, p, v, o, i, rfl, hg, hk⟩
 ·exact .inl rfl
 ·exact .inr ⟨k, st, wn, ls, a, b, p, v, o, i, rfl, (hu _ hk).trans hg, Nat.lt_of_lt_of_le hk hn⟩
theorem settle_ok {own : Bool} (hp : Hp) (p : Nat) (c : Cfg) (d : List V) (s : Nat) (t : V) (hg : hget hp p = some ⟨27, false, [pxD c d s t]⟩) (hlt : p < hp.next) (hd : ∀ i, i < 8 -> Cl hp (d.getD i .np)) :
  ∃ w hp', EvC Fq own 22 [.pt p 0 0] hp (.ret w hp') /\ (w = .tu [] /\ Up hp.next hp hp') := by
 have hE := hg
 unfold pxD rowCf at hg
 have h0 := hd 0 (by omega)
 have h1 := hd 1 (by omega)
 have h2 := hd 2 (by omega)
 have h3 := hd 3 (by omega)
 have h4 := hd 4 (by omega)
 have h5 := hd 5 (by omega)
 have h6 := hd 6 (by omega)
 have h7 := hd 7 (by omega)
 generalize d.getD 0 .np = x0, d.getD 1 .np = x1, d.getD 2 .np = x2, d.getD 3 .np = x3, d.getD 4 .np = x4, d.getD 5 .np = x5, d.getD 6 .np = x6, d.getD 7 .np = x7 at hg h0 h1 h2 h3 h4 h5 h6 h7
 simp only [List.cons_append, List.nil_append] at hg
 have l0 := h0.lp
 have l1 := h1.lp
 have l2 := h2.lp
 have l3 := h3.lp
 have l4 := h4.lp
 have l5 := h5.lp
 have l6 := h6.lp
 have l7 := h7.lp
 refine EvC.ofQ d22 rfl rfl rfl ?_
 have mono : ∀ (b : Bk) (x : V), Cl hp x -> Cl (hnew hp b) x := fun b x h => h.mono (fun j q => hget_old (by omega)) (Up.new hp b (Nat.le_refl _)).next
 have hE2 : ∀ b, hget (hnew hp b) p = some ⟨27, false, [pxD c d s t]⟩ := fun b => (hget_old (by omega)).trans hE
 have hg2 := fun b => (hget_old (hp := hp) (b := b) (show p ≠ hp.next by omega)).trans hg
 repeat (first | refine EvQ.run ?_ | refine EvQ.fin X.rs ?_ | refine EvQ.fin1 (fun _ => rfl) rfl ?_)
 refine EvQ.loop (settle_loop1 _ (.pt hp.next 0 0) x0 x1 x2 x3 x4 x5 x6 x7 (mono _ _ h0) (mono _ _ h1) (mono _ _ h2) (mono _ _ h3) (mono _ _ h4) (mono _ _ h5) (mono _ _ h6) (mono _ _ h7) _ ?_ _ ?_) ?_
 ·exact X.lo
 ·exact X.kv
 rintro _ ⟨tm, lo, hp3, rfl, rfl, rfl, rfl⟩
 have hg3 := hg2 ⟨1, false, [[.pt p 0 0]]⟩
 have hE3 := hE2 ⟨1, false, [[.pt p 0 0]]⟩
 have hb3 : hget (hnew hp ⟨1, false, [[.pt p 0 0]]⟩) hp.next = some ⟨1, false, [[.pt p 0 0]]⟩ := hget_new _ _
 have hu : Up hp.next hp (hnew hp ⟨1, false, [[.pt p 0 0]]⟩) := Up.new hp _ (Nat.le_refl _)
 repeat (first | refine EvQ.run ?_ | refine EvQ.fin X.rs ?_ | refine EvQ.fin1 (fun _ => rfl) rfl ?_)
 refine EvQ.loop (settle_loop2 _ (.pt hp.next 0 0) _ ?_ _ ?_) ?_
 ·exact X.lo
 ·exact X.kv
 rintro _ ⟨tm, lo, hp3, rfl, rfl, rfl, rfl⟩
 repeat (first | refine EvQ.run ?_ | refine EvQ.fin X.rs ?_ | refine EvQ.fin1 (fun _ => rfl) rfl ?_)
 refine EvQ.call rfl X.al (each_ok (own := false) _ p c d s t _ hE3 rfl) ?_
 rintro _ _ ⟨rfl, rfl⟩
 repeat (first | refine EvQ.run ?_ | refine EvQ.fin X.rs ?_ | refine EvQ.fin1 (fun _ => rfl) rfl ?_)
 refine EvQ.call rfl X.al (each_ok (own := false) _ p c d s t _ hE3 rfl) ?_
 rintro _ _ ⟨rfl, rfl⟩
 repeat (first | refine EvQ.run ?_ | refine EvQ.fin X.rs ?_ | refine EvQ.fin1 (fun _ => rfl) rfl ?_)
 refine EvQ.call rfl X.al (each_ok (own := false) _ p c d s t _ hE3 rfl) ?_
 rintro _ _ ⟨rfl, rfl⟩
 repeat (first | refine EvQ.run ?_ | refine EvQ.fin X.rs ?_ | refine EvQ.fin1 (fun _ => rfl) rfl ?_)
 exact ⟨_, _, rfl, rfl, hu⟩
end Go.Proofs.YtfnoiklmcmboeaaGreatDoor.cnw
