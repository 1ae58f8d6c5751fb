import Derived.Test.YtfnoiklmcmboeaaGreatDoorEvE
import Derived.Test.YtfnoiklmcmboeaaGreatDoorLawD
set_option linter.unusedVariables false
set_option linter.unusedSimpArgs false
set_option linter.unusedSectionVars false
set_option maxHeartbeats 640000000
namespace Go.Proofs.YtfnoiklmcmboeaaGreatDoor.cnw
open Go hiding Fn
open Ev tab
attribute [local irreducible] C.run EvC EvD EvL EvO EvP bK evGds evLs fK gK hp9 lpB pK sK stat stepD
structure ActV where
 k : Int
 n : Int
 sz : Int
 b : List (List V)
abbrev ActV.cells (a : ActV) : List V := actV a.k a.n a.sz a.b
def acts (l : List ActV) : List (List V) := l.map ActV.cells
abbrev av0 : ActV := ⟨0, 0, 0, []⟩
theorem acts_length (l : List ActV) : (acts l).length = l.length := by simp [acts]
theorem acts_getD {l : List ActV} {i : Nat} (h : i < l.length) : (acts l).getD i [] = (l.getD i av0).cells := by simp [acts, List.getD, h]
theorem acts_of {es : List (List V)} (h : ShE [.it .i64, .it .i64, .it .i64, .sl [.it .u8]] es) : ∃ l : List ActV, es = acts l /\ l.length <= sizE es := by
 induction es with
 | nil => exact ⟨[], rfl, Nat.zero_le _⟩
 | cons e es ih =>
  cases h with
  | cons a r =>
   obtain ⟨l, rfl, ih1⟩ := ih r
   obtain ⟨v1, q1, rfl, a1, a, z1⟩ := a.cons'
   obtain ⟨v2, q2, rfl, a2, a, z2⟩ := a.cons'
   obtain ⟨v3, q3, rfl, a3, a, z3⟩ := a.cons'
   obtain ⟨v4, q4, rfl, a4, a, z4⟩ := a.cons'
   cases a.nil'
   obtain ⟨k1, rfl, _⟩ := int_of a1
   obtain ⟨k2, rfl, _⟩ := int_of a2
   obtain ⟨k3, rfl, _⟩ := int_of a3
   obtain ⟨e4, rfl, h4, y4⟩ := slice_of a4
   have y1 : siz (V.it .i64 k1) = 1 := rfl
   have e5 : [TD.it IntKind.u8].length = 1 := rfl
   simp only [e5] at *
   have s1 : sizE ([V.it .i64 k1, .it .i64 k2, .it .i64 k3, .vs 1 e4] :: acts l) = sizL [V.it .i64 k1, .it .i64 k2, .it .i64 k3, .vs 1 e4] + sizE (acts l) := rfl
   refine ⟨⟨k1, k2, k3, e4⟩ :: l, rfl, ?_⟩
   simp only [List.length_cons]
   show l.length + 1 <= sizE ([V.it .i64 k1, .it .i64 k2, .it .i64 k3, .vs 1 e4] :: acts l)
   omega
theorem cfg_go (N M : Nat) (hp : Hp) : callF Fq (N + 100) (M + 2) false 6 [] hp = .ret (.ag (rowCf ⟨10000, 4591870180066957722, 2, 65535, 65536, 4, 1⟩)) hp := by kernel_rfl
theorem cfg_ok (hp : Hp) : EvC Fq false 6 [] hp (.ret (.ag (rowCf ⟨10000, 4591870180066957722, 2, 65535, 65536, 4, 1⟩)) hp) := by
 with_unfolding_all exact ⟨100, fun L n h1 h2 => by
  obtain ⟨N, rfl⟩ : ∃ N, L = N + 100 := ⟨L - 100, by omega⟩
  obtain ⟨M, rfl⟩ : ∃ M, n = M + 2 := ⟨n - 2, by omega⟩
  exact cfg_go N M hp⟩
def thR (d : List V) : List V := [.bo (isT (d.getD 0 .np)), .bo (isT (d.getD 1 .np)), .bo (isT (d.getD 2 .np)), .bo (isT (d.getD 3 .np)), .bo (isT (d.getD 4 .np)), .bo (isT (d.getD 5 .np)), .bo (isT (d.getD 6 .np)), .bo (isT (d.getD 7 .np))]
def wantB (kn : Nat) (t : Bool) : Bool := bif Nat.beq kn 1 then !t else t
section
variable {own : Bool} {hp : Hp} {c : Cfg} {p s : Nat} {d : List V} {m : Nat} {sz n : Int} {b : List (List V)}
theorem th_set (hl : d.length = 8) (hm : m < 8) (y : V) : thR (d.set m y) = (thR d).set m (.bo (isT y)) := by
 obtain ⟨x0, x1, x2, x3, x4, x5, x6, x7, rfl⟩ := list8 hl
 have h9 : m = 0 \/ m = 1 \/ m = 2 \/ m = 3 \/ m = 4 \/ m = 5 \/ m = 6 \/ m = 7 := by omega
 rcases h9 with rfl | rfl | rfl | rfl | rfl | rfl | rfl | rfl <;> rfl
theorem doG (hJ : PxJ hp c p s d) (hok : okC c.st c.wn c.ls) {kn : Nat} (hk : kn = 1 \/ kn = 3 \/ kn = 4) (hm : m < 8) {t : Bool} (h : isT (d.getD m .np) = t) :
  ∃ w hp', EvC Fq own 7 [.pt p 0 0, .ag (actV (Int.ofNat kn) (Int.ofNat m) sz b)] hp (.ret w hp') /\ ∃ x d', w = .ag [.bo (wantB kn t), x, .ns] /\ (isLp x = false /\ x.cells = [x] /\ x.keep = true) /\ PxJ hp' c p s d' /\ thR d' = (bif wantB kn t && !Nat.beq kn 4 then (thR d).set m (.bo (Nat.beq kn 1)) else thR d) := by
 have ht : tkB (Int.ofNat kn) (Int.ofNat m) d = wantB kn t := by
  rw [tk_in hm, h]
  rcases hk with rfl | rfl | rfl <;> rfl
 obtain ⟨w, hp', h1, x, h2, h3, d', h4, h5⟩ := doP_ok (own := own) hJ hok (Int.ofNat kn) (Int.ofNat m) sz b (by rcases hk with rfl | rfl | rfl <;> decide)
 rw [ht] at h2
 refine ⟨w, hp', h1, x, d', h2, h3, h4, ?_⟩
 unfold nxt at h5
 rw [ht] at h5
 rcases hk with rfl | rfl | rfl <;> cases t
 ·rw [if_pos (by decide), if_pos (by decide)] at h5
  obtain ⟨kk, rfl⟩ := h5
  exact th_set hJ.len hm _
 ·rw [if_neg (by decide)] at h5; rw [h5]; rfl
 ·rw [if_neg (by decide)] at h5; rw [h5]; rfl
 ·rw [if_pos (by decide), if_neg (by decide)] at h5
  rw [h5]; exact th_set hJ.len hm _
 ·rw [if_neg (by decide)] at h5; rw [h5]; rfl
 ·rw [if_neg (by decide)] at h5; rw [h5]; rfl
theorem doF (hJ : PxJ hp c p s d) (hok : okC c.st c.wn c.ls) (hn : ¬ (0 <= n /\ n < 8)) {kn : Nat} (hk : kn = 1 \/ kn = 3 \/ kn = 4) : ∃ w hp', EvC Fq own 7 [.pt p 0 0, .ag (actV (Int.ofNat kn) n sz b)] hp (.ret w hp') /\ ∃ x, w = .ag [.bo false, x, .ns] /\ (isLp x = false /\ x.cells = [x] /\ x.keep = true) /\ PxJ hp' c p s d := by
 have ht : tkB (Int.ofNat kn) n d = false := if_neg hn
 obtain ⟨w, hp', h1, x, h2, h3, d', h4, h5⟩ := doP_ok (own := own) hJ hok (Int.ofNat kn) n sz b (by rcases hk with rfl | rfl | rfl <;> decide)
 rw [ht] at h2
 unfold nxt at h5
 rw [if_neg (by rw [ht]; simp)] at h5
 subst h5
 exact ⟨w, hp', h1, x, h2, h3, h4⟩
end
theorem lo3 {old a b new new' : List V} (e : new = new') : shed [7] (lset (lset (lset (lset (fun _ => none) 5 old) 7 a) 7 b) 5 new) = lset (fun _ => none) 5 new' := by
 subst e
 funext x
 unfold shed lset
 cases h5 : Nat.beq x 5 with
 | true =>
  obtain rfl := Nat.eq_of_beq_eq_true h5
  rfl
 | false =>
  cases h7 : Nat.beq x 7 with
  | true =>
   obtain rfl := Nat.eq_of_beq_eq_true h7
   rfl
  | false => cases hasN [7] x <;> rfl
theorem inner_ok (hp0 : Hp) (v1 : V) (li : List Int) (hO : Ow hp0 v1 1 (isl li)) (hl : li.length = 8) (d : List V) (tl : ∀ j, j < 8 -> ilt (li.getD j 0) (Int.ofNat 0) = !isT (d.getD j .np)) (A0 pv iv : V)
  (lo : Lo) (hlo : shed [7] lo = lset (fun _ => none) 5 (thR d)) (tm : Tm) (hk : [0, 3, 5, 6, 10, 12].map (fun x => (x, tm x)) = [(0, A0), (3, pv), (5, .lp 5 0), (6, iv), (10, v1), (12, .it .i64 (Int.ofNat 0))]) :
  ∃ r, EvL Fq [0, 3, 5, 6, 10, 12] [7] (lpB (d3.body.lps.getD 1 .skip)) ⟨tm, lo, hp0⟩ r /\ XtQ 3 [(0, A0), (3, pv), (5, .lp 5 0), (6, iv)] (fun lo hp => lo = lset (fun _ => none) 5 (thR d) /\ hp = hp0) r := by
 refine EvL.invQ (S := Nat) (fun j => [(0, A0), (3, pv), (5, .lp 5 0), (6, iv), (10, v1), (12, .it .i64 (Int.ofNat j))]) (fun j lo hp => shed [7] lo = lset (fun _ => none) 5 (thR d) /\ j <= 8 /\ hp = hp0) (fun j => 8 - j) _ ?_ 0 tm lo hp0 ⟨hlo, Nat.zero_le _, rfl⟩ hk
 intro j lo hp ⟨e1, e2, e3⟩
 rw [e1]
 subst e3
 have vl := hO.lp
 have vc := hO.cells
 have vn := hO.len
 have sl := hO.sl
 rw [isl_length, hl] at vn
 have hil : (isl li).length = 8 := by rw [isl_length, hl]
 unfold thR
 have h9 : j = 0 \/ j = 1 \/ j = 2 \/ j = 3 \/ j = 4 \/ j = 5 \/ j = 6 \/ j = 7 \/ j = 8 := by omega
 have hge : j < 8 -> (isl li).getD j [] = [.it .i64 (li.getD j 0)] := fun h => isl_getD (by omega)
 have tt := tl j
 generalize li.getD j 0 = y at hge tt
 cases hx : isT (d.getD j .np)
 all_goals
  rw [hx] at tt
  rcases h9 with rfl | rfl | rfl | rfl | rfl | rfl | rfl | rfl | rfl
  iterate 8
   ·have hg := hge (by omega)
    have t1 := tt (by omega)
    rw [hx]
    repeat (first | refine EvQ.run ?_ | refine EvQ.fin X.rs ?_ | refine EvQ.fin1 (fun _ => rfl) rfl ?_)
    refine EvQ.lift (fun _ zn => X.condFs rfl (by rw [t1]; rfl) zn) ?_
    repeat (first | refine EvQ.run ?_ | refine EvQ.fin X.rs ?_ | refine EvQ.fin1 (fun _ => rfl) rfl ?_)
    exact EvQ.go _ X.kv ⟨X.lo, Nat.le_of_ble_eq_true rfl, rfl⟩ (Nat.le_of_ble_eq_true rfl)
  ·repeat (first | refine EvQ.run ?_ | refine EvQ.fin X.rs ?_ | refine EvQ.fin1 (fun _ => rfl) rfl ?_)
   exact EvQ.xt (.mk' X.kv ⟨rfl, rfl⟩)
def kvP (l : List ActV) (p : Nat) (y : Nat × List V) : List (Nat × V) := [(0, .vs 4 (acts l)), (3, .pt p 0 0), (5, .lp 5 0), (6, .it .i64 (Int.ofNat y.1))]
def JP (l : List ActV) (c : Cfg) (p s : Nat) (y : Nat × List V) (lo : Lo) (hp : Hp) : Prop := shed [7] lo = lset (fun _ => none) 5 (thR y.2) /\ y.1 <= l.length /\ PxJ hp c p s y.2
abbrev RP (l : List ActV) (c : Cfg) (p s i : Nat) : R -> Prop := RQ [0, 3, 5, 6] (kvP l p) (JP l c p s) (fun y => l.length - y.1) (l.length - i) (XtQ 0 [] (fun _ _ => True))
section
variable (l : List ActV) (hl : l.length <= 2000000) (c : Cfg) (hok : okC c.st c.wn c.ls) (p s i : Nat) (hp : Hp) (x0 x1 x2 x3 x4 x5 x6 x7 : V) (hJ : PxJ hp c p s [x0, x1, x2, x3, x4, x5, x6, x7]) (hi : i < l.length) (h60 : i < 60) (sz : Int) (b : List (List V)) (kn : Nat) (hkn : kn = 1 \/ kn = 3 \/ kn = 4)
include hl hok hJ hi h60
include hkn in
theorem rndF (n : Int) (hn : ¬ (0 <= n /\ n < 8)) (ha : l.getD i av0 = ⟨Int.ofNat kn, n, sz, b⟩) : EvQ Fq ((d3.body.lps.getD 0 .skip).run ⟨tmOf [(0, .vs 4 (acts l)), (3, .pt p 0 0), (5, .lp 5 0), (6, .it .i64 (Int.ofNat i))], lset (fun _ => none) 5 (thR [x0, x1, x2, x3, x4, x5, x6, x7]), hp⟩ .done) (RP l c p s i) := by
 have hge : (acts l).getD i [] = [.it .i64 (Int.ofNat kn), .it .i64 n, .it .i64 sz, .vs 1 b] := (acts_getD hi).trans (by rw [ha]; rfl)
 have hal := acts_length l
 have dp := doF (own := false) (sz := sz) (b := b) hJ hok hn hkn
 clear ha
 by_cases h0 : n < 0
 ·have q1 : ilt n (Int.ofNat 0) = true := il1 h0
  rcases hkn with rfl | rfl | rfl
  all_goals
   repeat (first | refine EvQ.run ?_ | refine EvQ.fin X.rs ?_ | refine EvQ.fin1 (fun _ => rfl) rfl ?_)
   refine EvQ.call rfl X.al dp ?_
   rintro _ hp2 ⟨x, rfl, ⟨xl, xc, xk⟩, hJ2⟩
   repeat (first | refine EvQ.run ?_ | refine EvQ.fin X.rs ?_ | refine EvQ.fin1 (fun _ => rfl) rfl ?_)
   refine EvQ.call rfl X.al (waiting_ok (own := false) hJ2) ?_
   rintro _ hp3 ⟨v1, v2, li, rfl, ow, ll, tl, vl2, u3⟩
   have hJ3 := hJ2.up u3
   have vl := ow.lp
   repeat (first | refine EvQ.run ?_ | refine EvQ.fin X.rs ?_ | refine EvQ.fin1 (fun _ => rfl) rfl ?_)
   refine EvQ.loop (inner_ok hp3 v1 li ow ll [x0, x1, x2, x3, x4, x5, x6, x7] tl (.vs 4 (acts l)) (.pt p 0 0) (.it .i64 (Int.ofNat i)) _ ?_ _ ?_) ?_
   ·exact X.lo
   ·exact X.kv
   rintro _ ⟨tm, lo, hp4, rfl, rfl, rfl⟩
   repeat (first | refine EvQ.run ?_ | refine EvQ.fin X.rs ?_ | refine EvQ.fin1 (fun _ => rfl) rfl ?_)
   exact EvQ.go (S := Nat × List V) (i + 1, [x0, x1, x2, x3, x4, x5, x6, x7]) X.kv ⟨X.lo, by show i + 1 <= l.length; omega, hJ3⟩ (by show l.length - (i + 1) < l.length - i; omega)
 ·have q1 : ilt n (Int.ofNat 0) = false := il0 h0
  have q2 : ilt n (Int.ofNat 8) = false := il0 (by show ¬ n < 8; omega)
  rcases hkn with rfl | rfl | rfl
  all_goals
   repeat (first | refine EvQ.run ?_ | refine EvQ.fin X.rs ?_ | refine EvQ.fin1 (fun _ => rfl) rfl ?_)
   refine EvQ.call rfl X.al dp ?_
   rintro _ hp2 ⟨x, rfl, ⟨xl, xc, xk⟩, hJ2⟩
   repeat (first | refine EvQ.run ?_ | refine EvQ.fin X.rs ?_ | refine EvQ.fin1 (fun _ => rfl) rfl ?_)
   refine EvQ.call rfl X.al (waiting_ok (own := false) hJ2) ?_
   rintro _ hp3 ⟨v1, v2, li, rfl, ow, ll, tl, vl2, u3⟩
   have hJ3 := hJ2.up u3
   have vl := ow.lp
   repeat (first | refine EvQ.run ?_ | refine EvQ.fin X.rs ?_ | refine EvQ.fin1 (fun _ => rfl) rfl ?_)
   refine EvQ.loop (inner_ok hp3 v1 li ow ll [x0, x1, x2, x3, x4, x5, x6, x7] tl (.vs 4 (acts l)) (.pt p 0 0) (.it .i64 (Int.ofNat i)) _ ?_ _ ?_) ?_
   ·exact X.lo
   ·exact X.kv
   rintro _ ⟨tm, lo, hp4, rfl, rfl, rfl⟩
   repeat (first | refine EvQ.run ?_ | refine EvQ.fin X.rs ?_ | refine EvQ.fin1 (fun _ => rfl) rfl ?_)
   exact EvQ.go (S := Nat × List V) (i + 1, [x0, x1, x2, x3, x4, x5, x6, x7]) X.kv ⟨X.lo, by show i + 1 <= l.length; omega, hJ3⟩ (by show l.length - (i + 1) < l.length - i; omega)
theorem rndX (k n : Int) (h1 : k ≠ 1) (h3 : k ≠ 3) (h4 : k ≠ 4) (ha : l.getD i av0 = ⟨k, n, sz, b⟩) : EvQ Fq ((d3.body.lps.getD 0 .skip).run ⟨tmOf [(0, .vs 4 (acts l)), (3, .pt p 0 0), (5, .lp 5 0), (6, .it .i64 (Int.ofNat i))], lset (fun _ => none) 5 (thR [x0, x1, x2, x3, x4, x5, x6, x7]), hp⟩ .done) (RP l c p s i) := by
 have hge : (acts l).getD i [] = [.it .i64 k, .it .i64 n, .it .i64 sz, .vs 1 b] := (acts_getD hi).trans (by rw [ha]; rfl)
 have hal := acts_length l
 have z1 : ieq k (Int.ofNat 1) = false := by rw [ieqD]; exact decide_eq_false h1
 have z3 : ieq k (Int.ofNat 3) = false := by rw [ieqD]; exact decide_eq_false h3
 have z4 : ieq k (Int.ofNat 4) = false := by rw [ieqD]; exact decide_eq_false h4
 clear ha
 unfold thR
 repeat' (first | refine EvQ.run ?_ | (refine EvQ.pickB rfl rfl rfl ?_) | (refine EvQ.cond rfl (fun h => ?_) (fun h => ?_) <;> ((first | replace h := X.nm h | skip); try have hne := ne_len h)) | (refine EvQ.g1 rfl (fun h => ?_) (fun h => ?_) <;> ((first | replace h := X.nm h | skip); try have hne := ne_len h)) | (refine EvQ.pick rfl (fun _ => rfl) (fun _ => rfl) (fun h => ?_) (fun h => ?_) <;> ((first | replace h := X.nm h | skip); try have hne := ne_len h)) | refine EvQ.fin X.rs ?_ | refine EvQ.fin1 (fun _ => rfl) rfl ?_)
 all_goals exact EvQ.go (S := Nat × List V) (i + 1, [x0, x1, x2, x3, x4, x5, x6, x7]) X.kv ⟨X.lo, by show i + 1 <= l.length; omega, hJ⟩ (by show l.length - (i + 1) < l.length - i; omega)
end
end Go.Proofs.YtfnoiklmcmboeaaGreatDoor.cnw
