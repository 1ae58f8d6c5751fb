import Derived.Test.YtndodhmfdjcjgaaGreatDoorEvE
import Derived.Test.YtndodhmfdjcjgaaGreatDoorPm
set_option linter.unusedSectionVars false
set_option linter.unusedVariables false
set_option linter.unusedSimpArgs false
-- chapter 25's runs (EvHp EvOwn)
namespace Go.Proofs.YtndodhmfdjcjgaaGreatDoor
open Go hiding Fn
open Ev tab
attribute [local irreducible] EvP EvD EvL EvC EvO evGds evLs C.run sK bK gK pK fK lpB stepD ackE numE setB feedG feedA feedM d4L z16 H0 H1 H2 H3 H4 H5 H6 Hc stat m1L m2L m3L cL aL bL n1L putsF fillE
abbrev r400 : List V := [.it .i64 4, .it .i64 0, .it .i64 0, .ns]
/-- frames of one's own -/
def FrO (hp : Hp) (v : V) (fs : List Frm) : Prop := ∃ rows, Ow hp v 4 rows /\ FrR hp 0 rows fs
theorem FrO.nil {hp : Hp} : FrO hp .ns [] := ⟨[], .ns, .nil⟩
theorem ex_oah {hp : Hp} {v : V} {rows r2 : List (List V)} (hN : Nil hp) (hO : Ow hp v 4 rows) : Ex1 hp (oah hp v 4 r2) := by
 rcases hO with ⟨rfl, _⟩ | ⟨id, rfl, q1, q2, q3⟩
 ·exact Ex1.new hN _
 ·exact (Ex1.kill (fun x hx => by rw [q3] at hx; cases hx; exact (by decide : (4 : Nat) ≠ 1))).trans (Ex1.new (hN.set q1 _) _)
theorem ow_up {hp hp' : Hp} {v : V} {rows : List (List V)} (hO : Ow hp v 4 rows) (hn : hp.next <= hp'.next) (hl : hp'.lim = hp.lim) (hg : ∀ id b, hget hp id = some b -> hget hp' id = some b) : Ow hp' v 4 rows := by
 rcases hO with h | ⟨id, rfl, q1, q2, q3⟩
 ·exact .inl h
 ·exact .inr ⟨id, rfl, by omega, by rw [hl]; exact q2, hg _ _ q3⟩
theorem get_up {hp : Hp} (hN : Nil hp) (A : Bk) : ∀ id b, hget hp id = some b -> hget (hnew hp A) id = some b := fun id b h => by
 rw [hget_old (fun e => by rw [e, hN _ (Nat.le_refl _)] at h; cases h)]; exact h
theorem fro_put {hp : Hp} {v : V} {rows : List (List V)} {fs : List Frm} {n : Nat} {p : List Int} (hl : hp.lim = 0) (hN : Nil hp) (hO : Ow hp v 4 rows) (hR : FrR hp 0 rows fs) (hn : p.length = n) (e : bs p = List.replicate n [V.it .u8 0]) (hp2 : Hp) (h2 : hp2 = hnew (hnew hp ⟨1, false, List.replicate n [V.it .u8 0]⟩) ⟨4, false, [[.it .i64 0, .it .i64 0, .it .i64 1, .hs hp.next 0 n]]⟩) :
  Ow hp2 v 4 rows /\ Els hp2 4 (.hs (hp.next + 1) 0 1) [[.it .i64 0, .it .i64 0, .it .i64 1, .hs hp.next 0 n]] /\ (oah hp2 v 4 (rows ++ [[.it .i64 0, .it .i64 0, .it .i64 1, .hs hp.next 0 n]])).lim = 0 /\ Nil (oah hp2 v 4 (rows ++ [[.it .i64 0, .it .i64 0, .it .i64 1, .hs hp.next 0 n]])) /\
  FrO (oah hp2 v 4 (rows ++ [[.it .i64 0, .it .i64 0, .it .i64 1, .hs hp.next 0 n]])) (.hs hp2.next 0 (rows.length + 1)) (fs ++ [(0, 0, 1, p)]) := by
 have hb := by_mk hl hn e (⟨4, false, [[.it .i64 0, .it .i64 0, .it .i64 1, .hs hp.next 0 n]]⟩ : Bk)
 have N1 := hN.new ⟨1, false, List.replicate n [V.it .u8 0]⟩
 have N2 : Nil hp2 := by rw [h2]; exact N1.new _
 have O2 : Ow hp2 v 4 rows := by
  rw [h2]
  have o1 : Ow (hnew hp ⟨1, false, List.replicate n [V.it .u8 0]⟩) v 4 rows := ow_up hO (Nat.le_succ _) (hnew_lim _ _) (get_up hN _)
  exact ow_up o1 (Nat.le_succ _) (hnew_lim _ _) (get_up N1 _)
 have x1 : Ex1 hp hp2 := by rw [h2]; exact (Ex1.new hN _).trans (Ex1.new N1 _)
 have l2 : hp2.lim = 0 := by rw [h2, hnew_lim, hnew_lim]; exact hl
 have x2 := ex_oah (r2 := rows ++ [[.it .i64 0, .it .i64 0, .it .i64 1, .hs hp.next 0 n]]) N2 O2
 refine ⟨O2, ?_, by rw [oah_lim]; exact l2, oah_nil N2, _, O2.put (by rw [l2]; exact Nat.zero_le _), ?_⟩
 ·have : hget hp2 (hp.next + 1) = some ⟨4, false, [[.it .i64 0, .it .i64 0, .it .i64 1, .hs hp.next 0 n]]⟩ := by rw [h2]; exact hget_new _ _
  exact Els.hs this (by simp)
 ·refine (hR.mono1 (x1.trans x2)).append (.cons (By.mono1 ?_ x2) (fun _ _ => Nat.zero_le _) .nil)
  rw [h2]; exact hb
theorem ck2 {hp : Hp} {id : Nat} {f : Bool} {rows : List (List V)} {ms : List (Bool × List Int)} {sv : Bool} {r : Int} (q2 : hp.lim <= id) (q3 : hget hp id = some ⟨2, f, rows⟩) (q4 : MvR hp rows ms) (hz : mvsz ms <= 1000000) (h : EvP F 6 c6 [.bo sv, .vs 2 (mvs ms)] [.it .i64 r]) : ∃ w hp', EvC F false 6 [.bo sv, .hs id 0 ms.length] hp (.ret w hp') /\ w = .it .i64 r := by
 obtain ⟨w, hp', h1, h2, _⟩ := ck_call q2 q3 q4 hz h
 exact ⟨w, hp', h1, h2⟩
theorem by_up {hp hp' : Hp} {v : V} {l : List Int} (h : By hp v l) (u : Up hp.next hp hp') : By hp' v l := by
 rcases h with h | h | ⟨id, i, fr, rows, rfl, q1, q2, q3, q4, q5⟩
 ·exact .inl h
 ·exact .inr (.inl h)
 ·exact .inr (.inr ⟨id, i, fr, rows, rfl, Nat.lt_of_lt_of_le q1 u.next, by rw [u.lim]; exact q2, by rw [u.get id q1]; exact q3, q4, q5⟩)
theorem FrR.up {hp hp' : Hp} {z : Nat} {rows : List (List V)} {fs : List Frm} (h : FrR hp z rows fs) (u : Up hp.next hp hp') : FrR hp' z rows fs := by
 induction h with
 | nil => exact .nil
 | cons h hz r ih => exact .cons (by_up h u) hz ih
theorem fro_c {hp : Hp} {v : V} {fs : List Frm} (h : FrO hp v fs) (hn : 0 < fs.length) (hl : hp.lim = 0) : FrC hp v fs := by
 obtain ⟨rows, hO, hR⟩ := h
 have e := hR.length
 rcases hO with ⟨rfl, rfl⟩ | ⟨id, rfl, q1, q2, q3⟩
 ·simp at e; omega
 ·rw [e]; exact .inr ⟨id, false, rows, rfl, q2, q3, hR⟩
set_option maxHeartbeats 64000000 in
theorem runs_ok : EvP F 4 c4 [] [.bo true] := by
 have ca := chk_a
 have cb := chk_b
 have cc := chk_c
 have cd := chk_d
 refine EvP.ofQ d4 rfl rfl rfl ?_
 repeat (first | refine EvQ.run ?_ | refine EvQ.fin X.rs ?_ | refine EvQ.fin1 (fun _ => rfl) rfl ?_)
 refine EvQ.call (P := fun w hp' => w = .ag [.bo true, .vs 1 (bs aL)] /\ Ez (hnew h0 ⟨4, false, [r400]⟩) hp') rfl X.al (fr_call (fs := [(4, 0, 0, [])]) (.inr ⟨0, _, _, rfl, Nat.zero_le _, rfl, .cons (.ns _) (by intro _ h; cases h) .nil⟩) (by decide) (by decide) (by decide) pa) ?_
 rintro _ hpA ⟨rfl, zA⟩
 have lA : hpA.lim = 0 := zA.lim
 have NA : Nil hpA := zA.nil (nil0.new _)
 clear zA
 repeat (first | refine EvQ.run ?_ | refine EvQ.fin X.rs ?_ | refine EvQ.fin1 (fun _ => rfl) rfl ?_)
 refine EvQ.call (P := fun w hp' => w = .it .i64 (-1) /\ Ez (hnew hpA ⟨2, false, [[.bo true, .vs 1 (bs aL)]]⟩) hp') rfl X.al (ck_call (ms := [(true, aL)]) (rows := [[.bo true, .vs 1 (bs aL)]]) (by rw [hnew_lim, lA]; exact Nat.zero_le _) (hget_new _ _) (.cons (.vs _ _) .nil) sza ca) ?_
 rintro _ hpB ⟨rfl, zB⟩
 have lB : hpB.lim = 0 := zB.lim.trans lA
 have NB : Nil hpB := zB.nil (NA.new _)
 clear zB lA NA
 repeat (first | refine EvQ.run ?_ | refine EvQ.fin X.rs ?_ | refine EvQ.fin1 (fun _ => rfl) rfl ?_)
 refine EvQ.call (P := fun w hp' => w = .ag [.bo true, .vs 1 (bs bL)] /\ Ez (hnew (hnew hpB ⟨1, false, List.replicate 8 [V.it .u8 0]⟩) ⟨4, false, [[.it .i64 6, .it .i64 0, .it .i64 0, .hs hpB.next 0 8]]⟩) hp') rfl X.al (fr_call (fs := [(6, 0, 0, z8)]) (.inr ⟨_, _, _, rfl, (by rw [hnew_lim, hnew_lim, lB]; exact Nat.zero_le _), hget_new _ _, .cons (by_mk lB rfl bs_z8 _) (fun _ _ => Nat.zero_le _) .nil⟩) (by decide) (by decide) (by decide) pb) ?_
 rintro _ hpC ⟨rfl, zC⟩
 have lC : hpC.lim = 0 := zC.lim.trans lB
 have NC : Nil hpC := zC.nil ((NB.new _).new _)
 clear zC lB NB
 repeat (first | refine EvQ.run ?_ | refine EvQ.fin X.rs ?_ | refine EvQ.fin1 (fun _ => rfl) rfl ?_)
 refine EvQ.call (P := fun w hp' => w = .it .i64 0 /\ Ez (hnew hpC ⟨2, false, [[.bo true, .vs 1 (bs bL)]]⟩) hp') rfl X.al (ck_call (ms := [(true, bL)]) (rows := [[.bo true, .vs 1 (bs bL)]]) (by rw [hnew_lim, lC]; exact Nat.zero_le _) (hget_new _ _) (.cons (.vs _ _) .nil) szb cb) ?_
 rintro _ hpD ⟨rfl, zD⟩
 have lD : hpD.lim = 0 := zD.lim.trans lC
 have ND : Nil hpD := zD.nil (NC.new _)
 clear zD lC NC
 repeat (first | refine EvQ.run ?_ | refine EvQ.fin X.rs ?_ | refine EvQ.fin1 (fun _ => rfl) rfl ?_)
 refine EvQ.lift (fun _ zn => X.bsl (es' := [r400, [.it .i64 0, .it .i64 0, .it .i64 1, .ns]]) (by kernel_rfl) rfl zn) ?_
 refine EvQ.call (P := fun w hp' => w = .ag [.bo true, .vs 1 (bs cL)] /\ Ez (hnew hpD ⟨4, false, [r400, [.it .i64 0, .it .i64 0, .it .i64 1, .ns]]⟩) hp') rfl X.al (fr_call (fs := [(4, 0, 0, []), (0, 0, 1, [])]) (.inr ⟨_, _, _, rfl, (by rw [hnew_lim, lD]; exact Nat.zero_le _), hget_new _ _, .cons (.ns _) (fun _ _ => Nat.zero_le _) (.cons (.ns _) (fun _ _ => Nat.zero_le _) .nil)⟩) (by decide) (by decide) (by decide) pc) ?_
 rintro _ hpE ⟨rfl, zE⟩
 have lE : hpE.lim = 0 := zE.lim.trans lD
 have NE : Nil hpE := zE.nil (ND.new _)
 clear zE lD ND
 repeat (first | refine EvQ.run ?_ | refine EvQ.fin X.rs ?_ | refine EvQ.fin1 (fun _ => rfl) rfl ?_)
 refine EvQ.call (P := fun w hp' => w = .it .i64 0 /\ Ez (hnew hpE ⟨2, false, [[.bo true, .vs 1 (bs cL)]]⟩) hp') rfl X.al (ck_call (ms := [(true, cL)]) (rows := [[.bo true, .vs 1 (bs cL)]]) (by rw [hnew_lim, lE]; exact Nat.zero_le _) (hget_new _ _) (.cons (.vs _ _) .nil) szc cc) ?_
 rintro _ hpG ⟨rfl, zG⟩
 have lG : hpG.lim = 0 := zG.lim.trans lE
 have NG : Nil hpG := zG.nil (NE.new _)
 clear zG lE NE
 repeat (first | refine EvQ.run ?_ | refine EvQ.fin X.rs ?_ | refine EvQ.fin1 (fun _ => rfl) rfl ?_)
 refine EvQ.loop (QL := fun r => ∃ v, XtQ 0 [(1, .lp 1 0), (2, .it .i64 (-1)), (3, .it .i64 0), (4, .it .i64 0), (5, v)] (fun lo hp' => lo = lset (fun _ => none) 1 r400 /\ hp'.lim = 0 /\ Nil hp' /\ FrO hp' v d4F) r) ?_ ?_
 ·refine EvL.invQ (S := Nat × V) (fun y => [(1, .lp 1 0), (2, .it .i64 (-1)), (3, .it .i64 0), (4, .it .i64 0), (5, y.2), (6, .it .i64 (Int.ofNat y.1))]) (fun y lo hp' => shed [] lo = lset (fun _ => none) 1 r400 /\ y.1 <= 5 /\ hp'.lim = 0 /\ Nil hp' /\ FrO hp' y.2 (d4F.take y.1)) (fun y => 5 - y.1) _ ?_ (0, .ns) _ _ _ ⟨X.lo, (by decide), lG, NG, .nil⟩ X.kv
  rintro ⟨i, v⟩ lo hp' ⟨e1, hi, hl, hN, hF⟩
  simp only at hi hF
  rw [e1]
  dsimp only
  obtain ⟨rows, hO, hR⟩ := hF
  have vl := hO.lp
  have vc := hO.cells
  have vk := hO.keep
  have hrl := hR.length
  rw [List.length_take] at hrl
  by_cases h4 : i < 4
  ·have z4 : ieq (Int.ofNat i) (Int.ofNat 4) = false := by rw [ieqD]; exact decide_eq_false (by simp only [Int.ofNat_eq_natCast]; omega)
   obtain ⟨O2, hE, l2, N2, hF2⟩ := fro_put hl hN hO hR z16_len bs_z16 _ rfl
   have et : d4F.take (i + 1) = d4F.take i ++ [(0, 0, 1, z16)] := by
    have : i = 0 \/ i = 1 \/ i = 2 \/ i = 3 := by omega
    rcases this with rfl | rfl | rfl | rfl <;> rfl
   rw [<- et] at hF2
   repeat (first | refine EvQ.run ?_ | refine EvQ.fin X.rs ?_ | refine EvQ.fin1 (fun _ => rfl) rfl ?_)
   refine EvQ.lift (fun _ zn => X.apo rfl rfl O2 hE (List.cons_ne_nil _ _) (fun _ => rfl) (by show (rows.length + 1) * 48 <= _; omega) zn) ?_
   repeat (first | refine EvQ.run ?_ | refine EvQ.fin X.rs ?_ | refine EvQ.fin1 (fun _ => rfl) rfl ?_)
   exact EvQ.go (S := Nat × V) (i + 1, _) X.kv ⟨X.lo, (by show i + 1 <= 5; omega), l2, N2, hF2⟩ (by show 5 - (i + 1) < 5 - i; omega)
  ·by_cases h5 : i = 4
   ·subst h5
    obtain ⟨O2, hE, l2, N2, hF2⟩ := fro_put (n := 0) (p := []) hl hN hO hR rfl rfl _ rfl
    repeat (first | refine EvQ.run ?_ | refine EvQ.fin X.rs ?_ | refine EvQ.fin1 (fun _ => rfl) rfl ?_)
    refine EvQ.lift (fun _ zn => X.apo rfl rfl O2 hE (List.cons_ne_nil _ _) (fun _ => rfl) (by show (rows.length + 1) * 48 <= _; omega) zn) ?_
    repeat (first | refine EvQ.run ?_ | refine EvQ.fin X.rs ?_ | refine EvQ.fin1 (fun _ => rfl) rfl ?_)
    exact EvQ.go (S := Nat × V) (5, _) X.kv ⟨X.lo, Nat.le_refl 5, l2, N2, hF2⟩ (show 5 - 5 < 5 - 4 by decide)
   ·have h5 : i = 5 := by omega
    subst h5
    repeat (first | refine EvQ.run ?_ | refine EvQ.fin X.rs ?_ | refine EvQ.fin1 (fun _ => rfl) rfl ?_)
    exact EvQ.xt ⟨_, .mk' X.kv ⟨X.lo, hl, hN, rows, hO, hR⟩⟩
 rintro _ ⟨v, tm, lo, hp', rfl, rfl, hl, hN, rows, hO, hR⟩
 have vl := hO.lp
 have vc := hO.cells
 have vk := hO.keep
 have g1 := frames_ok false [(4, 0, 0, []), (1, 5, 1, [130])] (by decide) (by decide) (by decide)
 rw [p1] at g1
 have g2 := frames_ok true [(4, 0, 0, [])] (by decide) (by decide) (by decide)
 rw [p2] at g2
 have g3 := frames_ok true [(1, 4, 1, [136])] (by decide) (by decide) (by decide)
 rw [p3] at g3
 repeat (first | refine EvQ.run ?_ | refine EvQ.fin X.rs ?_ | refine EvQ.fin1 (fun _ => rfl) rfl ?_)
 refine EvQ.lift (fun _ zn => X_bsv2 (es := [r400, [.it .i64 1, .it .i64 5, .it .i64 1, .vs 1 (bs [130])]]) (es2 := frs [(4, 0, 0, []), (1, 5, 1, [130])]) (by kernel_rfl) (by kernel_rfl) zn) ?_
 repeat (first | refine EvQ.run ?_ | refine EvQ.fin X.rs ?_ | refine EvQ.fin1 (fun _ => rfl) rfl ?_)
 refine EvQ.lift (fun _ zn => X.pcpf g1 (.s (clo_bo _) (.s (clo_vs [.one, .one, .one, .sl [.one]] _) (.nil _))) rfl rfl rfl zn) ?_
 repeat (first | refine EvQ.run ?_ | refine EvQ.fin X.rs ?_ | refine EvQ.fin1 (fun _ => rfl) rfl ?_)
 refine EvQ.lift (fun _ zn => X_bsv2 (es := [r400]) (es2 := frs [(4, 0, 0, [])]) (by kernel_rfl) (by kernel_rfl) zn) ?_
 repeat (first | refine EvQ.run ?_ | refine EvQ.fin X.rs ?_ | refine EvQ.fin1 (fun _ => rfl) rfl ?_)
 refine EvQ.lift (fun _ zn => X_bsv2 (es := [[.it .i64 1, .it .i64 4, .it .i64 1, .vs 1 (bs [136])]]) (es2 := frs [(1, 4, 1, [136])]) (by kernel_rfl) (by kernel_rfl) zn) ?_
 repeat (first | refine EvQ.run ?_ | refine EvQ.fin X.rs ?_ | refine EvQ.fin1 (fun _ => rfl) rfl ?_)
 refine EvQ.lift (fun _ zn => X.bsl (es' := bs prefI) (by kernel_rfl) rfl zn) ?_
 repeat (first | refine EvQ.run ?_ | refine EvQ.fin X.rs ?_ | refine EvQ.fin1 (fun _ => rfl) rfl ?_)
 refine EvQ.lift (fun _ zn => X_mrk (id := hp'.next) (i := 0) (n := (bs prefI).length) (es := bs prefI) rfl (hget_new _ _) rfl zn) ?_
 repeat (first | refine EvQ.run ?_ | refine EvQ.fin X.rs ?_ | refine EvQ.fin1 (fun _ => rfl) rfl ?_)
 have N1 : Nil (hnew hp' ⟨1, false, bs prefI⟩) := hN.new _
 have O1 : Ow (hnew hp' ⟨1, false, bs prefI⟩) (.hs hp'.next 0 (bs prefI).length) 1 (bs prefI) := .inr ⟨hp'.next, rfl, Nat.lt_succ_self _, by rw [hnew_lim, hl]; exact Nat.zero_le _, hget_new _ _⟩
 refine EvQ.lift (fun _ zn => X.apo (v := .hs hp'.next 0 (bs prefI).length) (vy := .vs 1 (bs n1L)) rfl rfl O1 (Els.vs (bs n1L)) (by intro h; have := congrArg List.length h; rw [bs_length, n1_len] at this; cases this) (fun _ => rfl) (by rw [bs_length, bs_length, n1_len, pref_len]; decide) zn) ?_
 have el : (bs prefI).length + (bs n1L).length = m1L.length := by rw [bs_length, bs_length, n1_len, pref_len, m1_len]
 have eb : bs prefI ++ bs n1L = bs m1L := by rw [<- m1_eq]; simp [bs]
 rw [el, eb]
 have u1 : Up hp'.next hp' (oah (hnew hp' ⟨1, false, bs prefI⟩) (.hs hp'.next 0 (bs prefI).length) 1 (bs m1L)) := (Up.new hp' _ (Nat.le_refl _)).oah (Nat.le_succ _) (fun id q => by cases q; exact Nat.le_refl _)
 have N2 : Nil (oah (hnew hp' ⟨1, false, bs prefI⟩) (.hs hp'.next 0 (bs prefI).length) 1 (bs m1L)) := oah_nil N1
 have g4 : hget (oah (hnew hp' ⟨1, false, bs prefI⟩) (.hs hp'.next 0 (bs prefI).length) 1 (bs m1L)) (hp'.next + 1) = some ⟨1, false, bs m1L⟩ := oah_new
 have x2 : (oah (hnew hp' ⟨1, false, bs prefI⟩) (.hs hp'.next 0 (bs prefI).length) 1 (bs m1L)).next = hp'.next + 1 + 1 := oah_next
 generalize oah (hnew hp' ⟨1, false, bs prefI⟩) (.hs hp'.next 0 (bs prefI).length) 1 (bs m1L) = hp2 at *
 have l2 : hp2.lim = 0 := u1.lim.trans hl
 have F2 : FrO hp2 v d4F := ⟨rows, hO.up u1 (fun id q => by rcases hO with ⟨rfl, _⟩ | ⟨id', rfl, q1, _⟩ <;> cases q; exact q1), hR.up u1⟩
 have B2 : By hp2 (.hs (hp'.next + 1) 0 m1L.length) m1L := By.new (by omega) (by omega) g4
 repeat (first | refine EvQ.run ?_ | refine EvQ.fin X.rs ?_ | refine EvQ.fin1 (fun _ => rfl) rfl ?_)
 refine EvQ.lift (fun _ zn => X.pcpf g2 (.s (clo_bo _) (.s (clo_vs [.one, .one, .one, .sl [.one]] _) (.nil _))) rfl rfl rfl zn) ?_
 repeat (first | refine EvQ.run ?_ | refine EvQ.fin X.rs ?_ | refine EvQ.fin1 (fun _ => rfl) rfl ?_)
 refine EvQ.lift (fun _ zn => X.pcpf g3 (.s (clo_bo _) (.s (clo_vs [.one, .one, .one, .sl [.one]] _) (.nil _))) rfl rfl rfl zn) ?_
 repeat (first | refine EvQ.run ?_ | refine EvQ.fin X.rs ?_ | refine EvQ.fin1 (fun _ => rfl) rfl ?_)
 refine EvQ.call (ys := [.bo true, v]) (P := fun w hp' => w = .ag [.bo true, .vs 1 (bs d4L)] /\ Ez hp2 hp') rfl (by show (isLp _ || (isLp v || false)) = false; rw [vl]; rfl) (fr_call (fs := d4F) (fro_c F2 (by decide) l2) frd (by decide) (by decide) pd4) ?_
 rintro _ hp3 ⟨rfl, z3⟩
 have l3 : hp3.lim = 0 := z3.lim.trans l2
 have N3 : Nil hp3 := z3.nil N2
 have B3 := B2.mono1 z3.to1
 repeat (first | refine EvQ.run ?_ | refine EvQ.fin X.rs ?_ | refine EvQ.fin1 (fun _ => rfl) rfl ?_)
 refine EvQ.lift (fun _ zn => X.bsl (es' := [[.bo false, .hs (hp'.next + 1) 0 m1L.length], [.bo true, .vs 1 (bs m2L)], [.bo true, .vs 1 (bs m3L)], [.bo true, .vs 1 (bs d4L)]]) (by kernel_rfl) rfl zn) ?_
 repeat (first | refine EvQ.run ?_ | refine EvQ.fin X.rs ?_ | refine EvQ.fin1 (fun _ => rfl) rfl ?_)
 refine EvQ.call (P := fun w hp' => w = .it .i64 3) rfl X.al (ck2 (ms := [(false, m1L), (true, m2L), (true, m3L), (true, d4L)]) (rows := [[.bo false, .hs (hp'.next + 1) 0 m1L.length], [.bo true, .vs 1 (bs m2L)], [.bo true, .vs 1 (bs m3L)], [.bo true, .vs 1 (bs d4L)]]) (by rw [hnew_lim, l3]; exact Nat.zero_le _) (hget_new _ _) (.cons (B3.mono1 (Ex1.new N3 _)) (.cons (.vs _ _) (.cons (.vs _ _) (.cons (.vs _ _) .nil)))) szd cd) ?_
 rintro _ hp4 rfl
 repeat (first | refine EvQ.run ?_ | refine EvQ.fin X.rs ?_ | refine EvQ.fin1 (fun _ => rfl) rfl ?_)
 exact PQ.bo rfl
end Go.Proofs.YtndodhmfdjcjgaaGreatDoor
