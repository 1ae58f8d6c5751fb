import Derived.Test.YtndodhmfdjcjgaaGreatDoorEvE
import Derived.Test.YtndodhmfdjcjgaaGreatDoorShC
set_option linter.unusedSectionVars false
set_option linter.unusedVariables false
set_option linter.unusedSimpArgs false
-- the shape of SETTINGS (EvHp EvOwn)
namespace Go.Proofs.YtndodhmfdjcjgaaGreatDoor
open Go hiding Fn
open Ev tab
attribute [local irreducible] EvP EvD EvL EvC EvO evGds evLs C.run sK bK gK pK fK lpB stepD
/-- a setting's number, as it is put together -/
def idE (a b : Int) : Int := orI (wr .i64 (wr .i64 a * Int.ofNat 256)) (wr .i64 b)
/-- are settings right, one by one? -/
def setB : List Int -> Bool
 | a :: b :: c :: d :: e :: f :: r => valB (idE a b) (numE [c, d, e, f]) && setB r
 | _ => true
abbrev ptS (st : Int) (ack : Bool) (v : V) : List V := [.it .i64 4, .it .i64 st, .bo false, .bo false, .bo ack, .ns, .it .i64 0, .it .i64 0, .it .i64 0, .it .i64 0, v]
abbrev ptZ : List V := [.it .i64 0, .it .i64 0, .bo false, .bo false, .bo false, .ns, .it .i64 0, .it .i64 0, .it .i64 0, .it .i64 0, .ns]
theorem lo6 {o z q a b new new' : List V} (e : new = new') : shed [2, 7] (lset (lset (lset (lset (lset (lset (fun _ => none) 3 o) 4 z) 5 q) 7 a) 7 b) 3 new) = lset (lset (lset (fun _ => none) 3 new') 4 z) 5 q := by
 subst e
 funext x
 match x with
 | 0 => rfl
 | 1 => rfl
 | 2 => rfl
 | 3 => rfl
 | 4 => rfl
 | 5 => rfl
 | 6 => rfl
 | 7 => rfl
 | n + 8 => rfl
theorem lo7 {f o z q new new' z' q' : List V} (e : new = new') (ez : z = z') (eq : q = q') : shed [2, 7] (lset (lset (lset (lset (lset (fun _ => none) 2 f) 3 o) 4 z) 5 q) 3 new) = lset (lset (lset (fun _ => none) 3 new') 4 z') 5 q' := by
 subst e; subst ez; subst eq
 funext x
 match x with
 | 0 => rfl
 | 1 => rfl
 | 2 => rfl
 | 3 => rfl
 | 4 => rfl
 | 5 => rfl
 | 6 => rfl
 | 7 => rfl
 | n + 8 => rfl
theorem six {p : List Int} (h : 0 < p.length) (h6 : p.length % 6 = 0) : ∃ a b c d e f r, p = a :: b :: c :: d :: e :: f :: r /\ r.length % 6 = 0 := by
 match p, h, h6 with
 | a :: b :: c :: d :: e :: f :: r, _, h6 => exact ⟨a, b, c, d, e, f, r, rfl, by simp only [List.length_cons] at h6; omega⟩
 | [_], _, h6 => cases h6
 | [_, _], _, h6 => cases h6
 | [_, _, _], _, h6 => cases h6
 | [_, _, _, _], _, h6 => cases h6
 | [_, _, _, _, _], _, h6 => cases h6
set_option maxHeartbeats 32000000 in
theorem set_loop (hp0 : Hp) (st : Int) (ack : Bool) (p : List Int) (hp6 : p.length % 6 = 0) (hpl : p.length <= 1000) (hl : hp0.lim <= hp0.next) (lo : Lo) (hlo : shed [2, 7] lo = lset (lset (lset (fun _ => none) 3 (ptS st ack .ns)) 4 ptZ) 5 [.it .i64 0, .it .i64 0, .it .i64 0]) (tm : Tm)
  (hk : [3, 4, 5, 6].map (fun x => (x, tm x)) = [(3, .lp 3 0), (4, .lp 4 0), (5, .lp 5 0), (6, .vs 1 (bs p))]) :
  ∃ r, EvL F [3, 4, 5, 6] [2, 7] (lpB (d47.body.lps.getD 0 .skip)) ⟨tm, lo, hp0⟩ r /\
   ((setB p = true /\ XtQ 0 [(3, .lp 3 0), (4, .lp 4 0), (5, .lp 5 0)] (fun lo hp => ∃ v rows, lo = lset (lset (lset (fun _ => none) 3 (ptS st ack v)) 4 ptZ) 5 [.it .i64 0, .it .i64 0, .it .i64 0] /\ Ow hp v 2 rows /\ rows.length <= 1000 /\ (∀ e, e ∈ rows -> ∃ x y : Int, e = [.it .i64 x, .it .i64 y]) /\ Up hp0.next hp0 hp) r) \/
    (setB p = false /\ RtQ [(4, .lp 4 0), (5, .lp 5 0)] (fun lo hp => ∃ c lo1, c ≠ 0 /\ lo = lset (lset lo1 4 ptZ) 5 [.it .i64 2, .it .i64 c, .it .i64 0] /\ Up hp0.next hp0 hp) r)) := by
 generalize ht : setB p = t
 refine EvL.invQ (S := List Int × V) (fun y => [(3, .lp 3 0), (4, .lp 4 0), (5, .lp 5 0), (6, .vs 1 (bs y.1))]) (fun y lo hp => shed [2, 7] lo = lset (lset (lset (fun _ => none) 3 (ptS st ack y.2)) 4 ptZ) 5 [.it .i64 0, .it .i64 0, .it .i64 0] /\ y.1.length % 6 = 0 /\ setB y.1 = t /\
  ∃ rows, Ow hp y.2 2 rows /\ rows.length + y.1.length <= 1000 /\ (∀ e, e ∈ rows -> ∃ x y : Int, e = [.it .i64 x, .it .i64 y]) /\ Up hp0.next hp0 hp /\ ∀ id, idOf y.2 = some id -> hp0.next <= id) (fun y => y.1.length) _ ?_ (p, .ns) tm lo hp0
  ⟨hlo, hp6, ht, [], .ns, by show 0 + p.length <= 1000; omega, (by intro _ h; cases h), .refl _ _, (by intro _ h; cases h)⟩ hk
 intro ⟨q, v⟩ lo hp ⟨e1, e2, e3, rows, hO, e4, e5, hU, e6⟩
 simp only at e1 e2 e3 hO e4 e6
 rw [e1]
 have vl := hO.lp
 have vc := hO.cells
 have vk := hO.keep
 have ql := bs_length q
 by_cases hq : 0 < q.length
 ·obtain ⟨a, b, c, d, e, f, r, rfl, hr⟩ := six hq e2
  have na := number_any (c :: d :: e :: f :: r) (by simp)
  obtain ⟨n, vn, nz⟩ := value_any (idE a b) (numE (c :: d :: e :: f :: r))
  have ql2 : (bs (a :: b :: c :: d :: e :: f :: r)).length = r.length + 6 := by rw [bs_length]; rfl
  have e47 : List.take ((bs (a :: b :: c :: d :: e :: f :: r)).length - (Int.ofNat 2).toNat) (List.drop (Int.ofNat 2).toNat (bs (a :: b :: c :: d :: e :: f :: r))) = bs (c :: d :: e :: f :: r) :=
   List.take_of_length_le (by show (bs (c :: d :: e :: f :: r)).length <= _; rw [ql2, bs_length]; show r.length + 4 <= r.length + 6 - 2; omega)
  have e35 : List.take ((bs (a :: b :: c :: d :: e :: f :: r)).length - (Int.ofNat 6).toNat) (List.drop (Int.ofNat 6).toNat (bs (a :: b :: c :: d :: e :: f :: r))) = bs r :=
   List.take_of_length_le (by show (bs r).length <= _; rw [ql2, bs_length]; show r.length <= r.length + 6 - 6; omega)
  have eS : setB (a :: b :: c :: d :: e :: f :: r) = (valB (idE a b) (numE (c :: d :: e :: f :: r)) && setB r) := rfl
  rw [eS] at e3
  repeat (first | refine EvQ.run ?_ | refine EvQ.fin X.rs ?_ | refine EvQ.fin1 (fun _ => rfl) rfl ?_)
  refine EvQ.lift (fun _ zn => X.pcall na (.s (clo_vs [.one] _) (.nil _)) (congrArg (fun z => [V.vs 1 z]) e47) X.al rfl zn) ?_
  repeat (first | refine EvQ.run ?_ | refine EvQ.fin X.rs ?_ | refine EvQ.fin1 (fun _ => rfl) rfl ?_)
  refine EvQ.lift (fun _ zn => X.pcall vn (.gs (.cons (clo_it _ _) (.cons (clo_it _ _) .nil)) (.nil _)) rfl X.al rfl zn) ?_
  by_cases hn : n = 0
  ·have hv := nz.1 hn
   rw [hv, Bool.true_and] at e3
   subst hn
   repeat (first | refine EvQ.run ?_ | refine EvQ.fin X.rs ?_ | refine EvQ.fin1 (fun _ => rfl) rfl ?_)
   have h1 := hU.next
   have h2 := hU.lim
   refine EvQ.go (S := List Int × V) (r, .hs hp.next 0 (rows.length + 1)) (congrArg (fun z => [(3, V.lp 3 0), (4, V.lp 4 0), (5, V.lp 5 0), (6, V.vs 1 z)]) e35) ⟨?_, hr, e3, rows ++ [[.it .i64 (idE a b), .it .i64 (numE (c :: d :: e :: f :: r))]], hO.put (by omega), ?_, ?_, hU.oah h1 e6, fun id q => by cases q; omega⟩ (by show r.length < r.length + 6; omega)
   ·exact lo6 rfl
   ·simp only [List.length_append, List.length_cons, List.length_nil] at e4 ⊢; omega
   ·intro e he
    rcases List.mem_append.1 he with he | he
    ·exact e5 e he
    ·rcases List.mem_singleton.1 he with rfl; exact ⟨_, _, rfl⟩
  ·have hv : valB (idE a b) (numE (c :: d :: e :: f :: r)) = false := by
    cases hh : valB (idE a b) (numE (c :: d :: e :: f :: r)) with
    | false => rfl
    | true => exact absurd (nz.2 hh) hn
   rw [hv, Bool.false_and] at e3
   have zn0 : ieq n (Int.ofNat 0) = false := by rw [ieqD]; exact decide_eq_false hn
   have ca := conn_any n
   repeat (first | refine EvQ.run ?_ | refine EvQ.lift (fun _ zn => X.pcall (ca) X.cq rfl X.al rfl zn) ?_ | refine EvQ.lift (fun _ zn => X.pcallG (ca) rfl X.cq rfl X.al rfl zn) ?_ | refine EvQ.lift (fun _ zn => X.pcallC (ca) rfl X.cq rfl X.al rfl zn) ?_ | refine EvQ.lift (fun _ zn => X.pcallT (ca) (by decide) X.cq rfl X.al rfl zn) ?_ | refine EvQ.lift (fun _ zn => X.call rfl X.al (ca) zn) ?_ | refine EvQ.fin X.rs ?_ | refine EvQ.fin1 (fun _ => rfl) rfl ?_)
   exact EvQ.rt (.inr ⟨e3.symm, .mk' X.kv ⟨n, _, hn, rfl, hU⟩⟩)
 ·have : q = [] := List.eq_nil_of_length_eq_zero (by omega)
  subst this
  repeat (first | refine EvQ.run ?_ | refine EvQ.fin X.rs ?_ | refine EvQ.fin1 (fun _ => rfl) rfl ?_)
  exact EvQ.xt (.inl ⟨e3.symm, .mk' X.kv ⟨v, rows, rfl, hO, by omega, e5, hU⟩⟩)
/-- is it an acknowledgement? -/
def ackE (fl : Int) : Bool := !ieq (wr .i64 (Int.ofNat ((toU (2 ^ kbits .i64) fl).land (toU (2 ^ kbits .i64) (Int.ofNat 1))))) (Int.ofNat 0)
set_option maxHeartbeats 32000000 in
theorem settings_any (hp : Hp) (hlm : hp.lim <= hp.next) (fl s : Int) (p : List Int) (hpl : p.length <= 1000) : ∃ w hp', EvC F false 47 [.ag (fr 4 fl s p), .ag [.it .i64 4, .it .i64 s, .bo false, .bo false, .bo false, .ns, .it .i64 0, .it .i64 0, .it .i64 0, .it .i64 0, .ns]] hp (.ret w hp') /\
  (Up hp.next hp hp' /\ ((∃ c, c ≠ 0 /\ w = .tu [.ag ptZ, .ag [.it .i64 2, .it .i64 c, .it .i64 0]] /\ (ackE fl = false -> ¬ (p.length % 6 = 0 /\ setB p = true))) \/ (∃ v rows, w = .tu [.ag (ptS s (ackE fl) v), .ag [.it .i64 0, .it .i64 0, .it .i64 0]] /\ Ow hp' v 2 rows /\ rows.length <= 1000 /\ (∀ e, e ∈ rows -> ∃ x y : Int, e = [.it .i64 x, .it .i64 y]) /\ (ackE fl = false -> p.length % 6 = 0 /\ setB p = true)))) := by
 have hl := bs_length p
 have c6 := conn_any (Int.ofNat 6)
 refine EvC.ofQ d47 rfl rfl rfl ?_
 unfold fr
 repeat (first | refine EvQ.run ?_ | refine EvQ.fin X.rs ?_ | refine EvQ.fin1 (fun _ => rfl) rfl ?_)
 rw [show (!ieq (wr .i64 (Int.ofNat ((toU (2 ^ kbits .i64) fl).land (toU (2 ^ kbits .i64) (Int.ofNat 1))))) (Int.ofNat 0)) = ackE fl from rfl]
 generalize ackE fl = ack
 have fine : ∀ (hp1 : Hp) (ack : Bool) (v : V) (rows : List (List V)), Ow hp1 v 2 rows -> isLp v = false /\ v.cells = [v] /\ v.keep = true := fun hp1 ack v rows h => ⟨h.lp, h.cells, h.keep⟩
 cases ack with
 | true =>
  rcases p with _ | ⟨x, xs⟩
  ·repeat (first | refine EvQ.run ?_ | refine EvQ.fin X.rs ?_ | refine EvQ.fin1 (fun _ => rfl) rfl ?_)
   refine EvQ.loop (set_loop hp s true [] rfl (by decide) hlm _ ?_ _ ?_) ?_
   ·exact lo7 rfl rfl rfl
   ·exact X.kv
   rintro _ (⟨hs, tm, lo, hp', rfl, v, rows, rfl, hO, hr, he, hU⟩ | ⟨hs, tm, lo, hp', rfl, c, lo1, hc, rfl, hU⟩)
   ·obtain ⟨vl, vc, vk⟩ := fine hp' true v rows hO
    repeat (first | refine EvQ.run ?_ | refine EvQ.fin X.rs ?_ | refine EvQ.fin1 (fun _ => rfl) rfl ?_)
    refine fin2 (fun _ => rfl) rfl rfl ?_
    exact ⟨_, _, rfl, hU, .inr ⟨v, rows, rfl, hO, hr, he, fun q => by cases q⟩⟩
   ·cases hs
  ·have hx : ilt (Int.ofNat 0) (Int.ofNat (bs (x :: xs)).length) = true := by rw [bs_length]; rw [ilt_eq]; exact decide_eq_true (by simp only [Int.ofNat_eq_natCast, List.length_cons]; omega)
   repeat (first | refine EvQ.run ?_ | refine EvQ.lift (fun _ zn => X.pcall (c6) X.cq rfl X.al rfl zn) ?_ | refine EvQ.lift (fun _ zn => X.pcallG (c6) rfl X.cq rfl X.al rfl zn) ?_ | refine EvQ.lift (fun _ zn => X.pcallC (c6) rfl X.cq rfl X.al rfl zn) ?_ | refine EvQ.lift (fun _ zn => X.pcallT (c6) (by decide) X.cq rfl X.al rfl zn) ?_ | refine EvQ.lift (fun _ zn => X.call rfl X.al (c6) zn) ?_ | refine EvQ.fin X.rs ?_ | refine EvQ.fin1 (fun _ => rfl) rfl ?_)
   refine fin2 (fun _ => rfl) rfl rfl ?_
   exact ⟨_, _, rfl, .refl _ _, .inl ⟨6, by decide, rfl, fun q => by cases q⟩⟩
 | false =>
  have hrem : ieq ((Int.ofNat (bs p).length).tmod (Int.ofNat 6)) (Int.ofNat 0) = decide (p.length % 6 = 0) := by
   rw [ieqD, bs_length, Bool.eq_iff_iff]
   simp only [decide_eq_true_eq, Int.ofNat_eq_natCast]
   rw [show ((p.length : Int)).tmod ((6 : Nat) : Int) = ((p.length % 6 : Nat) : Int) from rfl]
   omega
  repeat (first | refine EvQ.run ?_ | refine EvQ.fin X.rs ?_ | refine EvQ.fin1 (fun _ => rfl) rfl ?_)
  by_cases h6 : p.length % 6 = 0
  ·refine EvQ.lift (fun _ zn => X.condFs rfl (by rw [hrem, decide_eq_true h6]; rfl) zn) ?_
   repeat (first | refine EvQ.run ?_ | refine EvQ.fin X.rs ?_ | refine EvQ.fin1 (fun _ => rfl) rfl ?_)
   refine EvQ.loop (set_loop hp s false p h6 hpl hlm _ ?_ _ ?_) ?_
   ·exact lo7 rfl rfl rfl
   ·exact X.kv
   rintro _ (⟨hs, tm, lo, hp', rfl, v, rows, rfl, hO, hr, he, hU⟩ | ⟨hs, tm, lo, hp', rfl, c, lo1, hc, rfl, hU⟩)
   ·obtain ⟨vl, vc, vk⟩ := fine hp' false v rows hO
    repeat (first | refine EvQ.run ?_ | refine EvQ.fin X.rs ?_ | refine EvQ.fin1 (fun _ => rfl) rfl ?_)
    refine fin2 (fun _ => rfl) rfl rfl ?_
    exact ⟨_, _, rfl, hU, .inr ⟨v, rows, rfl, hO, hr, he, fun _ => ⟨h6, hs⟩⟩⟩
   ·repeat (first | refine EvQ.run ?_ | refine EvQ.fin X.rs ?_ | refine EvQ.fin1 (fun _ => rfl) rfl ?_)
    refine fin2 (fun _ => rfl) rfl rfl ?_
    exact ⟨_, _, rfl, hU, .inl ⟨c, hc, rfl, fun _ q => by rw [hs] at q; cases q.2⟩⟩
  ·refine EvQ.lift (fun _ zn => X.condTs rfl (by rw [hrem, decide_eq_false h6]; rfl) zn) ?_
   repeat (first | refine EvQ.run ?_ | refine EvQ.lift (fun _ zn => X.pcall (c6) X.cq rfl X.al rfl zn) ?_ | refine EvQ.lift (fun _ zn => X.pcallG (c6) rfl X.cq rfl X.al rfl zn) ?_ | refine EvQ.lift (fun _ zn => X.pcallC (c6) rfl X.cq rfl X.al rfl zn) ?_ | refine EvQ.lift (fun _ zn => X.pcallT (c6) (by decide) X.cq rfl X.al rfl zn) ?_ | refine EvQ.lift (fun _ zn => X.call rfl X.al (c6) zn) ?_ | refine EvQ.fin X.rs ?_ | refine EvQ.fin1 (fun _ => rfl) rfl ?_)
   refine fin2 (fun _ => rfl) rfl rfl ?_
   exact ⟨_, _, rfl, .refl _ _, .inl ⟨6, by decide, rfl, fun _ q => h6 q.1⟩⟩
end Go.Proofs.YtndodhmfdjcjgaaGreatDoor
