import Derived.Test.YtndodhmfdjcjgaaGreatDoorEvE
import Derived.Test.YtndodhmfdjcjgaaGreatDoorPc
set_option linter.unusedSectionVars false
set_option linter.unusedVariables false
set_option linter.unusedSimpArgs false
-- one move that is said first (EvHp EvOwn)
namespace Go.Proofs.YtndodhmfdjcjgaaGreatDoor
open Go hiding Fn
open Ev tab
attribute [local irreducible] EvP EvD EvL EvC EvO evGds evLs C.run sK bK gK pK fK lpB stepD ackE numE setB feedG
def fineB (ty fl s : Int) (p : List Int) : Prop := ty = 4 /\ ackE fl = false /\ s = 0 /\ p.length % 6 = 0 /\ setB p = true
/-- what comes of bytes that hold one frame, or none -/
def FstB (fs : List Frm) (ok : Bool) : Prop := (fs = [] /\ ok = true) \/ ∃ ty fl s p, fs = [(ty, fl, s, p)] /\ ByL p /\ p.length <= 1000 /\ rightB ty fl s p.length = true /\ (ok = true ↔ fineB ty fl s p)
set_option maxHeartbeats 32000000 in
theorem mv_first {hp : Hp} {sv : Bool} {u v : V} {pre pre' : List Nat} {b rest : List Int} {fs : List Frm} {ok : Bool} (hJ : hget hp 0 = some ⟨13, false, [jrow0 sv u]⟩) (hR : RdO hp 3 16777215 pre .ns 0 0) (hV : By hp v b) (hby : Bytes b) (hl : b.length <= 2000) (hpl : pre.length <= 1000) (hlim : hp.lim = 0) (hn : 4 <= hp.next) (hN : Nil hp) (hu : u.keep = true)
  (hf : feedG 16777215 pre [] b = (fs, pre', rest, 0)) (hq : FstB fs ok) : ∃ w hp', EvC F false 13 [.pt 0 0 0, .pt 3 0 0, v] hp (.ret w hp') /\ w = .bo ok := by
 obtain ⟨out, bv', hp1, q1, q2, -, -, q5, -⟩ := feed_gen hR (.ns hp) hV (fun _ h => by cases h) hby (by simp; omega) hpl (by omega) (by omega) hN
 rw [hf] at q1 q2
 have q1 : EvC F false 14 [.pt 3 0 0, v] hp (.ret (.tu [out, .ag [.it .i64 0, .it .i64 0, .it .i64 0]]) hp1) := q1
 have hJ1 : hget hp1 0 = some ⟨13, false, [jrow0 sv u]⟩ := q5.get 0 _ (by decide) hJ
 have hlim1 : hp1.lim = 0 := by rw [q5.lim]; exact hlim
 have hvl := hV.lp
 rcases hq with ⟨rfl, rfl⟩ | ⟨ty, fl, s, p, rfl, hb, hpl, hr, hok⟩
 ·rcases q2 with ⟨rfl, _⟩ | ⟨id, rows, rfl, hz, hlt, hil, hg4, hF⟩
  all_goals
   refine EvC.ofQ d13 rfl rfl rfl ?_
   repeat (first | refine EvQ.run ?_ | refine EvQ.fin X.rs ?_ | refine EvQ.fin1 (fun _ => rfl) rfl ?_)
   refine EvQ.lift (fun _ zn => X.call rfl X.al q1 zn) ?_
   repeat (first | refine EvQ.run ?_ | refine EvQ.fin X.rs ?_ | refine EvQ.fin1 (fun _ => rfl) rfl ?_)
   refine EvQ.loop (QL := XtQ 0 [(8, .lp 8 0)] (fun lo hp' => lo = lset (fun _ => none) 8 [.it .i64 0, .it .i64 0, .it .i64 0])) ?_ ?_
   ·refine EvL.invQ (S := Unit) (fun _ => _) (fun _ lo hp' => shed [10] lo = lset (fun _ => none) 8 [.it .i64 0, .it .i64 0, .it .i64 0]) (fun _ => 0) _ ?_ () _ _ _ X.lo X.kv
    rintro _ lo hp' e1
    rw [e1]
    repeat (first | refine EvQ.run ?_ | refine EvQ.fin X.rs ?_ | refine EvQ.fin1 (fun _ => rfl) rfl ?_)
    exact EvQ.xt (.mk' X.kv X.lo)
   ·rintro _ ⟨tm, lo, hp', rfl, rfl⟩
    repeat (first | refine EvQ.run ?_ | refine EvQ.fin X.rs ?_ | refine EvQ.fin1 (fun _ => rfl) rfl ?_)
    exact ⟨_, _, rfl, rfl⟩
 ·rcases q2 with ⟨_, q⟩ | ⟨id, rows, rfl, hz, hlt, hil, hg4, hF⟩
  ·cases q
  cases hF with
  | cons hpv hfz hrest =>
  cases hrest
  rename_i pv
  have pvl := hpv.lp
  have pvc := hpv.cells
  have pvk := hpv.keep
  obtain ⟨w, hp2, hsay, ok2, rfl, hok2⟩ := say_first (ty := ty) (fl := fl) (s := s) hJ1 hpv (fun id e => by have := hfz id e; omega) hlim1 hb hpl hu hr
  have ee : ok2 = ok := by
   rw [Bool.eq_iff_iff, hok, hok2]; exact Iff.rfl
  subst ee
  refine EvC.ofQ d13 rfl rfl rfl ?_
  repeat (first | refine EvQ.run ?_ | refine EvQ.fin X.rs ?_ | refine EvQ.fin1 (fun _ => rfl) rfl ?_)
  refine EvQ.lift (fun _ zn => X.call rfl X.al q1 zn) ?_
  repeat (first | refine EvQ.run ?_ | refine EvQ.fin X.rs ?_ | refine EvQ.fin1 (fun _ => rfl) rfl ?_)
  refine EvQ.loop (QL := fun r => (ok2 = true /\ XtQ 0 [(8, .lp 8 0)] (fun lo hp' => lo = lset (fun _ => none) 8 [.it .i64 0, .it .i64 0, .it .i64 0]) r) \/ (ok2 = false /\ RtQ [(6, .bo false)] (fun lo hp' => True) r)) ?_ ?_
  ·refine EvL.invQ (S := Nat) (fun i => [(0, .pt 0 0 0), (8, .lp 8 0), (17, .hs id 0 1), (18, .it .i64 (Int.ofNat 1)), (19, .it .i64 (Int.ofNat i))]) (fun i lo hp' => shed [10] lo = lset (fun _ => none) 8 [.it .i64 0, .it .i64 0, .it .i64 0] /\ ((i = 0 /\ hp' = hp1) \/ (i = 1 /\ ok2 = true))) (fun i => 1 - i) _ ?_ 0 _ _ _ ⟨X.lo, .inl ⟨rfl, rfl⟩⟩ X.kv
   rintro i lo hp' ⟨e1, ⟨rfl, rfl⟩ | ⟨rfl, rfl⟩⟩
   ·rw [e1]
    repeat (first | refine EvQ.run ?_ | refine EvQ.fin X.rs ?_ | refine EvQ.fin1 (fun _ => rfl) rfl ?_)
    refine EvQ.lift (fun _ zn => X.call rfl X.al hsay zn) ?_
    cases ok2 with
    | true =>
     repeat (first | refine EvQ.run ?_ | refine EvQ.fin X.rs ?_ | refine EvQ.fin1 (fun _ => rfl) rfl ?_)
     exact EvQ.go 1 X.kv ⟨X.lo, .inr ⟨rfl, rfl⟩⟩ (by decide)
    | false =>
     repeat (first | refine EvQ.run ?_ | refine EvQ.fin X.rs ?_ | refine EvQ.fin1 (fun _ => rfl) rfl ?_)
     exact EvQ.rt (.inr ⟨rfl, .mk' X.kv trivial⟩)
   ·rw [e1]
    repeat (first | refine EvQ.run ?_ | refine EvQ.fin X.rs ?_ | refine EvQ.fin1 (fun _ => rfl) rfl ?_)
    exact EvQ.xt (.inl ⟨rfl, .mk' X.kv X.lo⟩)
  ·rintro _ (⟨rfl, tm, lo, hp', rfl, rfl⟩ | ⟨rfl, tm, lo, hp', rfl, -⟩)
   all_goals
    repeat (first | refine EvQ.run ?_ | refine EvQ.fin X.rs ?_ | refine EvQ.fin1 (fun _ => rfl) rfl ?_)
    exact ⟨_, _, rfl, rfl⟩
theorem frF_at {hp : Hp} {k : Nat} (hk : hp.next = k) {m : Int} (h : m = 16777215 \/ m = 16384) : EvC F false 12 [.it .i64 m, .bo false] hp (.ret (.tu [.pt k 0 0, .it .i64 0]) (hnew hp ⟨6, false, [rowR m [] .ns 0 0]⟩)) := by subst hk; exact frF_ok hp m h
theorem frT_at {hp : Hp} {k : Nat} (hk : hp.next = k) (hl : hp.lim <= hp.next) {m : Int} (h : m = 16777215 \/ m = 16384) : EvC F false 12 [.it .i64 m, .bo true] hp (.ret (.tu [.pt k 0 0, .it .i64 0]) (hset (hnew hp ⟨6, false, [rowR m [] .ns 0 0]⟩) k (some ⟨6, false, [rowR m pref .ns 0 0]⟩))) := by subst hk; exact frT_ok hp hl m h
theorem nil0 : Nil h0 := fun _ _ => rfl
/-- a judge and the reader of what is said, at the beginning -/
structure Bgn (hp : Hp) (pre : List Nat) : Prop where
 j : ∃ sv, hget hp 0 = some ⟨13, false, [jrow0 sv (.pt 2 0 0)]⟩
 r : RdO hp 3 16777215 pre .ns 0 0
 lim : hp.lim = 0
 next : 4 <= hp.next
 nil : Nil hp
set_option maxHeartbeats 32000000 in
theorem chk_first (sv : Bool) {b rest : List Int} {pre' : List Nat} {fs : List Frm} {ok : Bool} (hby : Bytes b) (hl : b.length <= 2000) (hf : feedG 16777215 (if sv then [] else pref) [] b = (fs, pre', rest, 0)) (hq : FstB fs ok) :
  EvP F 6 c6 [.bo sv, .vs 2 [[.bo true, .vs 1 (bs b)]]] [.it .i64 (if ok then -1 else 0)] := by
 have f1 := first_ok
 have un := unpN_ok (hnew h0 ⟨13, false, [jrow0 sv .np]⟩)
 obtain ⟨pre, hpre⟩ : ∃ pre, pre = (if sv then [] else pref) := ⟨_, rfl⟩
 rw [<- hpre] at hf
 have hpl : pre.length <= 1000 := by subst hpre; cases sv <;> decide
 refine EvP.ofQ d6 rfl rfl rfl ?_
 cases sv with
 | true =>
  repeat (first | refine EvQ.run ?_ | refine EvQ.lift (fun _ zn => X.pcall (f1) X.cq rfl X.al rfl zn) ?_ | refine EvQ.lift (fun _ zn => X.pcallG (f1) rfl X.cq rfl X.al rfl zn) ?_ | refine EvQ.lift (fun _ zn => X.pcallC (f1) rfl X.cq rfl X.al rfl zn) ?_ | refine EvQ.lift (fun _ zn => X.pcallT (f1) (by decide) X.cq rfl X.al rfl zn) ?_ | refine EvQ.lift (fun _ zn => X.call rfl X.al (f1) zn) ?_ | refine EvQ.lift (fun _ zn => X.pcall (un) X.cq rfl X.al rfl zn) ?_ | refine EvQ.lift (fun _ zn => X.pcallG (un) rfl X.cq rfl X.al rfl zn) ?_ | refine EvQ.lift (fun _ zn => X.pcallC (un) rfl X.cq rfl X.al rfl zn) ?_ | refine EvQ.lift (fun _ zn => X.pcallT (un) (by decide) X.cq rfl X.al rfl zn) ?_ | refine EvQ.lift (fun _ zn => X.call rfl X.al (un) zn) ?_ | refine EvQ.fin X.rs ?_ | refine EvQ.fin1 (fun _ => rfl) rfl ?_)
  refine EvQ.lift (fun _ zn => X.call rfl X.al (frF_at (k := 3) rfl (.inl rfl)) zn) ?_
  repeat (first | refine EvQ.run ?_ | refine EvQ.fin X.rs ?_ | refine EvQ.fin1 (fun _ => rfl) rfl ?_)
  refine EvQ.lift (fun _ zn => X.call rfl X.al (frT_at (k := 4) rfl (Nat.zero_le _) (.inr rfl)) zn) ?_
  repeat (first | refine EvQ.run ?_ | refine EvQ.fin X.rs ?_ | refine EvQ.fin1 (fun _ => rfl) rfl ?_)
  refine EvQ.loop (QL := fun r => (ok = true /\ XtQ 0 [] (fun lo hp' => True) r) \/ (ok = false /\ RtQ [(4, .it .i64 0)] (fun lo hp' => True) r)) ?_ ?_
  ·refine EvL.invQ (S := Nat) (fun i => [(5, .pt 0 0 0), (6, .pt 3 0 0), (8, .pt 4 0 0), (39, .vs 2 [[.bo true, .vs 1 (bs b)]]), (40, .it .i64 (Int.ofNat 1)), (41, .it .i64 (Int.ofNat i))]) (fun i lo hp' => shed [11, 13, 15] lo = (fun _ => none) /\ ((i = 0 /\ Bgn hp' pre) \/ (i = 1 /\ ok = true))) (fun i => 1 - i) _ ?_ 0 _ _ _ ⟨X.lo, .inl ⟨rfl, ?_⟩⟩ X.kv
   ·rintro i lo hp' ⟨e1, ⟨rfl, hB⟩ | ⟨rfl, rfl⟩⟩
    ·obtain ⟨⟨sw, hBj⟩, hBr, hBl, hBn, hBN⟩ := hB
     obtain ⟨w, hp2, hmv, rfl⟩ := mv_first hBj hBr (.vs hp' b) hby hl hpl hBl hBn hBN rfl hf hq
     rw [e1]
     repeat (first | refine EvQ.run ?_ | refine EvQ.fin X.rs ?_ | refine EvQ.fin1 (fun _ => rfl) rfl ?_)
     refine EvQ.lift (fun _ zn => X.call rfl X.al hmv zn) ?_
     cases ok with
     | true =>
      repeat (first | refine EvQ.run ?_ | refine EvQ.fin X.rs ?_ | refine EvQ.fin1 (fun _ => rfl) rfl ?_)
      exact EvQ.go 1 X.kv ⟨X.lo, .inr ⟨rfl, rfl⟩⟩ (by decide)
     | false =>
      repeat (first | refine EvQ.run ?_ | refine EvQ.fin X.rs ?_ | refine EvQ.fin1 (fun _ => rfl) rfl ?_)
      exact EvQ.rt (.inr ⟨rfl, .mk' X.kv trivial⟩)
    ·rw [e1]
     repeat (first | refine EvQ.run ?_ | refine EvQ.fin X.rs ?_ | refine EvQ.fin1 (fun _ => rfl) rfl ?_)
     exact EvQ.xt (.inl ⟨rfl, .mk' X.kv trivial⟩)
   ·subst hpre
    exact ⟨⟨_, rfl⟩, rfl, rfl, Nat.le_of_ble_eq_true rfl, by first | exact Nil.set (Nil.new (Nil.new (Nil.set (Nil.new (Nil.new (Nil.new nil0 _) _) _) (Nat.lt_of_lt_of_le (by decide) (Nat.le_refl _)) _) _) _) (Nat.lt_of_lt_of_le (by decide) (Nat.le_refl _)) _ | exact Nil.new (Nil.set (Nil.new (Nil.set (Nil.new (Nil.new (Nil.new nil0 _) _) _) (Nat.lt_of_lt_of_le (by decide) (Nat.le_refl _)) _) _) (Nat.lt_of_lt_of_le (by decide) (Nat.le_refl _)) _) _⟩
  ·rintro _ (⟨rfl, tm, lo, hp', rfl, -⟩ | ⟨rfl, tm, lo, hp', rfl, -⟩)
   all_goals
    repeat (first | refine EvQ.run ?_ | refine EvQ.fin X.rs ?_ | refine EvQ.fin1 (fun _ => rfl) rfl ?_)
    exact PQ.it rfl
 | false =>
  repeat (first | refine EvQ.run ?_ | refine EvQ.lift (fun _ zn => X.pcall (f1) X.cq rfl X.al rfl zn) ?_ | refine EvQ.lift (fun _ zn => X.pcallG (f1) rfl X.cq rfl X.al rfl zn) ?_ | refine EvQ.lift (fun _ zn => X.pcallC (f1) rfl X.cq rfl X.al rfl zn) ?_ | refine EvQ.lift (fun _ zn => X.pcallT (f1) (by decide) X.cq rfl X.al rfl zn) ?_ | refine EvQ.lift (fun _ zn => X.call rfl X.al (f1) zn) ?_ | refine EvQ.lift (fun _ zn => X.pcall (un) X.cq rfl X.al rfl zn) ?_ | refine EvQ.lift (fun _ zn => X.pcallG (un) rfl X.cq rfl X.al rfl zn) ?_ | refine EvQ.lift (fun _ zn => X.pcallC (un) rfl X.cq rfl X.al rfl zn) ?_ | refine EvQ.lift (fun _ zn => X.pcallT (un) (by decide) X.cq rfl X.al rfl zn) ?_ | refine EvQ.lift (fun _ zn => X.call rfl X.al (un) zn) ?_ | refine EvQ.fin X.rs ?_ | refine EvQ.fin1 (fun _ => rfl) rfl ?_)
  refine EvQ.lift (fun _ zn => X.call rfl X.al (frT_at (k := 3) rfl (Nat.zero_le _) (.inl rfl)) zn) ?_
  repeat (first | refine EvQ.run ?_ | refine EvQ.fin X.rs ?_ | refine EvQ.fin1 (fun _ => rfl) rfl ?_)
  refine EvQ.lift (fun _ zn => X.call rfl X.al (frF_at (k := 4) rfl (.inr rfl)) zn) ?_
  repeat (first | refine EvQ.run ?_ | refine EvQ.fin X.rs ?_ | refine EvQ.fin1 (fun _ => rfl) rfl ?_)
  refine EvQ.loop (QL := fun r => (ok = true /\ XtQ 0 [] (fun lo hp' => True) r) \/ (ok = false /\ RtQ [(4, .it .i64 0)] (fun lo hp' => True) r)) ?_ ?_
  ·refine EvL.invQ (S := Nat) (fun i => [(5, .pt 0 0 0), (6, .pt 3 0 0), (8, .pt 4 0 0), (39, .vs 2 [[.bo true, .vs 1 (bs b)]]), (40, .it .i64 (Int.ofNat 1)), (41, .it .i64 (Int.ofNat i))]) (fun i lo hp' => shed [11, 13, 15] lo = (fun _ => none) /\ ((i = 0 /\ Bgn hp' pre) \/ (i = 1 /\ ok = true))) (fun i => 1 - i) _ ?_ 0 _ _ _ ⟨X.lo, .inl ⟨rfl, ?_⟩⟩ X.kv
   ·rintro i lo hp' ⟨e1, ⟨rfl, hB⟩ | ⟨rfl, rfl⟩⟩
    ·obtain ⟨⟨sw, hBj⟩, hBr, hBl, hBn, hBN⟩ := hB
     obtain ⟨w, hp2, hmv, rfl⟩ := mv_first hBj hBr (.vs hp' b) hby hl hpl hBl hBn hBN rfl hf hq
     rw [e1]
     repeat (first | refine EvQ.run ?_ | refine EvQ.fin X.rs ?_ | refine EvQ.fin1 (fun _ => rfl) rfl ?_)
     refine EvQ.lift (fun _ zn => X.call rfl X.al hmv zn) ?_
     cases ok with
     | true =>
      repeat (first | refine EvQ.run ?_ | refine EvQ.fin X.rs ?_ | refine EvQ.fin1 (fun _ => rfl) rfl ?_)
      exact EvQ.go 1 X.kv ⟨X.lo, .inr ⟨rfl, rfl⟩⟩ (by decide)
     | false =>
      repeat (first | refine EvQ.run ?_ | refine EvQ.fin X.rs ?_ | refine EvQ.fin1 (fun _ => rfl) rfl ?_)
      exact EvQ.rt (.inr ⟨rfl, .mk' X.kv trivial⟩)
    ·rw [e1]
     repeat (first | refine EvQ.run ?_ | refine EvQ.fin X.rs ?_ | refine EvQ.fin1 (fun _ => rfl) rfl ?_)
     exact EvQ.xt (.inl ⟨rfl, .mk' X.kv trivial⟩)
   ·subst hpre
    exact ⟨⟨_, rfl⟩, rfl, rfl, Nat.le_of_ble_eq_true rfl, by first | exact Nil.set (Nil.new (Nil.new (Nil.set (Nil.new (Nil.new (Nil.new nil0 _) _) _) (Nat.lt_of_lt_of_le (by decide) (Nat.le_refl _)) _) _) _) (Nat.lt_of_lt_of_le (by decide) (Nat.le_refl _)) _ | exact Nil.new (Nil.set (Nil.new (Nil.set (Nil.new (Nil.new (Nil.new nil0 _) _) _) (Nat.lt_of_lt_of_le (by decide) (Nat.le_refl _)) _) _) (Nat.lt_of_lt_of_le (by decide) (Nat.le_refl _)) _) _⟩
  ·rintro _ (⟨rfl, tm, lo, hp', rfl, -⟩ | ⟨rfl, tm, lo, hp', rfl, -⟩)
   all_goals
    repeat (first | refine EvQ.run ?_ | refine EvQ.fin X.rs ?_ | refine EvQ.fin1 (fun _ => rfl) rfl ?_)
    exact PQ.it rfl
end Go.Proofs.YtndodhmfdjcjgaaGreatDoor
