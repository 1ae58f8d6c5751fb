import Derived.Test.YtndodhmfdjcjgaaGreatDoorEvE
import Derived.Test.YtndodhmfdjcjgaaGreatDoorShB
import Derived.Test.YtndodhmfdjcjgaaGreatDoorShD
set_option linter.unusedSectionVars false
set_option linter.unusedVariables false
set_option linter.unusedSimpArgs false
-- the shape of any frame: Of (EvHp EvOwn)
namespace Go.Proofs.YtndodhmfdjcjgaaGreatDoor
open Go hiding Fn
open Ev tab
abbrev PTs : List Ty := [.one, .one, .one, .one, .one, .sl [.one], .one, .one, .one, .one, .sl [.one, .one]]
theorem pt_clo1 {a b f g h i : Int} {c d e : Bool} {x : List Int} : CloL2 PTs [.it .i64 a, .it .i64 b, .bo c, .bo d, .bo e, .vs 1 (bs x), .it .i64 f, .it .i64 g, .it .i64 h, .it .i64 i, .ns] [.it .i64 a, .it .i64 b, .bo c, .bo d, .bo e, .vs 1 (bs x), .it .i64 f, .it .i64 g, .it .i64 h, .it .i64 i, .vs 2 []] :=
 .cons (clo_it _ _) (.cons (clo_it _ _) (.cons (clo_bo _) (.cons (clo_bo _) (.cons (clo_bo _) (.cons (clo_vs [.one] _) (.cons (clo_it _ _) (.cons (clo_it _ _) (.cons (clo_it _ _) (.cons (clo_it _ _) (.cons (clo_ns [.one, .one]) .nil))))))))))
theorem cs_last {n : Nat} {hp h' : Hp} {st : Int} {ack : Bool} {T : Ty} {v w : V} (h : closeC (n + 1) T v hp = some (w, h')) :
  closeCs (n + 12) [.one, .one, .one, .one, .one, .sl [.one], .one, .one, .one, .one, T] (ptS st ack v) hp = some ([.it .i64 4, .it .i64 st, .bo false, .bo false, .bo ack, .vs 1 (bs []), .it .i64 0, .it .i64 0, .it .i64 0, .it .i64 0, w], h') := by
 have a : ∀ (k : Nat) (x : Int) (hp : Hp), closeC (k + 1) .one (.it .i64 x) hp = some (.it .i64 x, hp) := fun _ _ _ => rfl
 have b : ∀ (k : Nat) (x : Bool) (hp : Hp), closeC (k + 1) .one (.bo x) hp = some (.bo x, hp) := fun _ _ _ => rfl
 have c : ∀ (k : Nat) (hp : Hp), closeC (k + 1) (.sl [.one]) .ns hp = some (.vs 1 [], hp) := fun _ _ => rfl
 simp only [closeCs, a, b, c, h]
 rfl
theorem ptS_close {hp : Hp} {v : V} {rows : List (List V)} {st : Int} {ack : Bool} (hO : Ow hp v 2 rows) (hr : rows.length <= 1000) (he : ∀ e, e ∈ rows -> ∃ x y : Int, e = [.it .i64 x, .it .i64 y]) :
  ∃ h', closeCs depth PTs (ptS st ack v) hp = some ([.it .i64 4, .it .i64 st, .bo false, .bo false, .bo ack, .vs 1 (bs []), .it .i64 0, .it .i64 0, .it .i64 0, .it .i64 0, .vs 2 rows], h') := by
 rcases hO with ⟨rfl, rfl⟩ | ⟨id, rfl, q1, q2, q3⟩
 ·exact ⟨hp, closeCs_clo2 pt_clo0 _ _ (by decide)⟩
 ·have e : (rows.drop 0).take rows.length = rows := by rw [List.drop_zero, List.take_length]
  have c := closeC_hs (n := 99999988 + 1) (ts := [.one, .one]) (i := 0) (len := rows.length) q3 q2 rfl (by omega) (by rw [e]; intro x hx; obtain ⟨a, b, rfl⟩ := he x hx; exact .cons (clo_it _ _) (.cons (clo_it _ _) .nil)) (by show rows.length + 2 + 3 <= 99999988 + 1; omega)
  rw [e] at c
  exact ⟨_, cs_last (n := 99999988) c⟩
attribute [local irreducible] EvP EvD EvL EvC EvO evGds evLs C.run sK bK gK pK fK lpB stepD numE setB ackE
/-- what is told of the shape of SETTINGS that acknowledge nothing -/
def ShX (ty fl s : Int) (p : List Int) (P : List V) (a : Int) : Prop := ty = 4 -> ackE fl = false -> rightB ty fl s p.length = true -> (a = 0 -> (s = 0 /\ p.length % 6 = 0 /\ setB p = true) /\ ∃ (x : List Int) (f g h i : Int) (y : List (List V)), P = [.it .i64 4, .it .i64 s, .bo false, .bo false, .bo false, .vs 1 (bs x), .it .i64 f, .it .i64 g, .it .i64 h, .it .i64 i, .vs 2 y]) /\ (s = 0 -> p.length % 6 = 0 -> setB p = true -> a = 0)
theorem ShX.no {ty fl s : Int} {p : List Int} {P : List V} {a : Int} (h : ty ≠ 4) : ShX ty fl s p P a := fun e => absurd e h
set_option maxHeartbeats 64000000 in
theorem of_any (ty fl s : Int) (p : List Int) (hb : ByL p) (hp : p.length <= 1000) : ∃ P a b c, EvP F 26 c26 [.ag (fr ty fl s p)] [.ag P, .ag [.it .i64 a, .it .i64 b, .it .i64 c]] /\ PtF P /\ ShX ty fl s p P a := by
 have rt := right_ok ty fl s p
 obtain ⟨mb, ms, mx⟩ := misplaced_any ty fl s p
 have c6 := conn_any (Int.ofNat 6)
 have c1 := conn_any (Int.ofNat 1)
 have clo := fr_clo ty fl s p
 have hl := bs_length p
 have dt := data_any ty fl s p hb hp
 have hd := headers_any ty fl s p hb hp
 have pr := priority_any ty fl s p
 have wi := window_any ty fl s p
 have main : EvQ F (d26.body.run ⟨argT [.ag (fr ty fl s p)], fun _ => none, h0⟩ (fK d26)) (fun r => ∃ P a b c, PQ d26.rs [.ag P, .ag [.it .i64 a, .it .i64 b, .it .i64 c]] r /\ PtF P /\ ShX ty fl s p P a) := by
  cases hr : rightB ty fl s p.length with
  | false =>
   rw [hr] at rt
   unfold fr at *
   repeat (first | refine EvQ.run ?_ | refine EvQ.lift (fun _ zn => X.pcall (rt) X.cq rfl X.al rfl zn) ?_ | refine EvQ.lift (fun _ zn => X.pcallG (rt) rfl X.cq rfl X.al rfl zn) ?_ | refine EvQ.lift (fun _ zn => X.pcallC (rt) rfl X.cq rfl X.al rfl zn) ?_ | refine EvQ.lift (fun _ zn => X.pcallT (rt) (by decide) X.cq rfl X.al rfl zn) ?_ | refine EvQ.lift (fun _ zn => X.call rfl X.al (rt) zn) ?_ | refine EvQ.fin X.rs ?_ | refine EvQ.fin1 (fun _ => rfl) rfl ?_)
   refine fin2 (fun _ => rfl) rfl rfl ?_
   exact ⟨_, _, _, _, PQ.of (.g (closeCs_clo2 pt_clo0 _ _ (by decide)) (.gs bd_clo (.nil _))), ⟨_, _, _, _, _, _, _, _, _, _, _, rfl⟩, fun _ _ q => by rw [hr] at q; cases q⟩
  | true =>
   rw [hr] at rt
   have h0t : 0 <= ty := by unfold rightB at hr; exact (of_decide_eq_true hr).1
   by_cases h9 : 9 < ty
   ·have z9 : ilt (Int.ofNat 9) ty = true := by rw [ilt_eq]; exact decide_eq_true h9
    unfold fr at *
    repeat (first | refine EvQ.run ?_ | refine EvQ.lift (fun _ zn => X.pcall (rt) X.cq rfl X.al rfl zn) ?_ | refine EvQ.lift (fun _ zn => X.pcallG (rt) rfl X.cq rfl X.al rfl zn) ?_ | refine EvQ.lift (fun _ zn => X.pcallC (rt) rfl X.cq rfl X.al rfl zn) ?_ | refine EvQ.lift (fun _ zn => X.pcallT (rt) (by decide) X.cq rfl X.al rfl zn) ?_ | refine EvQ.lift (fun _ zn => X.call rfl X.al (rt) zn) ?_ | refine EvQ.fin X.rs ?_ | refine EvQ.fin1 (fun _ => rfl) rfl ?_)
    refine fin2 (fun _ => rfl) rfl rfl ?_
    exact ⟨_, _, _, _, PQ.of (.g (closeCs_clo2 pt_clo0 _ _ (by decide)) (.gs bd_clo (.nil _))), ⟨_, _, _, _, _, _, _, _, _, _, _, rfl⟩, .no (by omega)⟩
   ·have z9 : ilt (Int.ofNat 9) ty = false := by rw [ilt_eq]; exact decide_eq_false h9
    cases mb with
    | true =>
     unfold fr at *
     repeat (first | refine EvQ.run ?_ | refine EvQ.lift (fun _ zn => X.pcall (rt) X.cq rfl X.al rfl zn) ?_ | refine EvQ.lift (fun _ zn => X.pcallG (rt) rfl X.cq rfl X.al rfl zn) ?_ | refine EvQ.lift (fun _ zn => X.pcallC (rt) rfl X.cq rfl X.al rfl zn) ?_ | refine EvQ.lift (fun _ zn => X.pcallT (rt) (by decide) X.cq rfl X.al rfl zn) ?_ | refine EvQ.lift (fun _ zn => X.call rfl X.al (rt) zn) ?_ | refine EvQ.lift (fun _ zn => X.pcall (ms) X.cq rfl X.al rfl zn) ?_ | refine EvQ.lift (fun _ zn => X.pcallG (ms) rfl X.cq rfl X.al rfl zn) ?_ | refine EvQ.lift (fun _ zn => X.pcallC (ms) rfl X.cq rfl X.al rfl zn) ?_ | refine EvQ.lift (fun _ zn => X.pcallT (ms) (by decide) X.cq rfl X.al rfl zn) ?_ | refine EvQ.lift (fun _ zn => X.call rfl X.al (ms) zn) ?_ | refine EvQ.lift (fun _ zn => X.pcall (c1) X.cq rfl X.al rfl zn) ?_ | refine EvQ.lift (fun _ zn => X.pcallG (c1) rfl X.cq rfl X.al rfl zn) ?_ | refine EvQ.lift (fun _ zn => X.pcallC (c1) rfl X.cq rfl X.al rfl zn) ?_ | refine EvQ.lift (fun _ zn => X.pcallT (c1) (by decide) X.cq rfl X.al rfl zn) ?_ | refine EvQ.lift (fun _ zn => X.call rfl X.al (c1) zn) ?_ | refine EvQ.fin X.rs ?_ | refine EvQ.fin1 (fun _ => rfl) rfl ?_)
     refine fin2 (fun _ => rfl) rfl rfl ?_
     exact ⟨_, _, _, _, PQ.of (.g (closeCs_clo2 pt_clo0 _ _ (by decide)) (.gs bd_clo (.nil _))), ⟨_, _, _, _, _, _, _, _, _, _, _, rfl⟩, fun e _ _ => ⟨(fun q => by cases q), (fun q _ _ => by have z := mx e; rw [q] at z; cases z)⟩⟩
    | false =>
     have h10 : ty = 0 \/ ty = 1 \/ ty = 2 \/ ty = 3 \/ ty = 4 \/ ty = 5 \/ ty = 6 \/ ty = 7 \/ ty = 8 \/ ty = 9 := by omega
     rcases h10 with rfl | rfl | rfl | rfl | rfl | rfl | rfl | rfl | rfl | rfl
     ·obtain ⟨P, a, b, c, sp, x1, x2, x3, x4, x5, x6, x7, x8, x9, xa, xb, rfl⟩ := dt
      unfold fr at *
      repeat (first | refine EvQ.run ?_ | refine EvQ.lift (fun _ zn => X.pcall (rt) X.cq rfl X.al rfl zn) ?_ | refine EvQ.lift (fun _ zn => X.pcallG (rt) rfl X.cq rfl X.al rfl zn) ?_ | refine EvQ.lift (fun _ zn => X.pcallC (rt) rfl X.cq rfl X.al rfl zn) ?_ | refine EvQ.lift (fun _ zn => X.pcallT (rt) (by decide) X.cq rfl X.al rfl zn) ?_ | refine EvQ.lift (fun _ zn => X.call rfl X.al (rt) zn) ?_ | refine EvQ.lift (fun _ zn => X.pcall (ms) X.cq rfl X.al rfl zn) ?_ | refine EvQ.lift (fun _ zn => X.pcallG (ms) rfl X.cq rfl X.al rfl zn) ?_ | refine EvQ.lift (fun _ zn => X.pcallC (ms) rfl X.cq rfl X.al rfl zn) ?_ | refine EvQ.lift (fun _ zn => X.pcallT (ms) (by decide) X.cq rfl X.al rfl zn) ?_ | refine EvQ.lift (fun _ zn => X.call rfl X.al (ms) zn) ?_ | refine EvQ.fin X.rs ?_ | refine EvQ.fin1 (fun _ => rfl) rfl ?_)
      refine EvQ.lift (fun _ zn => X.pcall sp (.gs clo (.g (closeCs_clo2 pt_clo0 _ _ (by decide)) (.nil _))) rfl X.al rfl zn) ?_
      repeat (first | refine EvQ.run ?_ | refine EvQ.fin X.rs ?_ | refine EvQ.fin1 (fun _ => rfl) rfl ?_)
      refine fin2 (fun _ => rfl) rfl rfl ?_
      exact ⟨_, _, _, _, PQ.of (.gs pt_clo (.gs bd_clo (.nil _))), ⟨_, _, _, _, _, _, _, _, _, _, _, rfl⟩, .no (by decide)⟩
     ·obtain ⟨P, a, b, c, sp, x1, x2, x3, x4, x5, x6, x7, x8, x9, xa, xb, rfl⟩ := hd
      unfold fr at *
      repeat (first | refine EvQ.run ?_ | refine EvQ.lift (fun _ zn => X.pcall (rt) X.cq rfl X.al rfl zn) ?_ | refine EvQ.lift (fun _ zn => X.pcallG (rt) rfl X.cq rfl X.al rfl zn) ?_ | refine EvQ.lift (fun _ zn => X.pcallC (rt) rfl X.cq rfl X.al rfl zn) ?_ | refine EvQ.lift (fun _ zn => X.pcallT (rt) (by decide) X.cq rfl X.al rfl zn) ?_ | refine EvQ.lift (fun _ zn => X.call rfl X.al (rt) zn) ?_ | refine EvQ.lift (fun _ zn => X.pcall (ms) X.cq rfl X.al rfl zn) ?_ | refine EvQ.lift (fun _ zn => X.pcallG (ms) rfl X.cq rfl X.al rfl zn) ?_ | refine EvQ.lift (fun _ zn => X.pcallC (ms) rfl X.cq rfl X.al rfl zn) ?_ | refine EvQ.lift (fun _ zn => X.pcallT (ms) (by decide) X.cq rfl X.al rfl zn) ?_ | refine EvQ.lift (fun _ zn => X.call rfl X.al (ms) zn) ?_ | refine EvQ.fin X.rs ?_ | refine EvQ.fin1 (fun _ => rfl) rfl ?_)
      refine EvQ.lift (fun _ zn => X.pcall sp (.gs clo (.g (closeCs_clo2 pt_clo0 _ _ (by decide)) (.nil _))) rfl X.al rfl zn) ?_
      repeat (first | refine EvQ.run ?_ | refine EvQ.fin X.rs ?_ | refine EvQ.fin1 (fun _ => rfl) rfl ?_)
      refine fin2 (fun _ => rfl) rfl rfl ?_
      exact ⟨_, _, _, _, PQ.of (.gs pt_clo (.gs bd_clo (.nil _))), ⟨_, _, _, _, _, _, _, _, _, _, _, rfl⟩, .no (by decide)⟩
     ·obtain ⟨P, a, b, c, sp, x1, x2, x3, x4, x5, x6, x7, x8, x9, xa, xb, rfl⟩ := pr
      unfold fr at *
      repeat (first | refine EvQ.run ?_ | refine EvQ.lift (fun _ zn => X.pcall (rt) X.cq rfl X.al rfl zn) ?_ | refine EvQ.lift (fun _ zn => X.pcallG (rt) rfl X.cq rfl X.al rfl zn) ?_ | refine EvQ.lift (fun _ zn => X.pcallC (rt) rfl X.cq rfl X.al rfl zn) ?_ | refine EvQ.lift (fun _ zn => X.pcallT (rt) (by decide) X.cq rfl X.al rfl zn) ?_ | refine EvQ.lift (fun _ zn => X.call rfl X.al (rt) zn) ?_ | refine EvQ.lift (fun _ zn => X.pcall (ms) X.cq rfl X.al rfl zn) ?_ | refine EvQ.lift (fun _ zn => X.pcallG (ms) rfl X.cq rfl X.al rfl zn) ?_ | refine EvQ.lift (fun _ zn => X.pcallC (ms) rfl X.cq rfl X.al rfl zn) ?_ | refine EvQ.lift (fun _ zn => X.pcallT (ms) (by decide) X.cq rfl X.al rfl zn) ?_ | refine EvQ.lift (fun _ zn => X.call rfl X.al (ms) zn) ?_ | refine EvQ.fin X.rs ?_ | refine EvQ.fin1 (fun _ => rfl) rfl ?_)
      refine EvQ.lift (fun _ zn => X.pcall sp (.gs clo (.g (closeCs_clo2 pt_clo0 _ _ (by decide)) (.nil _))) rfl X.al rfl zn) ?_
      repeat (first | refine EvQ.run ?_ | refine EvQ.fin X.rs ?_ | refine EvQ.fin1 (fun _ => rfl) rfl ?_)
      refine fin2 (fun _ => rfl) rfl rfl ?_
      exact ⟨_, _, _, _, PQ.of (.gs pt_clo (.gs bd_clo (.nil _))), ⟨_, _, _, _, _, _, _, _, _, _, _, rfl⟩, .no (by decide)⟩
     ·unfold fr at *
      by_cases h4 : p.length = 4
      ·have z4 : ieq (Int.ofNat (bs p).length) (Int.ofNat 4) = true := by rw [hl, h4]; rfl
       have na := number_any p (by omega)
       repeat (first | refine EvQ.run ?_ | refine EvQ.lift (fun _ zn => X.pcall (rt) X.cq rfl X.al rfl zn) ?_ | refine EvQ.lift (fun _ zn => X.pcallG (rt) rfl X.cq rfl X.al rfl zn) ?_ | refine EvQ.lift (fun _ zn => X.pcallC (rt) rfl X.cq rfl X.al rfl zn) ?_ | refine EvQ.lift (fun _ zn => X.pcallT (rt) (by decide) X.cq rfl X.al rfl zn) ?_ | refine EvQ.lift (fun _ zn => X.call rfl X.al (rt) zn) ?_ | refine EvQ.lift (fun _ zn => X.pcall (ms) X.cq rfl X.al rfl zn) ?_ | refine EvQ.lift (fun _ zn => X.pcallG (ms) rfl X.cq rfl X.al rfl zn) ?_ | refine EvQ.lift (fun _ zn => X.pcallC (ms) rfl X.cq rfl X.al rfl zn) ?_ | refine EvQ.lift (fun _ zn => X.pcallT (ms) (by decide) X.cq rfl X.al rfl zn) ?_ | refine EvQ.lift (fun _ zn => X.call rfl X.al (ms) zn) ?_ | refine EvQ.lift (fun _ zn => X.pcall (na) X.cq rfl X.al rfl zn) ?_ | refine EvQ.lift (fun _ zn => X.pcallG (na) rfl X.cq rfl X.al rfl zn) ?_ | refine EvQ.lift (fun _ zn => X.pcallC (na) rfl X.cq rfl X.al rfl zn) ?_ | refine EvQ.lift (fun _ zn => X.pcallT (na) (by decide) X.cq rfl X.al rfl zn) ?_ | refine EvQ.lift (fun _ zn => X.call rfl X.al (na) zn) ?_ | refine EvQ.fin X.rs ?_ | refine EvQ.fin1 (fun _ => rfl) rfl ?_)
       refine fin2 (fun _ => rfl) rfl rfl ?_
       exact ⟨_, _, _, _, PQ.of (.g (closeCs_clo2 pt_clo0 _ _ (by decide)) (.gs bd_clo (.nil _))), ⟨_, _, _, _, _, _, _, _, _, _, _, rfl⟩, .no (by decide)⟩
      ·have z4 : ieq (Int.ofNat (bs p).length) (Int.ofNat 4) = false := by rw [hl, ieqD]; exact decide_eq_false (by simp only [Int.ofNat_eq_natCast]; omega)
       repeat (first | refine EvQ.run ?_ | refine EvQ.lift (fun _ zn => X.pcall (rt) X.cq rfl X.al rfl zn) ?_ | refine EvQ.lift (fun _ zn => X.pcallG (rt) rfl X.cq rfl X.al rfl zn) ?_ | refine EvQ.lift (fun _ zn => X.pcallC (rt) rfl X.cq rfl X.al rfl zn) ?_ | refine EvQ.lift (fun _ zn => X.pcallT (rt) (by decide) X.cq rfl X.al rfl zn) ?_ | refine EvQ.lift (fun _ zn => X.call rfl X.al (rt) zn) ?_ | refine EvQ.lift (fun _ zn => X.pcall (ms) X.cq rfl X.al rfl zn) ?_ | refine EvQ.lift (fun _ zn => X.pcallG (ms) rfl X.cq rfl X.al rfl zn) ?_ | refine EvQ.lift (fun _ zn => X.pcallC (ms) rfl X.cq rfl X.al rfl zn) ?_ | refine EvQ.lift (fun _ zn => X.pcallT (ms) (by decide) X.cq rfl X.al rfl zn) ?_ | refine EvQ.lift (fun _ zn => X.call rfl X.al (ms) zn) ?_ | refine EvQ.lift (fun _ zn => X.pcall (c6) X.cq rfl X.al rfl zn) ?_ | refine EvQ.lift (fun _ zn => X.pcallG (c6) rfl X.cq rfl X.al rfl zn) ?_ | refine EvQ.lift (fun _ zn => X.pcallC (c6) rfl X.cq rfl X.al rfl zn) ?_ | refine EvQ.lift (fun _ zn => X.pcallT (c6) (by decide) X.cq rfl X.al rfl zn) ?_ | refine EvQ.lift (fun _ zn => X.call rfl X.al (c6) zn) ?_ | refine EvQ.fin X.rs ?_ | refine EvQ.fin1 (fun _ => rfl) rfl ?_)
       refine fin2 (fun _ => rfl) rfl rfl ?_
       exact ⟨_, _, _, _, PQ.of (.g (closeCs_clo2 pt_clo0 _ _ (by decide)) (.gs bd_clo (.nil _))), ⟨_, _, _, _, _, _, _, _, _, _, _, rfl⟩, .no (by decide)⟩
     ·obtain ⟨w, hp', e1, hU, e2⟩ := settings_any h0 (Nat.le_refl _) fl s p hp
      have hs0 : s = 0 := by have := mx rfl; simpa using this
      unfold fr at *
      repeat (first | refine EvQ.run ?_ | refine EvQ.lift (fun _ zn => X.pcall (rt) X.cq rfl X.al rfl zn) ?_ | refine EvQ.lift (fun _ zn => X.pcallG (rt) rfl X.cq rfl X.al rfl zn) ?_ | refine EvQ.lift (fun _ zn => X.pcallC (rt) rfl X.cq rfl X.al rfl zn) ?_ | refine EvQ.lift (fun _ zn => X.pcallT (rt) (by decide) X.cq rfl X.al rfl zn) ?_ | refine EvQ.lift (fun _ zn => X.call rfl X.al (rt) zn) ?_ | refine EvQ.lift (fun _ zn => X.pcall (ms) X.cq rfl X.al rfl zn) ?_ | refine EvQ.lift (fun _ zn => X.pcallG (ms) rfl X.cq rfl X.al rfl zn) ?_ | refine EvQ.lift (fun _ zn => X.pcallC (ms) rfl X.cq rfl X.al rfl zn) ?_ | refine EvQ.lift (fun _ zn => X.pcallT (ms) (by decide) X.cq rfl X.al rfl zn) ?_ | refine EvQ.lift (fun _ zn => X.call rfl X.al (ms) zn) ?_ | refine EvQ.fin X.rs ?_ | refine EvQ.fin1 (fun _ => rfl) rfl ?_)
      refine EvQ.call (P := fun w2 hp2 => w2 = w /\ hp2 = hp') rfl X.al ⟨w, hp', e1, rfl, rfl⟩ ?_
      rintro _ _ ⟨rfl, rfl⟩
      rcases e2 with ⟨c, hc, rfl, hx⟩ | ⟨v, rows, rfl, hO, hrl, he, hx⟩
      ·repeat (first | refine EvQ.run ?_ | refine EvQ.fin X.rs ?_ | refine EvQ.fin1 (fun _ => rfl) rfl ?_)
       refine fin2 (fun _ => rfl) rfl rfl ?_
       exact ⟨_, _, _, _, PQ.of (.g (closeCs_clo2 pt_clo0 _ _ (by decide)) (.gs bd_clo (.nil _))), ⟨_, _, _, _, _, _, _, _, _, _, _, rfl⟩, fun _ ea _ => ⟨(fun q => by cases q), (fun _ q1 q2 => absurd ⟨q1, q2⟩ (hx ea))⟩⟩
      ·have vl := hO.lp
       have vc := hO.cells
       have vk := hO.keep
       obtain ⟨h', hcl⟩ := ptS_close (st := s) (ack := ackE fl) hO hrl he
       repeat (first | refine EvQ.run ?_ | refine EvQ.fin X.rs ?_ | refine EvQ.fin1 (fun _ => rfl) rfl ?_)
       refine fin2 (fun _ => rfl) rfl rfl ?_
       exact ⟨_, _, _, _, PQ.of (.g hcl (.gs bd_clo (.nil _))), ⟨_, _, _, _, _, _, _, _, _, _, _, rfl⟩, fun _ ea _ => ⟨(fun _ => ⟨⟨hs0, hx ea⟩, by rw [ea]; exact ⟨_, _, _, _, _, _, rfl⟩⟩), (fun _ _ _ => rfl)⟩⟩
     ·unfold fr at *
      repeat (first | refine EvQ.run ?_ | refine EvQ.lift (fun _ zn => X.pcall (rt) X.cq rfl X.al rfl zn) ?_ | refine EvQ.lift (fun _ zn => X.pcallG (rt) rfl X.cq rfl X.al rfl zn) ?_ | refine EvQ.lift (fun _ zn => X.pcallC (rt) rfl X.cq rfl X.al rfl zn) ?_ | refine EvQ.lift (fun _ zn => X.pcallT (rt) (by decide) X.cq rfl X.al rfl zn) ?_ | refine EvQ.lift (fun _ zn => X.call rfl X.al (rt) zn) ?_ | refine EvQ.lift (fun _ zn => X.pcall (ms) X.cq rfl X.al rfl zn) ?_ | refine EvQ.lift (fun _ zn => X.pcallG (ms) rfl X.cq rfl X.al rfl zn) ?_ | refine EvQ.lift (fun _ zn => X.pcallC (ms) rfl X.cq rfl X.al rfl zn) ?_ | refine EvQ.lift (fun _ zn => X.pcallT (ms) (by decide) X.cq rfl X.al rfl zn) ?_ | refine EvQ.lift (fun _ zn => X.call rfl X.al (ms) zn) ?_ | refine EvQ.fin X.rs ?_ | refine EvQ.fin1 (fun _ => rfl) rfl ?_)
      refine fin2 (fun _ => rfl) rfl rfl ?_
      exact ⟨_, _, _, _, PQ.of (.g (closeCs_clo2 pt_clo0 _ _ (by decide)) (.gs bd_clo (.nil _))), ⟨_, _, _, _, _, _, _, _, _, _, _, rfl⟩, .no (by decide)⟩
     ·unfold fr at *
      by_cases h8 : p.length = 8
      ·have z8 : ieq (Int.ofNat (bs p).length) (Int.ofNat 8) = true := by rw [hl, h8]; rfl
       have cp := copied_any p (by omega)
       repeat (first | refine EvQ.run ?_ | refine EvQ.lift (fun _ zn => X.pcall (rt) X.cq rfl X.al rfl zn) ?_ | refine EvQ.lift (fun _ zn => X.pcallG (rt) rfl X.cq rfl X.al rfl zn) ?_ | refine EvQ.lift (fun _ zn => X.pcallC (rt) rfl X.cq rfl X.al rfl zn) ?_ | refine EvQ.lift (fun _ zn => X.pcallT (rt) (by decide) X.cq rfl X.al rfl zn) ?_ | refine EvQ.lift (fun _ zn => X.call rfl X.al (rt) zn) ?_ | refine EvQ.lift (fun _ zn => X.pcall (ms) X.cq rfl X.al rfl zn) ?_ | refine EvQ.lift (fun _ zn => X.pcallG (ms) rfl X.cq rfl X.al rfl zn) ?_ | refine EvQ.lift (fun _ zn => X.pcallC (ms) rfl X.cq rfl X.al rfl zn) ?_ | refine EvQ.lift (fun _ zn => X.pcallT (ms) (by decide) X.cq rfl X.al rfl zn) ?_ | refine EvQ.lift (fun _ zn => X.call rfl X.al (ms) zn) ?_ | refine EvQ.lift (fun _ zn => X.pcall (cp) X.cq rfl X.al rfl zn) ?_ | refine EvQ.lift (fun _ zn => X.pcallG (cp) rfl X.cq rfl X.al rfl zn) ?_ | refine EvQ.lift (fun _ zn => X.pcallC (cp) rfl X.cq rfl X.al rfl zn) ?_ | refine EvQ.lift (fun _ zn => X.pcallT (cp) (by decide) X.cq rfl X.al rfl zn) ?_ | refine EvQ.lift (fun _ zn => X.call rfl X.al (cp) zn) ?_ | refine EvQ.fin X.rs ?_ | refine EvQ.fin1 (fun _ => rfl) rfl ?_)
       refine fin2 (fun _ => rfl) rfl rfl ?_
       exact ⟨_, _, _, _, PQ.of (.g (closeCs_clo2 pt_clo1 _ _ (by decide)) (.gs bd_clo (.nil _))), ⟨_, _, _, _, _, _, _, _, _, _, _, rfl⟩, .no (by decide)⟩
      ·have z8 : ieq (Int.ofNat (bs p).length) (Int.ofNat 8) = false := by rw [hl, ieqD]; exact decide_eq_false (by simp only [Int.ofNat_eq_natCast]; omega)
       repeat (first | refine EvQ.run ?_ | refine EvQ.lift (fun _ zn => X.pcall (rt) X.cq rfl X.al rfl zn) ?_ | refine EvQ.lift (fun _ zn => X.pcallG (rt) rfl X.cq rfl X.al rfl zn) ?_ | refine EvQ.lift (fun _ zn => X.pcallC (rt) rfl X.cq rfl X.al rfl zn) ?_ | refine EvQ.lift (fun _ zn => X.pcallT (rt) (by decide) X.cq rfl X.al rfl zn) ?_ | refine EvQ.lift (fun _ zn => X.call rfl X.al (rt) zn) ?_ | refine EvQ.lift (fun _ zn => X.pcall (ms) X.cq rfl X.al rfl zn) ?_ | refine EvQ.lift (fun _ zn => X.pcallG (ms) rfl X.cq rfl X.al rfl zn) ?_ | refine EvQ.lift (fun _ zn => X.pcallC (ms) rfl X.cq rfl X.al rfl zn) ?_ | refine EvQ.lift (fun _ zn => X.pcallT (ms) (by decide) X.cq rfl X.al rfl zn) ?_ | refine EvQ.lift (fun _ zn => X.call rfl X.al (ms) zn) ?_ | refine EvQ.lift (fun _ zn => X.pcall (c6) X.cq rfl X.al rfl zn) ?_ | refine EvQ.lift (fun _ zn => X.pcallG (c6) rfl X.cq rfl X.al rfl zn) ?_ | refine EvQ.lift (fun _ zn => X.pcallC (c6) rfl X.cq rfl X.al rfl zn) ?_ | refine EvQ.lift (fun _ zn => X.pcallT (c6) (by decide) X.cq rfl X.al rfl zn) ?_ | refine EvQ.lift (fun _ zn => X.call rfl X.al (c6) zn) ?_ | refine EvQ.fin X.rs ?_ | refine EvQ.fin1 (fun _ => rfl) rfl ?_)
       refine fin2 (fun _ => rfl) rfl rfl ?_
       exact ⟨_, _, _, _, PQ.of (.g (closeCs_clo2 pt_clo0 _ _ (by decide)) (.gs bd_clo (.nil _))), ⟨_, _, _, _, _, _, _, _, _, _, _, rfl⟩, .no (by decide)⟩
     ·unfold fr at *
      by_cases h8 : p.length < 8
      ·have z8 : ilt (Int.ofNat (bs p).length) (Int.ofNat 8) = true := by rw [hl, ilt_eq]; exact decide_eq_true (by simp only [Int.ofNat_eq_natCast]; omega)
       repeat (first | refine EvQ.run ?_ | refine EvQ.lift (fun _ zn => X.pcall (rt) X.cq rfl X.al rfl zn) ?_ | refine EvQ.lift (fun _ zn => X.pcallG (rt) rfl X.cq rfl X.al rfl zn) ?_ | refine EvQ.lift (fun _ zn => X.pcallC (rt) rfl X.cq rfl X.al rfl zn) ?_ | refine EvQ.lift (fun _ zn => X.pcallT (rt) (by decide) X.cq rfl X.al rfl zn) ?_ | refine EvQ.lift (fun _ zn => X.call rfl X.al (rt) zn) ?_ | refine EvQ.lift (fun _ zn => X.pcall (ms) X.cq rfl X.al rfl zn) ?_ | refine EvQ.lift (fun _ zn => X.pcallG (ms) rfl X.cq rfl X.al rfl zn) ?_ | refine EvQ.lift (fun _ zn => X.pcallC (ms) rfl X.cq rfl X.al rfl zn) ?_ | refine EvQ.lift (fun _ zn => X.pcallT (ms) (by decide) X.cq rfl X.al rfl zn) ?_ | refine EvQ.lift (fun _ zn => X.call rfl X.al (ms) zn) ?_ | refine EvQ.lift (fun _ zn => X.pcall (c6) X.cq rfl X.al rfl zn) ?_ | refine EvQ.lift (fun _ zn => X.pcallG (c6) rfl X.cq rfl X.al rfl zn) ?_ | refine EvQ.lift (fun _ zn => X.pcallC (c6) rfl X.cq rfl X.al rfl zn) ?_ | refine EvQ.lift (fun _ zn => X.pcallT (c6) (by decide) X.cq rfl X.al rfl zn) ?_ | refine EvQ.lift (fun _ zn => X.call rfl X.al (c6) zn) ?_ | refine EvQ.fin X.rs ?_ | refine EvQ.fin1 (fun _ => rfl) rfl ?_)
       refine fin2 (fun _ => rfl) rfl rfl ?_
       exact ⟨_, _, _, _, PQ.of (.g (closeCs_clo2 pt_clo0 _ _ (by decide)) (.gs bd_clo (.nil _))), ⟨_, _, _, _, _, _, _, _, _, _, _, rfl⟩, .no (by decide)⟩
      ·have z8 : ilt (Int.ofNat (bs p).length) (Int.ofNat 8) = false := by rw [hl, ilt_eq]; exact decide_eq_false (by simp only [Int.ofNat_eq_natCast]; omega)
       obtain ⟨n, ba⟩ := bare_any p (by omega)
       have na := number_any (p.drop 4) (by simp; omega)
       have cp := copied_any (p.drop 8) (by simp; omega)
       have e4 : List.take ((bs p).length - (Int.ofNat 4).toNat) (List.drop (Int.ofNat 4).toNat (bs p)) = bs (p.drop 4) := by
        rw [List.take_of_length_le (by simp)]
        simp [bs, List.map_drop]
       have e8 : List.take ((bs p).length - (Int.ofNat 8).toNat) (List.drop (Int.ofNat 8).toNat (bs p)) = bs (p.drop 8) := by
        rw [List.take_of_length_le (by simp)]
        simp [bs, List.map_drop]
       repeat (first | refine EvQ.run ?_ | refine EvQ.lift (fun _ zn => X.pcall (rt) X.cq rfl X.al rfl zn) ?_ | refine EvQ.lift (fun _ zn => X.pcallG (rt) rfl X.cq rfl X.al rfl zn) ?_ | refine EvQ.lift (fun _ zn => X.pcallC (rt) rfl X.cq rfl X.al rfl zn) ?_ | refine EvQ.lift (fun _ zn => X.pcallT (rt) (by decide) X.cq rfl X.al rfl zn) ?_ | refine EvQ.lift (fun _ zn => X.call rfl X.al (rt) zn) ?_ | refine EvQ.lift (fun _ zn => X.pcall (ms) X.cq rfl X.al rfl zn) ?_ | refine EvQ.lift (fun _ zn => X.pcallG (ms) rfl X.cq rfl X.al rfl zn) ?_ | refine EvQ.lift (fun _ zn => X.pcallC (ms) rfl X.cq rfl X.al rfl zn) ?_ | refine EvQ.lift (fun _ zn => X.pcallT (ms) (by decide) X.cq rfl X.al rfl zn) ?_ | refine EvQ.lift (fun _ zn => X.call rfl X.al (ms) zn) ?_ | refine EvQ.fin X.rs ?_ | refine EvQ.fin1 (fun _ => rfl) rfl ?_)
       rw [e4, e8]
       repeat (first | refine EvQ.run ?_ | refine EvQ.lift (fun _ zn => X.pcall (ba) X.cq rfl X.al rfl zn) ?_ | refine EvQ.lift (fun _ zn => X.pcallG (ba) rfl X.cq rfl X.al rfl zn) ?_ | refine EvQ.lift (fun _ zn => X.pcallC (ba) rfl X.cq rfl X.al rfl zn) ?_ | refine EvQ.lift (fun _ zn => X.pcallT (ba) (by decide) X.cq rfl X.al rfl zn) ?_ | refine EvQ.lift (fun _ zn => X.call rfl X.al (ba) zn) ?_ | refine EvQ.lift (fun _ zn => X.pcall (na) X.cq rfl X.al rfl zn) ?_ | refine EvQ.lift (fun _ zn => X.pcallG (na) rfl X.cq rfl X.al rfl zn) ?_ | refine EvQ.lift (fun _ zn => X.pcallC (na) rfl X.cq rfl X.al rfl zn) ?_ | refine EvQ.lift (fun _ zn => X.pcallT (na) (by decide) X.cq rfl X.al rfl zn) ?_ | refine EvQ.lift (fun _ zn => X.call rfl X.al (na) zn) ?_ | refine EvQ.lift (fun _ zn => X.pcall (cp) X.cq rfl X.al rfl zn) ?_ | refine EvQ.lift (fun _ zn => X.pcallG (cp) rfl X.cq rfl X.al rfl zn) ?_ | refine EvQ.lift (fun _ zn => X.pcallC (cp) rfl X.cq rfl X.al rfl zn) ?_ | refine EvQ.lift (fun _ zn => X.pcallT (cp) (by decide) X.cq rfl X.al rfl zn) ?_ | refine EvQ.lift (fun _ zn => X.call rfl X.al (cp) zn) ?_ | refine EvQ.fin X.rs ?_ | refine EvQ.fin1 (fun _ => rfl) rfl ?_)
       refine fin2 (fun _ => rfl) rfl rfl ?_
       exact ⟨_, _, _, _, PQ.of (.g (closeCs_clo2 pt_clo1 _ _ (by decide)) (.gs bd_clo (.nil _))), ⟨_, _, _, _, _, _, _, _, _, _, _, rfl⟩, .no (by decide)⟩
     ·obtain ⟨P, a, b, c, sp, x1, x2, x3, x4, x5, x6, x7, x8, x9, xa, xb, rfl⟩ := wi
      unfold fr at *
      repeat (first | refine EvQ.run ?_ | refine EvQ.lift (fun _ zn => X.pcall (rt) X.cq rfl X.al rfl zn) ?_ | refine EvQ.lift (fun _ zn => X.pcallG (rt) rfl X.cq rfl X.al rfl zn) ?_ | refine EvQ.lift (fun _ zn => X.pcallC (rt) rfl X.cq rfl X.al rfl zn) ?_ | refine EvQ.lift (fun _ zn => X.pcallT (rt) (by decide) X.cq rfl X.al rfl zn) ?_ | refine EvQ.lift (fun _ zn => X.call rfl X.al (rt) zn) ?_ | refine EvQ.lift (fun _ zn => X.pcall (ms) X.cq rfl X.al rfl zn) ?_ | refine EvQ.lift (fun _ zn => X.pcallG (ms) rfl X.cq rfl X.al rfl zn) ?_ | refine EvQ.lift (fun _ zn => X.pcallC (ms) rfl X.cq rfl X.al rfl zn) ?_ | refine EvQ.lift (fun _ zn => X.pcallT (ms) (by decide) X.cq rfl X.al rfl zn) ?_ | refine EvQ.lift (fun _ zn => X.call rfl X.al (ms) zn) ?_ | refine EvQ.fin X.rs ?_ | refine EvQ.fin1 (fun _ => rfl) rfl ?_)
      refine EvQ.lift (fun _ zn => X.pcall sp (.gs clo (.g (closeCs_clo2 pt_clo0 _ _ (by decide)) (.nil _))) rfl X.al rfl zn) ?_
      repeat (first | refine EvQ.run ?_ | refine EvQ.fin X.rs ?_ | refine EvQ.fin1 (fun _ => rfl) rfl ?_)
      refine fin2 (fun _ => rfl) rfl rfl ?_
      exact ⟨_, _, _, _, PQ.of (.gs pt_clo (.gs bd_clo (.nil _))), ⟨_, _, _, _, _, _, _, _, _, _, _, rfl⟩, .no (by decide)⟩
     ·unfold fr at *
      have cp := copied_any p (by omega)
      repeat (first | refine EvQ.run ?_ | refine EvQ.lift (fun _ zn => X.pcall (rt) X.cq rfl X.al rfl zn) ?_ | refine EvQ.lift (fun _ zn => X.pcallG (rt) rfl X.cq rfl X.al rfl zn) ?_ | refine EvQ.lift (fun _ zn => X.pcallC (rt) rfl X.cq rfl X.al rfl zn) ?_ | refine EvQ.lift (fun _ zn => X.pcallT (rt) (by decide) X.cq rfl X.al rfl zn) ?_ | refine EvQ.lift (fun _ zn => X.call rfl X.al (rt) zn) ?_ | refine EvQ.lift (fun _ zn => X.pcall (ms) X.cq rfl X.al rfl zn) ?_ | refine EvQ.lift (fun _ zn => X.pcallG (ms) rfl X.cq rfl X.al rfl zn) ?_ | refine EvQ.lift (fun _ zn => X.pcallC (ms) rfl X.cq rfl X.al rfl zn) ?_ | refine EvQ.lift (fun _ zn => X.pcallT (ms) (by decide) X.cq rfl X.al rfl zn) ?_ | refine EvQ.lift (fun _ zn => X.call rfl X.al (ms) zn) ?_ | refine EvQ.lift (fun _ zn => X.pcall (cp) X.cq rfl X.al rfl zn) ?_ | refine EvQ.lift (fun _ zn => X.pcallG (cp) rfl X.cq rfl X.al rfl zn) ?_ | refine EvQ.lift (fun _ zn => X.pcallC (cp) rfl X.cq rfl X.al rfl zn) ?_ | refine EvQ.lift (fun _ zn => X.pcallT (cp) (by decide) X.cq rfl X.al rfl zn) ?_ | refine EvQ.lift (fun _ zn => X.call rfl X.al (cp) zn) ?_ | refine EvQ.fin X.rs ?_ | refine EvQ.fin1 (fun _ => rfl) rfl ?_)
      refine fin2 (fun _ => rfl) rfl rfl ?_
      exact ⟨_, _, _, _, PQ.of (.g (closeCs_clo2 pt_clo1 _ _ (by decide)) (.gs bd_clo (.nil _))), ⟨_, _, _, _, _, _, _, _, _, _, _, rfl⟩, .no (by decide)⟩
 obtain ⟨r, h, P, a, b, c, q, z⟩ := main
 exact ⟨P, a, b, c, EvP.ofQ d26 rfl rfl rfl ⟨r, h, q⟩, z⟩
end Go.Proofs.YtndodhmfdjcjgaaGreatDoor
