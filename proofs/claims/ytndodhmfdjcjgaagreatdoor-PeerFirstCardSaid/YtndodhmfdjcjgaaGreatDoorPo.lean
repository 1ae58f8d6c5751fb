import Derived.Test.YtndodhmfdjcjgaaGreatDoorEvE
import Derived.Test.YtndodhmfdjcjgaaGreatDoorPn
import Derived.Test.YtndodhmfdjcjgaaGreatDoorTj
set_option linter.unusedSectionVars false
set_option linter.unusedVariables false
set_option linter.unusedSimpArgs false
-- PeerFirst (EvHp EvOwn)
namespace Go.Proofs.YtndodhmfdjcjgaaGreatDoor
open Go hiding Fn
open Ev tab
theorem strip_pref (L : List Int) : strip pref (prefI ++ L) = ([], L, false) := by
 simp [strip, pref, prefI, strip_nil]
theorem feedA_nil : feedA 16777215 [] = ([], [], false) := rfl
theorem feedG_sv (sv : Bool) (L rest : List Int) (fs : List Frm) (h : feedA 16777215 L = (fs, rest, false)) : feedG 16777215 (if sv then [] else pref) [] ((if sv then [] else prefI) ++ L) = (fs, [], rest, 0) := by
 cases sv with
 | true =>
  show feedG 16777215 [] [] L = _
  unfold feedG
  rw [strip_nil]
  simp only [List.nil_append]
  rw [h]; rfl
 | false =>
  show feedG 16777215 pref [] (prefI ++ L) = _
  unfold feedG
  rw [strip_pref]
  simp only [List.nil_append]
  rw [h]; rfl
theorem prefI_bytes : Bytes prefI := by unfold Bytes prefI; decide
theorem chk_one (sv : Bool) (ty fl s : Int) (p : List Int) (hb : ByL p) (hp : p.length <= 500) : ∃ ok : Bool, EvP F 6 c6 [.bo sv, .vs 2 (mvs [(true, (if sv then [] else prefI) ++ putL [] ty fl s p)])] [.it .i64 (if ok then -1 else 0)] /\ (rightB ty fl s p.length = false -> ok = true) /\ (rightB ty fl s p.length = true -> (ok = true ↔ fineB ty fl s p)) := by
 have hpre : Bytes (if sv then [] else prefI) := by cases sv with | true => exact fun _ h => by cases h | false => exact prefI_bytes
 have hpl : (if sv then [] else prefI : List Int).length <= 24 := by cases sv <;> decide
 cases hr : rightB ty fl s p.length with
 | false =>
  have e : putL [] ty fl s p = [] := by unfold putL; rw [hr]; rfl
  rw [e]
  exact ⟨true, chk_first sv (fs := []) (ok := true) (hpre.append fun _ h => by cases h) (by simp only [List.length_append, List.length_nil]; omega) (feedG_sv sv [] [] [] feedA_nil) (.inl ⟨rfl, rfl⟩), fun _ => rfl, fun h => by cases h⟩
 | true =>
  have e : putL [] ty fl s p = h9 ty fl s p.length ++ p := by rw [putL_right hr]; rfl
  rw [e]
  have hfeed : feedA 16777215 (h9 ty fl s p.length ++ p) = ([(ty, fl, s, p)], [], false) := by
   rw [feed_put _ _ _ _ _ hr, if_neg (by omega)]
  have by1 : Bytes ((if sv then [] else prefI) ++ (h9 ty fl s p.length ++ p)) := hpre.append ((h9_bytes _ _ _ _).append hb)
  have ln : ((if sv then [] else prefI) ++ (h9 ty fl s p.length ++ p)).length <= 2000 := by simp only [List.length_append, h9_len]; omega
  by_cases hf : fineB ty fl s p
  ·exact ⟨true, chk_first sv (ok := true) by1 ln (feedG_sv sv _ _ _ hfeed) (.inr ⟨ty, fl, s, p, rfl, hb, by omega, hr, ⟨fun _ => hf, fun _ => rfl⟩⟩), fun h => (by cases h), fun _ => ⟨fun _ => hf, fun _ => rfl⟩⟩
  ·exact ⟨false, chk_first sv (ok := false) by1 ln (feedG_sv sv _ _ _ hfeed) (.inr ⟨ty, fl, s, p, rfl, hb, by omega, hr, ⟨fun h => (by cases h), fun h => absurd h hf⟩⟩), fun h => (by cases h), fun _ => ⟨fun h => (by cases h), fun h => absurd h hf⟩⟩
theorem chk_kv (sv : Bool) (ty fl s : Int) (p : List Int) (hb : ByL p) (hp : p.length <= 500) : ∃ kv : Int, EvP F 6 c6 [.bo sv, .vs 2 (mvs [(true, (if sv then [] else prefI) ++ putL [] ty fl s p)])] [.it .i64 kv] /\ (rightB ty fl s p.length = false -> kv = -1) /\ (rightB ty fl s p.length = true -> (fineB ty fl s p -> kv = -1) /\ (¬ fineB ty fl s p -> kv = 0)) := by
 obtain ⟨ok, ck, k1, k2⟩ := chk_one sv ty fl s p hb hp
 refine ⟨_, ck, fun h => by rw [k1 h]; rfl, fun h => ⟨fun q => by rw [(k2 h).2 q]; rfl, fun q => ?_⟩⟩
 cases ok with
 | true => exact absurd ((k2 h).1 rfl) q
 | false => rfl
theorem ackE_eq2 (fl : Int) : ieq (wr .i64 (Int.ofNat ((toU (2 ^ kbits .i64) fl).land (toU (2 ^ kbits .i64) (Int.ofNat 1))))) (Int.ofNat 0) = !ackE fl := by
 unfold ackE; rw [Bool.not_not]
attribute [local irreducible] EvP EvD EvL EvC EvO evGds evLs C.run sK bK gK pK fK lpB stepD ackE numE setB feedG feedA feedM d4L z16 stat putsF putL fillE
set_option maxHeartbeats 64000000 in
theorem first_run (sv : Bool) (ty fl s : Int) (p : List Int) (hb : ByL p) : ∃ h, EvD F (stepD d3 [.bo sv, .ag (fr ty fl s p)] h0) (Rt (.bo true) h) := by
 have ru := runs_ok
 have pl := bs_length p
 refine EvQ.law ?_
 by_cases h5 : 500 < p.length
 ·have z5 : ilt (Int.ofNat 500) (Int.ofNat (bs p).length) = true := by rw [pl, ilt_eq]; exact decide_eq_true (by simp only [Int.ofNat_eq_natCast]; omega)
  unfold fr
  repeat (first | refine EvQ.run ?_ | refine EvQ.lift (fun _ zn => X.pcall (ru) X.cq rfl X.al rfl zn) ?_ | refine EvQ.lift (fun _ zn => X.pcallG (ru) rfl X.cq rfl X.al rfl zn) ?_ | refine EvQ.lift (fun _ zn => X.pcallC (ru) rfl X.cq rfl X.al rfl zn) ?_ | refine EvQ.lift (fun _ zn => X.pcallT (ru) (by decide) X.cq rfl X.al rfl zn) ?_ | refine EvQ.lift (fun _ zn => X.call rfl X.al (ru) zn) ?_ | refine EvQ.fin X.rs ?_ | refine EvQ.fin1 (fun _ => rfl) rfl ?_)
  exact ⟨_, rfl⟩
 ·have z5 : ilt (Int.ofNat 500) (Int.ofNat (bs p).length) = false := by rw [pl, ilt_eq]; exact decide_eq_false (by simp only [Int.ofNat_eq_natCast]; omega)
  have pt := (rput_ok [] ty fl s p (by simp only [List.length_nil]; omega)).toP
  have rt := rright_ok ty fl s p
  obtain ⟨P, a, b, c, sp, ⟨x1, x2, x3, x4, x5, x6, x7, x8, x9, xa, xb, rfl⟩, er, rs⟩ := rshape_any ty fl s p hb (by omega)
  obtain ⟨kv, ck, k1, k2⟩ := chk_kv sv ty fl s p hb (by omega)
  have clo := fr_clo ty fl s p
  have ln := putL_len [] p ty fl s
  generalize putL [] ty fl s p = L at *
  have ln : L.length <= 509 := by simp only [List.length_nil] at ln; omega
  unfold fr at *
  cases sv with
  | true =>
   have ck : EvP F 6 c6 [.bo true, .vs 2 (mvs [(true, L)])] [.it .i64 kv] := ck
   repeat (first | refine EvQ.run ?_ | refine EvQ.fin X.rs ?_ | refine EvQ.fin1 (fun _ => rfl) rfl ?_)
   refine EvQ.lift (fun _ zn => X.pcall pt (.c rfl (.gs clo (.nil _))) rfl X.al rfl zn) ?_
   repeat (first | refine EvQ.run ?_ | refine EvQ.fin X.rs ?_ | refine EvQ.fin1 (fun _ => rfl) rfl ?_)
   refine EvQ.call (P := fun w hp' => w = .it .i64 kv) rfl X.al (ck2 (ms := [(true, L)]) (rows := [[.bo true, .vs 1 (bs L)]]) (Nat.zero_le _) (hget_new _ _) (.cons (.vs _ _) .nil) (by show L.length + 12 + 0 <= 1000000; omega) ck) ?_
   rintro _ hp6 rfl
   cases hr : rightB ty fl s p.length with
   | false =>
    rw [hr] at rt
    obtain rfl := k1 hr
    repeat (first | refine EvQ.run ?_ | refine EvQ.lift (fun _ zn => X.pcall (rt) X.cq rfl X.al rfl zn) ?_ | refine EvQ.lift (fun _ zn => X.pcallG (rt) rfl X.cq rfl X.al rfl zn) ?_ | refine EvQ.lift (fun _ zn => X.pcallC (rt) rfl X.cq rfl X.al rfl zn) ?_ | refine EvQ.lift (fun _ zn => X.pcallT (rt) (by decide) X.cq rfl X.al rfl zn) ?_ | refine EvQ.lift (fun _ zn => X.call rfl X.al (rt) zn) ?_ | refine EvQ.lift (fun _ zn => X.pcall (sp) X.cq rfl X.al rfl zn) ?_ | refine EvQ.lift (fun _ zn => X.pcallG (sp) rfl X.cq rfl X.al rfl zn) ?_ | refine EvQ.lift (fun _ zn => X.pcallC (sp) rfl X.cq rfl X.al rfl zn) ?_ | refine EvQ.lift (fun _ zn => X.pcallT (sp) (by decide) X.cq rfl X.al rfl zn) ?_ | refine EvQ.lift (fun _ zn => X.call rfl X.al (sp) zn) ?_ | refine EvQ.lift (fun _ zn => X.pcall (ru) X.cq rfl X.al rfl zn) ?_ | refine EvQ.lift (fun _ zn => X.pcallG (ru) rfl X.cq rfl X.al rfl zn) ?_ | refine EvQ.lift (fun _ zn => X.pcallC (ru) rfl X.cq rfl X.al rfl zn) ?_ | refine EvQ.lift (fun _ zn => X.pcallT (ru) (by decide) X.cq rfl X.al rfl zn) ?_ | refine EvQ.lift (fun _ zn => X.call rfl X.al (ru) zn) ?_ | refine EvQ.fin X.rs ?_ | refine EvQ.fin1 (fun _ => rfl) rfl ?_)
    exact ⟨_, rfl⟩
   | true =>
    rw [hr] at rt
    by_cases h4 : ty = 4
    ·subst h4
     cases hk : ackE fl with
     | true =>
      obtain rfl := (k2 hr).2 (fun q => by rw [q.2.1] at hk; cases hk)
      repeat (first | refine EvQ.run ?_ | refine EvQ.lift (fun _ zn => X.pcall (rt) X.cq rfl X.al rfl zn) ?_ | refine EvQ.lift (fun _ zn => X.pcallG (rt) rfl X.cq rfl X.al rfl zn) ?_ | refine EvQ.lift (fun _ zn => X.pcallC (rt) rfl X.cq rfl X.al rfl zn) ?_ | refine EvQ.lift (fun _ zn => X.pcallT (rt) (by decide) X.cq rfl X.al rfl zn) ?_ | refine EvQ.lift (fun _ zn => X.call rfl X.al (rt) zn) ?_ | refine EvQ.lift (fun _ zn => X.pcall (sp) X.cq rfl X.al rfl zn) ?_ | refine EvQ.lift (fun _ zn => X.pcallG (sp) rfl X.cq rfl X.al rfl zn) ?_ | refine EvQ.lift (fun _ zn => X.pcallC (sp) rfl X.cq rfl X.al rfl zn) ?_ | refine EvQ.lift (fun _ zn => X.pcallT (sp) (by decide) X.cq rfl X.al rfl zn) ?_ | refine EvQ.lift (fun _ zn => X.call rfl X.al (sp) zn) ?_ | refine EvQ.fin X.rs ?_ | refine EvQ.fin1 (fun _ => rfl) rfl ?_)
      rw [ackE_eq2, hk]
      repeat (first | refine EvQ.run ?_ | refine EvQ.lift (fun _ zn => X.pcall (ru) X.cq rfl X.al rfl zn) ?_ | refine EvQ.lift (fun _ zn => X.pcallG (ru) rfl X.cq rfl X.al rfl zn) ?_ | refine EvQ.lift (fun _ zn => X.pcallC (ru) rfl X.cq rfl X.al rfl zn) ?_ | refine EvQ.lift (fun _ zn => X.pcallT (ru) (by decide) X.cq rfl X.al rfl zn) ?_ | refine EvQ.lift (fun _ zn => X.call rfl X.al (ru) zn) ?_ | refine EvQ.fin X.rs ?_ | refine EvQ.fin1 (fun _ => rfl) rfl ?_)
      exact ⟨_, rfl⟩
     | false =>
      by_cases ha : a = 0
      ·obtain ⟨rfl, rfl⟩ := er rfl ha
       obtain rfl := (k2 hr).1 ⟨rfl, hk, (rs rfl hk hr).1 ha⟩
       subst ha
       repeat (first | refine EvQ.run ?_ | refine EvQ.lift (fun _ zn => X.pcall (rt) X.cq rfl X.al rfl zn) ?_ | refine EvQ.lift (fun _ zn => X.pcallG (rt) rfl X.cq rfl X.al rfl zn) ?_ | refine EvQ.lift (fun _ zn => X.pcallC (rt) rfl X.cq rfl X.al rfl zn) ?_ | refine EvQ.lift (fun _ zn => X.pcallT (rt) (by decide) X.cq rfl X.al rfl zn) ?_ | refine EvQ.lift (fun _ zn => X.call rfl X.al (rt) zn) ?_ | refine EvQ.lift (fun _ zn => X.pcall (sp) X.cq rfl X.al rfl zn) ?_ | refine EvQ.lift (fun _ zn => X.pcallG (sp) rfl X.cq rfl X.al rfl zn) ?_ | refine EvQ.lift (fun _ zn => X.pcallC (sp) rfl X.cq rfl X.al rfl zn) ?_ | refine EvQ.lift (fun _ zn => X.pcallT (sp) (by decide) X.cq rfl X.al rfl zn) ?_ | refine EvQ.lift (fun _ zn => X.call rfl X.al (sp) zn) ?_ | refine EvQ.fin X.rs ?_ | refine EvQ.fin1 (fun _ => rfl) rfl ?_)
       rw [ackE_eq2, hk]
       repeat (first | refine EvQ.run ?_ | refine EvQ.lift (fun _ zn => X.pcall (ru) X.cq rfl X.al rfl zn) ?_ | refine EvQ.lift (fun _ zn => X.pcallG (ru) rfl X.cq rfl X.al rfl zn) ?_ | refine EvQ.lift (fun _ zn => X.pcallC (ru) rfl X.cq rfl X.al rfl zn) ?_ | refine EvQ.lift (fun _ zn => X.pcallT (ru) (by decide) X.cq rfl X.al rfl zn) ?_ | refine EvQ.lift (fun _ zn => X.call rfl X.al (ru) zn) ?_ | refine EvQ.fin X.rs ?_ | refine EvQ.fin1 (fun _ => rfl) rfl ?_)
       exact ⟨_, rfl⟩
      ·have za : ieq a (Int.ofNat 0) = false := by rw [ieqD]; exact decide_eq_false ha
       obtain rfl := (k2 hr).2 (fun q => ha ((rs rfl hk hr).2 q.2.2))
       repeat (first | refine EvQ.run ?_ | refine EvQ.lift (fun _ zn => X.pcall (rt) X.cq rfl X.al rfl zn) ?_ | refine EvQ.lift (fun _ zn => X.pcallG (rt) rfl X.cq rfl X.al rfl zn) ?_ | refine EvQ.lift (fun _ zn => X.pcallC (rt) rfl X.cq rfl X.al rfl zn) ?_ | refine EvQ.lift (fun _ zn => X.pcallT (rt) (by decide) X.cq rfl X.al rfl zn) ?_ | refine EvQ.lift (fun _ zn => X.call rfl X.al (rt) zn) ?_ | refine EvQ.lift (fun _ zn => X.pcall (sp) X.cq rfl X.al rfl zn) ?_ | refine EvQ.lift (fun _ zn => X.pcallG (sp) rfl X.cq rfl X.al rfl zn) ?_ | refine EvQ.lift (fun _ zn => X.pcallC (sp) rfl X.cq rfl X.al rfl zn) ?_ | refine EvQ.lift (fun _ zn => X.pcallT (sp) (by decide) X.cq rfl X.al rfl zn) ?_ | refine EvQ.lift (fun _ zn => X.call rfl X.al (sp) zn) ?_ | refine EvQ.fin X.rs ?_ | refine EvQ.fin1 (fun _ => rfl) rfl ?_)
       rw [ackE_eq2, hk]
       repeat (first | refine EvQ.run ?_ | refine EvQ.lift (fun _ zn => X.pcall (ru) X.cq rfl X.al rfl zn) ?_ | refine EvQ.lift (fun _ zn => X.pcallG (ru) rfl X.cq rfl X.al rfl zn) ?_ | refine EvQ.lift (fun _ zn => X.pcallC (ru) rfl X.cq rfl X.al rfl zn) ?_ | refine EvQ.lift (fun _ zn => X.pcallT (ru) (by decide) X.cq rfl X.al rfl zn) ?_ | refine EvQ.lift (fun _ zn => X.call rfl X.al (ru) zn) ?_ | refine EvQ.fin X.rs ?_ | refine EvQ.fin1 (fun _ => rfl) rfl ?_)
       exact ⟨_, rfl⟩
    ·have z4 : ieq ty (Int.ofNat 4) = false := by rw [ieqD]; exact decide_eq_false h4
     obtain rfl := (k2 hr).2 (fun q => h4 q.1)
     repeat (first | refine EvQ.run ?_ | refine EvQ.lift (fun _ zn => X.pcall (rt) X.cq rfl X.al rfl zn) ?_ | refine EvQ.lift (fun _ zn => X.pcallG (rt) rfl X.cq rfl X.al rfl zn) ?_ | refine EvQ.lift (fun _ zn => X.pcallC (rt) rfl X.cq rfl X.al rfl zn) ?_ | refine EvQ.lift (fun _ zn => X.pcallT (rt) (by decide) X.cq rfl X.al rfl zn) ?_ | refine EvQ.lift (fun _ zn => X.call rfl X.al (rt) zn) ?_ | refine EvQ.lift (fun _ zn => X.pcall (sp) X.cq rfl X.al rfl zn) ?_ | refine EvQ.lift (fun _ zn => X.pcallG (sp) rfl X.cq rfl X.al rfl zn) ?_ | refine EvQ.lift (fun _ zn => X.pcallC (sp) rfl X.cq rfl X.al rfl zn) ?_ | refine EvQ.lift (fun _ zn => X.pcallT (sp) (by decide) X.cq rfl X.al rfl zn) ?_ | refine EvQ.lift (fun _ zn => X.call rfl X.al (sp) zn) ?_ | refine EvQ.lift (fun _ zn => X.pcall (ru) X.cq rfl X.al rfl zn) ?_ | refine EvQ.lift (fun _ zn => X.pcallG (ru) rfl X.cq rfl X.al rfl zn) ?_ | refine EvQ.lift (fun _ zn => X.pcallC (ru) rfl X.cq rfl X.al rfl zn) ?_ | refine EvQ.lift (fun _ zn => X.pcallT (ru) (by decide) X.cq rfl X.al rfl zn) ?_ | refine EvQ.lift (fun _ zn => X.call rfl X.al (ru) zn) ?_ | refine EvQ.fin X.rs ?_ | refine EvQ.fin1 (fun _ => rfl) rfl ?_)
     exact ⟨_, rfl⟩
  | false =>
   have ck : EvP F 6 c6 [.bo false, .vs 2 (mvs [(true, prefI ++ L)])] [.it .i64 kv] := ck
   have Ll := bs_length L
   repeat (first | refine EvQ.run ?_ | refine EvQ.fin X.rs ?_ | refine EvQ.fin1 (fun _ => rfl) rfl ?_)
   refine EvQ.lift (fun _ zn => X.pcall pt (.c rfl (.gs clo (.nil _))) rfl X.al rfl zn) ?_
   repeat (first | refine EvQ.run ?_ | refine EvQ.fin X.rs ?_ | refine EvQ.fin1 (fun _ => rfl) rfl ?_)
   refine EvQ.lift (fun _ zn => X.bsl (es' := bs prefI) (by kernel_rfl) rfl zn) ?_
   repeat (first | refine EvQ.run ?_ | refine EvQ.fin X.rs ?_ | refine EvQ.fin1 (fun _ => rfl) rfl ?_)
   have O1 : Ow (hnew h0 ⟨1, false, bs prefI⟩) (.hs 0 0 (bs prefI).length) 1 (bs prefI) := .inr ⟨0, rfl, Nat.lt_succ_self _, Nat.zero_le _, hget_new _ _⟩
   refine EvQ.lift (fun _ zn => X.apg (v := .hs 0 0 (bs prefI).length) (vy := .vs 1 (bs L)) rfl rfl O1 (Els.vs (bs L)) (fun _ => rfl) (by rw [bs_length, Ll, pref_len, Nat.mul_one]; omega) zn) ?_
   have eg : gav (hnew h0 ⟨1, false, bs prefI⟩) (.hs 0 0 (bs prefI).length) (bs prefI).length (bs L).length = .hs 1 0 (prefI ++ L).length := by
    show V.hs 1 0 ((bs prefI).length + (bs L).length) = _
    rw [bs_length, bs_length, List.length_append]
   have eh : gah (hnew h0 ⟨1, false, bs prefI⟩) (.hs 0 0 (bs prefI).length) 1 (bs prefI) (bs L) = oah (hnew h0 ⟨1, false, bs prefI⟩) (.hs 0 0 (bs prefI).length) 1 (bs (prefI ++ L)) := by
    show oah _ _ 1 (bs prefI ++ bs L) = _
    rw [bs_append]
   rw [eg, eh]
   have g4 : hget (oah (hnew h0 ⟨1, false, bs prefI⟩) (.hs 0 0 (bs prefI).length) 1 (bs (prefI ++ L))) 1 = some ⟨1, false, bs (prefI ++ L)⟩ := oah_new
   have l2 : (oah (hnew h0 ⟨1, false, bs prefI⟩) (.hs 0 0 (bs prefI).length) 1 (bs (prefI ++ L))).lim = 0 := oah_lim
   have n2 : (oah (hnew h0 ⟨1, false, bs prefI⟩) (.hs 0 0 (bs prefI).length) 1 (bs (prefI ++ L))).next = 2 := oah_next
   have N2 : Nil (oah (hnew h0 ⟨1, false, bs prefI⟩) (.hs 0 0 (bs prefI).length) 1 (bs (prefI ++ L))) := oah_nil (nil0.new _)
   generalize oah (hnew h0 ⟨1, false, bs prefI⟩) (.hs 0 0 (bs prefI).length) 1 (bs (prefI ++ L)) = hp2 at *
   have B2 : By hp2 (.hs 1 0 (prefI ++ L).length) (prefI ++ L) := By.new (by omega) (by omega) g4
   have ll : (prefI ++ L).length <= 600 := by rw [List.length_append, pref_len]; omega
   repeat (first | refine EvQ.run ?_ | refine EvQ.fin X.rs ?_ | refine EvQ.fin1 (fun _ => rfl) rfl ?_)
   refine EvQ.call (P := fun w hp' => w = .it .i64 kv) rfl X.al (ck2 (ms := [(true, prefI ++ L)]) (rows := [[.bo true, .hs 1 0 (prefI ++ L).length]]) (by rw [hnew_lim, l2]; exact Nat.zero_le _) (hget_new _ _) (.cons (B2.mono1 (Ex1.new N2 _)) .nil) (by show (prefI ++ L).length + 12 + 0 <= 1000000; omega) ck) ?_
   rintro _ hp6 rfl
   cases hr : rightB ty fl s p.length with
   | false =>
    rw [hr] at rt
    obtain rfl := k1 hr
    repeat (first | refine EvQ.run ?_ | refine EvQ.lift (fun _ zn => X.pcall (rt) X.cq rfl X.al rfl zn) ?_ | refine EvQ.lift (fun _ zn => X.pcallG (rt) rfl X.cq rfl X.al rfl zn) ?_ | refine EvQ.lift (fun _ zn => X.pcallC (rt) rfl X.cq rfl X.al rfl zn) ?_ | refine EvQ.lift (fun _ zn => X.pcallT (rt) (by decide) X.cq rfl X.al rfl zn) ?_ | refine EvQ.lift (fun _ zn => X.call rfl X.al (rt) zn) ?_ | refine EvQ.lift (fun _ zn => X.pcall (sp) X.cq rfl X.al rfl zn) ?_ | refine EvQ.lift (fun _ zn => X.pcallG (sp) rfl X.cq rfl X.al rfl zn) ?_ | refine EvQ.lift (fun _ zn => X.pcallC (sp) rfl X.cq rfl X.al rfl zn) ?_ | refine EvQ.lift (fun _ zn => X.pcallT (sp) (by decide) X.cq rfl X.al rfl zn) ?_ | refine EvQ.lift (fun _ zn => X.call rfl X.al (sp) zn) ?_ | refine EvQ.lift (fun _ zn => X.pcall (ru) X.cq rfl X.al rfl zn) ?_ | refine EvQ.lift (fun _ zn => X.pcallG (ru) rfl X.cq rfl X.al rfl zn) ?_ | refine EvQ.lift (fun _ zn => X.pcallC (ru) rfl X.cq rfl X.al rfl zn) ?_ | refine EvQ.lift (fun _ zn => X.pcallT (ru) (by decide) X.cq rfl X.al rfl zn) ?_ | refine EvQ.lift (fun _ zn => X.call rfl X.al (ru) zn) ?_ | refine EvQ.fin X.rs ?_ | refine EvQ.fin1 (fun _ => rfl) rfl ?_)
    exact ⟨_, rfl⟩
   | true =>
    rw [hr] at rt
    by_cases h4 : ty = 4
    ·subst h4
     cases hk : ackE fl with
     | true =>
      obtain rfl := (k2 hr).2 (fun q => by rw [q.2.1] at hk; cases hk)
      repeat (first | refine EvQ.run ?_ | refine EvQ.lift (fun _ zn => X.pcall (rt) X.cq rfl X.al rfl zn) ?_ | refine EvQ.lift (fun _ zn => X.pcallG (rt) rfl X.cq rfl X.al rfl zn) ?_ | refine EvQ.lift (fun _ zn => X.pcallC (rt) rfl X.cq rfl X.al rfl zn) ?_ | refine EvQ.lift (fun _ zn => X.pcallT (rt) (by decide) X.cq rfl X.al rfl zn) ?_ | refine EvQ.lift (fun _ zn => X.call rfl X.al (rt) zn) ?_ | refine EvQ.lift (fun _ zn => X.pcall (sp) X.cq rfl X.al rfl zn) ?_ | refine EvQ.lift (fun _ zn => X.pcallG (sp) rfl X.cq rfl X.al rfl zn) ?_ | refine EvQ.lift (fun _ zn => X.pcallC (sp) rfl X.cq rfl X.al rfl zn) ?_ | refine EvQ.lift (fun _ zn => X.pcallT (sp) (by decide) X.cq rfl X.al rfl zn) ?_ | refine EvQ.lift (fun _ zn => X.call rfl X.al (sp) zn) ?_ | refine EvQ.fin X.rs ?_ | refine EvQ.fin1 (fun _ => rfl) rfl ?_)
      rw [ackE_eq2, hk]
      repeat (first | refine EvQ.run ?_ | refine EvQ.lift (fun _ zn => X.pcall (ru) X.cq rfl X.al rfl zn) ?_ | refine EvQ.lift (fun _ zn => X.pcallG (ru) rfl X.cq rfl X.al rfl zn) ?_ | refine EvQ.lift (fun _ zn => X.pcallC (ru) rfl X.cq rfl X.al rfl zn) ?_ | refine EvQ.lift (fun _ zn => X.pcallT (ru) (by decide) X.cq rfl X.al rfl zn) ?_ | refine EvQ.lift (fun _ zn => X.call rfl X.al (ru) zn) ?_ | refine EvQ.fin X.rs ?_ | refine EvQ.fin1 (fun _ => rfl) rfl ?_)
      exact ⟨_, rfl⟩
     | false =>
      by_cases ha : a = 0
      ·obtain ⟨rfl, rfl⟩ := er rfl ha
       obtain rfl := (k2 hr).1 ⟨rfl, hk, (rs rfl hk hr).1 ha⟩
       subst ha
       repeat (first | refine EvQ.run ?_ | refine EvQ.lift (fun _ zn => X.pcall (rt) X.cq rfl X.al rfl zn) ?_ | refine EvQ.lift (fun _ zn => X.pcallG (rt) rfl X.cq rfl X.al rfl zn) ?_ | refine EvQ.lift (fun _ zn => X.pcallC (rt) rfl X.cq rfl X.al rfl zn) ?_ | refine EvQ.lift (fun _ zn => X.pcallT (rt) (by decide) X.cq rfl X.al rfl zn) ?_ | refine EvQ.lift (fun _ zn => X.call rfl X.al (rt) zn) ?_ | refine EvQ.lift (fun _ zn => X.pcall (sp) X.cq rfl X.al rfl zn) ?_ | refine EvQ.lift (fun _ zn => X.pcallG (sp) rfl X.cq rfl X.al rfl zn) ?_ | refine EvQ.lift (fun _ zn => X.pcallC (sp) rfl X.cq rfl X.al rfl zn) ?_ | refine EvQ.lift (fun _ zn => X.pcallT (sp) (by decide) X.cq rfl X.al rfl zn) ?_ | refine EvQ.lift (fun _ zn => X.call rfl X.al (sp) zn) ?_ | refine EvQ.fin X.rs ?_ | refine EvQ.fin1 (fun _ => rfl) rfl ?_)
       rw [ackE_eq2, hk]
       repeat (first | refine EvQ.run ?_ | refine EvQ.lift (fun _ zn => X.pcall (ru) X.cq rfl X.al rfl zn) ?_ | refine EvQ.lift (fun _ zn => X.pcallG (ru) rfl X.cq rfl X.al rfl zn) ?_ | refine EvQ.lift (fun _ zn => X.pcallC (ru) rfl X.cq rfl X.al rfl zn) ?_ | refine EvQ.lift (fun _ zn => X.pcallT (ru) (by decide) X.cq rfl X.al rfl zn) ?_ | refine EvQ.lift (fun _ zn => X.call rfl X.al (ru) zn) ?_ | refine EvQ.fin X.rs ?_ | refine EvQ.fin1 (fun _ => rfl) rfl ?_)
       exact ⟨_, rfl⟩
      ·have za : ieq a (Int.ofNat 0) = false := by rw [ieqD]; exact decide_eq_false ha
       obtain rfl := (k2 hr).2 (fun q => ha ((rs rfl hk hr).2 q.2.2))
       repeat (first | refine EvQ.run ?_ | refine EvQ.lift (fun _ zn => X.pcall (rt) X.cq rfl X.al rfl zn) ?_ | refine EvQ.lift (fun _ zn => X.pcallG (rt) rfl X.cq rfl X.al rfl zn) ?_ | refine EvQ.lift (fun _ zn => X.pcallC (rt) rfl X.cq rfl X.al rfl zn) ?_ | refine EvQ.lift (fun _ zn => X.pcallT (rt) (by decide) X.cq rfl X.al rfl zn) ?_ | refine EvQ.lift (fun _ zn => X.call rfl X.al (rt) zn) ?_ | refine EvQ.lift (fun _ zn => X.pcall (sp) X.cq rfl X.al rfl zn) ?_ | refine EvQ.lift (fun _ zn => X.pcallG (sp) rfl X.cq rfl X.al rfl zn) ?_ | refine EvQ.lift (fun _ zn => X.pcallC (sp) rfl X.cq rfl X.al rfl zn) ?_ | refine EvQ.lift (fun _ zn => X.pcallT (sp) (by decide) X.cq rfl X.al rfl zn) ?_ | refine EvQ.lift (fun _ zn => X.call rfl X.al (sp) zn) ?_ | refine EvQ.fin X.rs ?_ | refine EvQ.fin1 (fun _ => rfl) rfl ?_)
       rw [ackE_eq2, hk]
       repeat (first | refine EvQ.run ?_ | refine EvQ.lift (fun _ zn => X.pcall (ru) X.cq rfl X.al rfl zn) ?_ | refine EvQ.lift (fun _ zn => X.pcallG (ru) rfl X.cq rfl X.al rfl zn) ?_ | refine EvQ.lift (fun _ zn => X.pcallC (ru) rfl X.cq rfl X.al rfl zn) ?_ | refine EvQ.lift (fun _ zn => X.pcallT (ru) (by decide) X.cq rfl X.al rfl zn) ?_ | refine EvQ.lift (fun _ zn => X.call rfl X.al (ru) zn) ?_ | refine EvQ.fin X.rs ?_ | refine EvQ.fin1 (fun _ => rfl) rfl ?_)
       exact ⟨_, rfl⟩
    ·have z4 : ieq ty (Int.ofNat 4) = false := by rw [ieqD]; exact decide_eq_false h4
     obtain rfl := (k2 hr).2 (fun q => h4 q.1)
     repeat (first | refine EvQ.run ?_ | refine EvQ.lift (fun _ zn => X.pcall (rt) X.cq rfl X.al rfl zn) ?_ | refine EvQ.lift (fun _ zn => X.pcallG (rt) rfl X.cq rfl X.al rfl zn) ?_ | refine EvQ.lift (fun _ zn => X.pcallC (rt) rfl X.cq rfl X.al rfl zn) ?_ | refine EvQ.lift (fun _ zn => X.pcallT (rt) (by decide) X.cq rfl X.al rfl zn) ?_ | refine EvQ.lift (fun _ zn => X.call rfl X.al (rt) zn) ?_ | refine EvQ.lift (fun _ zn => X.pcall (sp) X.cq rfl X.al rfl zn) ?_ | refine EvQ.lift (fun _ zn => X.pcallG (sp) rfl X.cq rfl X.al rfl zn) ?_ | refine EvQ.lift (fun _ zn => X.pcallC (sp) rfl X.cq rfl X.al rfl zn) ?_ | refine EvQ.lift (fun _ zn => X.pcallT (sp) (by decide) X.cq rfl X.al rfl zn) ?_ | refine EvQ.lift (fun _ zn => X.call rfl X.al (sp) zn) ?_ | refine EvQ.lift (fun _ zn => X.pcall (ru) X.cq rfl X.al rfl zn) ?_ | refine EvQ.lift (fun _ zn => X.pcallG (ru) rfl X.cq rfl X.al rfl zn) ?_ | refine EvQ.lift (fun _ zn => X.pcallC (ru) rfl X.cq rfl X.al rfl zn) ?_ | refine EvQ.lift (fun _ zn => X.pcallT (ru) (by decide) X.cq rfl X.al rfl zn) ?_ | refine EvQ.lift (fun _ zn => X.call rfl X.al (ru) zn) ?_ | refine EvQ.fin X.rs ?_ | refine EvQ.fin1 (fun _ => rfl) rfl ?_)
     exact ⟨_, rfl⟩
theorem law (xs : List V) (hx : ShP [(false, [.bo]), (true, [.it .i64, .it .i64, .it .i64, .sl [.it .u8]])] xs) : ∃ L k hp', runF (callF F L k) L c3 xs h0 = .ret (.bo true) hp' := by
 obtain ⟨y, r, rfl, h3, h, e3⟩ := hx.one'
 obtain ⟨z, r, rfl, h4, h, e4⟩ := h.grp'
 cases h.nil'
 obtain ⟨sv, rfl⟩ := bool_of h3
 obtain ⟨v1, r, rfl, a1, h, e1⟩ := h4.cons'
 obtain ⟨v2, r, rfl, a2, h, e2⟩ := h.cons'
 obtain ⟨v3, r, rfl, a3, h, e3⟩ := h.cons'
 obtain ⟨v4, r, rfl, a4, h, e4⟩ := h.cons'
 cases h.nil'
 obtain ⟨ty, rfl, _⟩ := int_of a1
 obtain ⟨fl, rfl, _⟩ := int_of a2
 obtain ⟨s, rfl, _⟩ := int_of a3
 obtain ⟨es, rfl, h5, e5⟩ := slice_of a4
 obtain ⟨p, rfl, hb, _⟩ := bytes_of h5
 exact law_of d3 rfl (first_run sv ty fl s p hb)
end Go.Proofs.YtndodhmfdjcjgaaGreatDoor
