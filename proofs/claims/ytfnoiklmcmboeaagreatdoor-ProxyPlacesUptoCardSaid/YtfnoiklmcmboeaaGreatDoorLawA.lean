import Derived.Test.YtfnoiklmcmboeaaGreatDoorEvE
import Derived.Test.YtfnoiklmcmboeaaGreatDoorMemo3
import Derived.KernelRfl
set_option linter.unusedVariables false
set_option linter.unusedSimpArgs false
set_option linter.unusedSectionVars false
set_option maxHeartbeats 640000000
namespace Go.Proofs.YtfnoiklmcmboeaaGreatDoor
open Go hiding Fn
open Ev tab
def crHp : CR -> Hp
 | .ret _ h => h
 | _ => h0
def hp9 : Hp := crHp (runF (callF F11 20000 200) 20000 c9 [] h0)
def Fq : Nat -> Option Ev.Fn := fun i => bif Nat.beq i 9 then some (memoFn c9 (.bo true) hp9) else F2 i
theorem memo_call {F : Nat -> Option Ev.Fn} {f : Nat} {fn : Ev.Fn} {h : Hp} (hF : F f = some (memoFn fn (.bo true) h)) (h1 : fn.md = .pure) (h2 : fn.ps = []) (h3 : fn.rs = [.c .one]) (hp : Hp) : EvC F false f [] hp (.ret (.bo true) hp) := ⟨1, fun L n _ hn => by
 obtain ⟨m, rfl⟩ : ∃ m, n = m + 1 := ⟨n - 1, by omega⟩
 obtain ⟨ps, rs, md, res, body⟩ := fn
 simp only at h1 h2 h3
 subst h1; subst h2; subst h3
 simp only [callF, hF]
 rfl⟩
theorem hF9 : Fq 9 = some (memoFn c9 (.bo true) hp9) := rfl
theorem cr_ok (hp : Hp) : EvC Fq false 9 [] hp (.ret (.bo true) hp) := memo_call hF9 rfl rfl rfl hp
end Go.Proofs.YtfnoiklmcmboeaaGreatDoor
namespace Go.Proofs.YtfnoiklmcmboeaaGreatDoor.cnw
open Go hiding Fn
open Ev tab
def rowsOf : CR -> V
 | .ret v _ => v
 | _ => .un
def stat : V := rowsOf (callF Fq 100 2 false 128 [] h0)
theorem stat_eq : ∃ es, es.length = 61 /\ stat = .vs 2 es := by
 refine ⟨(match stat with | .vs _ es => es | _ => []), ?_, ?_⟩ <;> kernel_rfl
theorem all_go (N M : Nat) (hp : Hp) : callF Fq (N + 100) (M + 2) false 128 [] hp = .ret stat hp := by kernel_rfl
theorem all_ok (hp : Hp) : EvC Fq false 128 [] hp (.ret stat hp) := ⟨100, fun L n h1 h2 => by
 obtain ⟨N, rfl⟩ : ∃ N, L = N + 100 := ⟨L - 100, by omega⟩
 obtain ⟨M, rfl⟩ : ∃ M, n = M + 2 := ⟨n - 2, by omega⟩
 exact all_go N M hp⟩
attribute [local irreducible] C.run EvC EvD EvL EvP bK evGds evLs fK gK lpB pK sK stepD
def rightB (ty fl s : Int) (n : Nat) : Bool := decide (0 <= ty /\ ty <= 255 /\ 0 <= fl /\ fl <= 255 /\ 0 <= s /\ s <= 2147483647 /\ n <= 16777215)
def fr (ty fl s : Int) (p : List Int) : List V := [.it .i64 ty, .it .i64 fl, .it .i64 s, .vs 1 (bs p)]
theorem fr_clo (ty fl s : Int) (p : List Int) : CloL [.one, .one, .one, .sl [.one]] (fr ty fl s p) :=
 .cons (clo_it _ _) (.cons (clo_it _ _) (.cons (clo_it _ _) (.cons (clo_vs [.one] _) .nil)))
theorem right_ok (ty fl s : Int) (p : List Int) : EvP Fq 94 c94 [.ag (fr ty fl s p)] [.bo (rightB ty fl s p.length)] := by
 have hl := bs_length p
 unfold fr
 refine EvP.ofQ d94 rfl rfl rfl ?_
 repeat' (first | refine EvQ.run ?_ | (refine EvQ.pickB rfl rfl rfl ?_) | (refine EvQ.cond rfl (fun h => ?_) (fun h => ?_) <;> ((first | replace h := X.nm h | skip); try have hne := ne_len h)) | (refine EvQ.g1 rfl (fun h => ?_) (fun h => ?_) <;> ((first | replace h := X.nm h | skip); try have hne := ne_len h)) | (refine EvQ.pick rfl (fun _ => rfl) (fun _ => rfl) (fun h => ?_) (fun h => ?_) <;> ((first | replace h := X.nm h | skip); try have hne := ne_len h)) | refine EvQ.fin X.rs ?_ | refine EvQ.fin1 (fun _ => rfl) rfl ?_)
 all_goals
  refine PQ.bo ?_
  rw [Bool.eq_iff_iff]
  simp [rightB, ilt_eq, bs_length] at *
  try omega
def h9 (ty fl s : Int) (n : Nat) : List Int := [(n : Int) / 65536 % 256, (n : Int) / 256 % 256, (n : Int) % 256, ty % 256, fl % 256, s / 16777216 % 256, s / 65536 % 256, s / 256 % 256, s % 256]
def putL (b : List Int) (ty fl s : Int) (p : List Int) : List Int := if rightB ty fl s p.length then b ++ h9 ty fl s p.length ++ p else b
theorem put_ok (b : List Int) (ty fl s : Int) (p : List Int) (hb : b.length + p.length <= 10000000) : EvO Fq 57 c57 [.vs 1 (bs b), .ag (fr ty fl s p)] 1 (bs (putL b ty fl s p)) := by
 cases hr : rightB ty fl s p.length with
 | false =>
  rw [show putL b ty fl s p = b by simp [putL, hr]]
  by_cases hbn : b = []
  ·subst hbn
   refine EvO.ofN d57 (ts := [.one]) rfl rfl rfl rfl (h := h0) ?_
   refine X.fn ?_
   refine X.run ?_
   refine X.pcall (right_ok ty fl s p) (.gs (fr_clo _ _ _ _) (.nil _)) rfl rfl rfl ?_
   rw [hr]
   refine X.run ?_
   exact X.fin (fun _ => rfl) rfl rfl
  ·have el : ((bs b).drop 0).take (bs b).length = bs b := by rw [List.drop_zero, List.take_length]
   refine EvO.of d57 (ts := [.one]) rfl rfl rfl rfl (id := 0) (i := 0) (len := (bs b).length) (h := hnew h0 ⟨1, false, bs b⟩) (es := bs b) ?_ rfl (Nat.le_refl 0) (by simp) el (bs_clo _) (by simp [depth, bs_length]; omega)
   refine X.fn ?_
   refine X.run ?_
   refine X.pcall (right_ok ty fl s p) (.gs (fr_clo _ _ _ _) (.nil _)) rfl rfl rfl ?_
   rw [hr]
   refine X.run ?_
   refine X.apn X.w X.w (Els.vs _) (by simp [bs]; exact hbn) X.s X.w ?_
   refine X.run ?_
   exact X.fin (fun _ => rfl) rfl rfl
 | true =>
  rw [show putL b ty fl s p = b ++ h9 ty fl s p.length ++ p by simp [putL, hr]]
  let E : List (List V) := ((List.replicate 0 [V.it .u8 0] ++ bs b) ++ bs (h9 ty fl s p.length)) ++ bs p
  have hE : E = bs (b ++ h9 ty fl s p.length ++ p) := by simp [E, bs]
  refine EvO.of d57 (ts := [.one]) rfl rfl rfl rfl (id := 3) (i := 0) (len := 0 + (bs b).length + 9 + (bs p).length) (es := E)
   (h := hnew (hset (hnew (hset (hnew (hset (hnew h0 ⟨1, false, List.replicate 0 [V.it .u8 0]⟩) 0 none) ⟨1, false, List.replicate 0 [V.it .u8 0] ++ bs b⟩) 1 none) ⟨1, false, (List.replicate 0 [V.it .u8 0] ++ bs b) ++ bs (h9 ty fl s p.length)⟩) 2 none) ⟨1, false, E⟩) ?_ X.h (Nat.le_of_ble_eq_true rfl) ?_ ?_ (bs_clo _) (by simp [depth, bs_length]; omega)
  ·refine X.fn ?_
   refine X.run ?_
   refine X.pcall (right_ok ty fl s p) (.gs (fr_clo _ _ _ _) (.nil _)) rfl rfl rfl ?_
   rw [hr]
   refine X.run ?_
   refine X.fin (fun _ => rfl) rfl ?_
   have e : bs (h9 ty fl s p.length) = [[V.it IntKind.u8 (wr IntKind.u8 ((Int.ofNat (bs p).length).fdiv (Int.ofNat 65536)))], [V.it IntKind.u8 (wr IntKind.u8 ((Int.ofNat (bs p).length).fdiv (Int.ofNat 256)))], [V.it IntKind.u8 (wr IntKind.u8 (Int.ofNat (bs p).length))],
     [V.it IntKind.u8 (wr IntKind.u8 ty)], [V.it IntKind.u8 (wr IntKind.u8 fl)], [V.it IntKind.u8 (wr IntKind.u8 (s.fdiv (Int.ofNat 16777216)))], [V.it IntKind.u8 (wr IntKind.u8 (s.fdiv (Int.ofNat 65536)))],
     [V.it IntKind.u8 (wr IntKind.u8 (s.fdiv (Int.ofNat 256)))], [V.it IntKind.u8 (wr IntKind.u8 s)]] := by
    simp [bs, h9, wr8m, Int.fdiv_eq_ediv_of_nonneg]
   simp only [E, e]
   rfl
  ·rw [hE]; simp [bs_length, h9]; omega
  ·rw [hE, List.drop_zero]; apply List.take_of_length_le; simp [bs_length, h9]; omega
def stv (x : Int × Int) : List V := [.it .i64 x.1, .it .i64 x.2]
def sts (l : List (Int × Int)) : List (List V) := l.map stv
abbrev s0 : Int × Int := (0, 0)
theorem sts_length (l : List (Int × Int)) : (sts l).length = l.length := by simp [sts]
theorem sts_getD {l : List (Int × Int)} {i : Nat} (h : i < l.length) : (sts l).getD i [] = stv (l.getD i s0) := by
 unfold sts
 rw [List.getD, List.getD, List.getElem?_map, List.getElem?_eq_getElem h]; rfl
def setB (x : Int × Int) : List Int := [x.1 / 256 % 256, x.1 % 256, x.2 / 16777216 % 256, x.2 / 65536 % 256, x.2 / 256 % 256, x.2 % 256]
def setsB (l : List (Int × Int)) : List Int := l.flatMap setB
theorem setsB_take {l : List (Int × Int)} {i : Nat} (h : i < l.length) : setsB (l.take (i + 1)) = setsB (l.take i) ++ setB (l.getD i s0) := by
 unfold setsB
 rw [take_getD h s0, List.flatMap_append]; simp
theorem setsB_len (l : List (Int × Int)) : (setsB l).length = 6 * l.length := by
 induction l with
 | nil => rfl
 | cons x r ih =>
  have e : setsB (x :: r) = setB x ++ setsB r := rfl
  rw [e, List.length_append, ih]; simp only [setB, List.length_cons, List.length_nil]; omega
theorem bs_app (a b : List Int) : bs a ++ bs b = bs (a ++ b) := by simp [bs]
theorem sput_ok (l : List (Int × Int)) (hl : l.length <= 1000000) : EvP Fq 58 c58 [.vs 2 (sts l)] [.vs 1 (bs (setsB l))] := by
 have hsl := sts_length l
 refine EvP.ofQ d58 rfl rfl rfl ?_
 repeat' (first | refine EvQ.run ?_ | (refine EvQ.pickB rfl rfl rfl ?_) | (refine EvQ.cond rfl (fun h => ?_) (fun h => ?_) <;> ((first | replace h := X.nm h | skip); try have hne := ne_len h)) | (refine EvQ.g1 rfl (fun h => ?_) (fun h => ?_) <;> ((first | replace h := X.nm h | skip); try have hne := ne_len h)) | (refine EvQ.pick rfl (fun _ => rfl) (fun _ => rfl) (fun h => ?_) (fun h => ?_) <;> ((first | replace h := X.nm h | skip); try have hne := ne_len h)) | refine EvQ.fin X.rs ?_ | refine EvQ.fin1 (fun _ => rfl) rfl ?_)
 refine EvQ.loop (QL := fun r => ∃ v, XtQ 0 [(3, v)] (fun lo hp => Ow hp v 1 (bs (setsB l))) r) ?_ ?_
 ·refine EvL.invQ (S := Nat × V) (fun y => [(3, y.2), (7, .vs 2 (sts l)), (8, .it .i64 (Int.ofNat (sts l).length)), (9, .it .i64 (Int.ofNat y.1))])
   (fun y lo hp => shed [5] lo = (fun _ => none) /\ hp.lim <= hp.next /\ y.1 <= l.length /\ Ow hp y.2 1 (bs (setsB (l.take y.1)))) (fun y => l.length - y.1) _ ?_ (0, .ns) _ _ _ ⟨X.lo, Nat.le_refl _, Nat.zero_le _, .ns⟩ X.kv
  intro ⟨i, v⟩ lo hp ⟨e1, e2, e3, hO⟩
  simp only at e2 e3 hO
  rw [e1]
  have vl := hO.lp
  by_cases hi : i < l.length
  ·have hg := sts_getD hi
   have ht := setsB_take hi
   have hbl : (bs (setsB (l.take i))).length = 6 * i := by rw [bs_length, setsB_len, List.length_take]; omega
   generalize l.getD i s0 = x at *
   obtain ⟨a, b⟩ := x
   have e : bs (setB (a, b)) = [[V.it IntKind.u8 (wr IntKind.u8 (a.fdiv (Int.ofNat 256)))], [V.it IntKind.u8 (wr IntKind.u8 a)], [V.it IntKind.u8 (wr IntKind.u8 (b.fdiv (Int.ofNat 16777216)))], [V.it IntKind.u8 (wr IntKind.u8 (b.fdiv (Int.ofNat 65536)))],
     [V.it IntKind.u8 (wr IntKind.u8 (b.fdiv (Int.ofNat 256)))], [V.it IntKind.u8 (wr IntKind.u8 b)]] := by
    simp [bs, setB, wr8m, Int.fdiv_eq_ediv_of_nonneg]
   have hO' := hO.put (new := bs (setB (a, b))) e2
   have hX : bs (setsB (l.take (i + 1))) = bs (setsB (l.take i)) ++ bs (setB (a, b)) := by rw [ht, bs_app]
   generalize bs (setsB (l.take i)) = rows at *
   rw [e] at hO' hX
   repeat' (first | refine EvQ.run ?_ | (refine EvQ.pickB rfl rfl rfl ?_) | (refine EvQ.cond rfl (fun h => ?_) (fun h => ?_) <;> ((first | replace h := X.nm h | skip); try have hne := ne_len h)) | (refine EvQ.g1 rfl (fun h => ?_) (fun h => ?_) <;> ((first | replace h := X.nm h | skip); try have hne := ne_len h)) | (refine EvQ.pick rfl (fun _ => rfl) (fun _ => rfl) (fun h => ?_) (fun h => ?_) <;> ((first | replace h := X.nm h | skip); try have hne := ne_len h)) | refine EvQ.fin X.rs ?_ | refine EvQ.fin1 (fun _ => rfl) rfl ?_)
   refine EvQ.go (i + 1, _) X.kv ⟨X.lo, by rw [oah_lim, oah_next]; omega, hi, by rw [hX]; exact hO'⟩ (by show l.length - (i + 1) < l.length - i; omega)
  ·repeat' (first | refine EvQ.run ?_ | (refine EvQ.pickB rfl rfl rfl ?_) | (refine EvQ.cond rfl (fun h => ?_) (fun h => ?_) <;> ((first | replace h := X.nm h | skip); try have hne := ne_len h)) | (refine EvQ.g1 rfl (fun h => ?_) (fun h => ?_) <;> ((first | replace h := X.nm h | skip); try have hne := ne_len h)) | (refine EvQ.pick rfl (fun _ => rfl) (fun _ => rfl) (fun h => ?_) (fun h => ?_) <;> ((first | replace h := X.nm h | skip); try have hne := ne_len h)) | refine EvQ.fin X.rs ?_ | refine EvQ.fin1 (fun _ => rfl) rfl ?_)
   rw [List.take_of_length_le (by omega)] at hO
   exact EvQ.xt ⟨v, .mk' X.kv hO⟩
 ·rintro _ ⟨v, tm, lo, hp, rfl, hO⟩
  have vl := hO.lp
  obtain ⟨hp', hc, hcf⟩ := hO.sl.close (ts := [.one]) (bs_clo _) (by rw [bs_length, setsB_len]; show _ + 1 + 3 <= 100000000; omega)
  repeat' (first | refine EvQ.run ?_ | (refine EvQ.pickB rfl rfl rfl ?_) | (refine EvQ.cond rfl (fun h => ?_) (fun h => ?_) <;> ((first | replace h := X.nm h | skip); try have hne := ne_len h)) | (refine EvQ.g1 rfl (fun h => ?_) (fun h => ?_) <;> ((first | replace h := X.nm h | skip); try have hne := ne_len h)) | (refine EvQ.pick rfl (fun _ => rfl) (fun _ => rfl) (fun h => ?_) (fun h => ?_) <;> ((first | replace h := X.nm h | skip); try have hne := ne_len h)) | refine EvQ.fin X.rs ?_ | refine EvQ.fin1 (fun _ => rfl) rfl ?_)
  exact PQ.of (.c hc (.nil _))
attribute [local irreducible] EvO stat
theorem in_ok (n lo hi : Int) : EvP Fq 51 c51 [.it .i64 n, .it .i64 lo, .it .i64 hi] [.bo (decide (lo <= n /\ n <= hi))] := by
 refine EvP.ofQ d51 rfl rfl rfl ?_
 repeat' (first | refine EvQ.run ?_ | (refine EvQ.pickB rfl rfl rfl ?_) | (refine EvQ.cond rfl (fun h => ?_) (fun h => ?_) <;> ((first | replace h := X.nm h | skip); try have hne := ne_len h)) | (refine EvQ.g1 rfl (fun h => ?_) (fun h => ?_) <;> ((first | replace h := X.nm h | skip); try have hne := ne_len h)) | (refine EvQ.pick rfl (fun _ => rfl) (fun _ => rfl) (fun h => ?_) (fun h => ?_) <;> ((first | replace h := X.nm h | skip); try have hne := ne_len h)) | refine EvQ.fin X.rs ?_ | refine EvQ.fin1 (fun _ => rfl) rfl ?_)
 all_goals
  refine PQ.bo ?_
  rw [Bool.eq_iff_iff]
  simp [ilt_eq] at *
  try omega
theorem may1_ok : EvP Fq 91 c91 [.it .i64 16384] [.bo true] := by
 refine EvP.ofQ d91 rfl rfl rfl ?_
 repeat' (first | refine EvQ.run ?_ | (refine EvQ.pickB rfl rfl rfl ?_) | (refine EvQ.cond rfl (fun h => ?_) (fun h => ?_) <;> ((first | replace h := X.nm h | skip); try have hne := ne_len h)) | (refine EvQ.g1 rfl (fun h => ?_) (fun h => ?_) <;> ((first | replace h := X.nm h | skip); try have hne := ne_len h)) | (refine EvQ.pick rfl (fun _ => rfl) (fun _ => rfl) (fun h => ?_) (fun h => ?_) <;> ((first | replace h := X.nm h | skip); try have hne := ne_len h)) | refine EvQ.fin X.rs ?_ | refine EvQ.fin1 (fun _ => rfl) rfl ?_)
 all_goals exact PQ.bo rfl
theorem may2_ok : EvP Fq 127 c127 [.it .i64 4096] [.bo true] := by
 refine EvP.ofQ d127 rfl rfl rfl ?_
 repeat' (first | refine EvQ.run ?_ | (refine EvQ.pickB rfl rfl rfl ?_) | (refine EvQ.cond rfl (fun h => ?_) (fun h => ?_) <;> ((first | replace h := X.nm h | skip); try have hne := ne_len h)) | (refine EvQ.g1 rfl (fun h => ?_) (fun h => ?_) <;> ((first | replace h := X.nm h | skip); try have hne := ne_len h)) | (refine EvQ.pick rfl (fun _ => rfl) (fun _ => rfl) (fun h => ?_) (fun h => ?_) <;> ((first | replace h := X.nm h | skip); try have hne := ne_len h)) | refine EvQ.fin X.rs ?_ | refine EvQ.fin1 (fun _ => rfl) rfl ?_)
 all_goals exact PQ.bo rfl
theorem win1_ok : EvP Fq 93 c93 [.it .i64 65535] [.bo true] := by
 refine EvP.ofQ d93 rfl rfl rfl ?_
 repeat' (first | refine EvQ.run ?_ | (refine EvQ.pickB rfl rfl rfl ?_) | (refine EvQ.cond rfl (fun h => ?_) (fun h => ?_) <;> ((first | replace h := X.nm h | skip); try have hne := ne_len h)) | (refine EvQ.g1 rfl (fun h => ?_) (fun h => ?_) <;> ((first | replace h := X.nm h | skip); try have hne := ne_len h)) | (refine EvQ.pick rfl (fun _ => rfl) (fun _ => rfl) (fun h => ?_) (fun h => ?_) <;> ((first | replace h := X.nm h | skip); try have hne := ne_len h)) | refine EvQ.fin X.rs ?_ | refine EvQ.fin1 (fun _ => rfl) rfl ?_)
 all_goals exact PQ.bo rfl
theorem win_ok : EvP Fq 56 c56 [.it .i64 65535] [.ag [.it .i64 65535], .it .i64 0] := by
 refine EvP.ofQ d56 rfl rfl rfl ?_
 repeat' (first | refine EvQ.run ?_ | refine EvQ.lift (fun _ zn => X.pcall (win1_ok) X.cq rfl X.al rfl zn) ?_ | refine EvQ.lift (fun _ zn => X.pcallG (win1_ok) rfl X.cq rfl X.al rfl zn) ?_ | refine EvQ.lift (fun _ zn => X.pcallC (win1_ok) rfl X.cq rfl X.al rfl zn) ?_ | refine EvQ.lift (fun _ zn => X.pcallT (win1_ok) (by decide) X.cq rfl X.al rfl zn) ?_ | refine EvQ.lift (fun _ zn => X.call rfl X.al (win1_ok) zn) ?_ | (refine EvQ.pickB rfl rfl rfl ?_) | (refine EvQ.cond rfl (fun h => ?_) (fun h => ?_) <;> ((first | replace h := X.nm h | skip); try have hne := ne_len h)) | (refine EvQ.g1 rfl (fun h => ?_) (fun h => ?_) <;> ((first | replace h := X.nm h | skip); try have hne := ne_len h)) | (refine EvQ.pick rfl (fun _ => rfl) (fun _ => rfl) (fun h => ?_) (fun h => ?_) <;> ((first | replace h := X.nm h | skip); try have hne := ne_len h)) | refine EvQ.fin X.rs ?_ | refine EvQ.fin1 (fun _ => rfl) rfl ?_)
 exact PQ.of (.gs (.cons (clo_it _ _) .nil) (.s (clo_it _ _) (.nil _)))
theorem first_ok : EvP Fq 52 c52 [] [.ag [.it .i64 4096, .it .i64 2147483647, .it .i64 65535, .it .i64 16384, .it .i64 2147483647]] := by
 refine EvP.ofQ d52 rfl rfl rfl ?_
 repeat' (first | refine EvQ.run ?_ | (refine EvQ.pickB rfl rfl rfl ?_) | (refine EvQ.cond rfl (fun h => ?_) (fun h => ?_) <;> ((first | replace h := X.nm h | skip); try have hne := ne_len h)) | (refine EvQ.g1 rfl (fun h => ?_) (fun h => ?_) <;> ((first | replace h := X.nm h | skip); try have hne := ne_len h)) | (refine EvQ.pick rfl (fun _ => rfl) (fun _ => rfl) (fun h => ?_) (fun h => ?_) <;> ((first | replace h := X.nm h | skip); try have hne := ne_len h)) | refine EvQ.fin X.rs ?_ | refine EvQ.fin1 (fun _ => rfl) rfl ?_)
 exact PQ.of (.gs (.cons (clo_it _ _) (.cons (clo_it _ _) (.cons (clo_it _ _) (.cons (clo_it _ _) (.cons (clo_it _ _) .nil))))) (.nil _))
def Made (hp : Hp) (w : V) (hp' : Hp) : Prop := ∃ p, w = .tu [.pt p 0 0, .it .i64 0] /\ hp.next <= p /\ p < hp'.next /\ Up hp.next hp hp'
theorem frN_ok {own : Bool} (hp : Hp) (b : Bool) (hl : hp.lim <= hp.next) : ∃ w hp', EvC Fq own 53 [.it .i64 16384, .bo b] hp (.ret w hp') /\ Made hp w hp' := by
 have m := may1_ok
 have u1 := fun r => Up.new (n := hp.next) hp r (Nat.le_refl _)
 refine EvC.ofQ d53 rfl rfl rfl ?_
 cases b with
 | false =>
  repeat' (first | refine EvQ.run ?_ | refine EvQ.lift (fun _ zn => X.pcall (m) X.cq rfl X.al rfl zn) ?_ | refine EvQ.lift (fun _ zn => X.pcallG (m) rfl X.cq rfl X.al rfl zn) ?_ | refine EvQ.lift (fun _ zn => X.pcallC (m) rfl X.cq rfl X.al rfl zn) ?_ | refine EvQ.lift (fun _ zn => X.pcallT (m) (by decide) X.cq rfl X.al rfl zn) ?_ | refine EvQ.lift (fun _ zn => X.call rfl X.al (m) zn) ?_ | (refine EvQ.pickB rfl rfl rfl ?_) | (refine EvQ.cond rfl (fun h => ?_) (fun h => ?_) <;> ((first | replace h := X.nm h | skip); try have hne := ne_len h)) | (refine EvQ.g1 rfl (fun h => ?_) (fun h => ?_) <;> ((first | replace h := X.nm h | skip); try have hne := ne_len h)) | (refine EvQ.pick rfl (fun _ => rfl) (fun _ => rfl) (fun h => ?_) (fun h => ?_) <;> ((first | replace h := X.nm h | skip); try have hne := ne_len h)) | refine EvQ.fin X.rs ?_ | refine EvQ.fin1 (fun _ => rfl) rfl ?_)
  refine ⟨_, _, rfl, ?_⟩
  exact ⟨hp.next, rfl, Nat.le_refl _, Nat.lt_succ_self _, u1 _⟩
 | true =>
  have g : ∀ r, hget (hnew hp r) hp.next = some r := fun r => hget_new _ _
  repeat' (first | refine EvQ.run ?_ | refine EvQ.lift (fun _ zn => X.pcall (m) X.cq rfl X.al rfl zn) ?_ | refine EvQ.lift (fun _ zn => X.pcallG (m) rfl X.cq rfl X.al rfl zn) ?_ | refine EvQ.lift (fun _ zn => X.pcallC (m) rfl X.cq rfl X.al rfl zn) ?_ | refine EvQ.lift (fun _ zn => X.pcallT (m) (by decide) X.cq rfl X.al rfl zn) ?_ | refine EvQ.lift (fun _ zn => X.call rfl X.al (m) zn) ?_ | (refine EvQ.pickB rfl rfl rfl ?_) | (refine EvQ.cond rfl (fun h => ?_) (fun h => ?_) <;> ((first | replace h := X.nm h | skip); try have hne := ne_len h)) | (refine EvQ.g1 rfl (fun h => ?_) (fun h => ?_) <;> ((first | replace h := X.nm h | skip); try have hne := ne_len h)) | (refine EvQ.pick rfl (fun _ => rfl) (fun _ => rfl) (fun h => ?_) (fun h => ?_) <;> ((first | replace h := X.nm h | skip); try have hne := ne_len h)) | refine EvQ.fin X.rs ?_ | refine EvQ.fin1 (fun _ => rfl) rfl ?_)
  refine ⟨_, _, rfl, ?_⟩
  exact ⟨hp.next, rfl, Nat.le_refl _, Nat.lt_succ_self _, (u1 _).trans (Up.set _ _ _ (Nat.le_refl _))⟩
theorem tabN_ok {own : Bool} (hp : Hp) : ∃ w hp', EvC Fq own 92 [.it .i64 4096] hp (.ret w hp') /\ Made hp w hp' := by
 have m := may2_ok
 have a := all_ok
 have u1 := fun r => Up.new (n := hp.next) hp r (Nat.le_refl _)
 obtain ⟨es, -, he⟩ := stat_eq
 refine EvC.ofQ d92 rfl rfl rfl ?_
 rw [he] at a
 repeat' (first | refine EvQ.run ?_ | refine EvQ.lift (fun _ zn => X.pcall (m) X.cq rfl X.al rfl zn) ?_ | refine EvQ.lift (fun _ zn => X.pcallG (m) rfl X.cq rfl X.al rfl zn) ?_ | refine EvQ.lift (fun _ zn => X.pcallC (m) rfl X.cq rfl X.al rfl zn) ?_ | refine EvQ.lift (fun _ zn => X.pcallT (m) (by decide) X.cq rfl X.al rfl zn) ?_ | refine EvQ.lift (fun _ zn => X.call rfl X.al (m) zn) ?_ | refine EvQ.lift (fun _ zn => X.pcall (a _) X.cq rfl X.al rfl zn) ?_ | refine EvQ.lift (fun _ zn => X.pcallG (a _) rfl X.cq rfl X.al rfl zn) ?_ | refine EvQ.lift (fun _ zn => X.pcallC (a _) rfl X.cq rfl X.al rfl zn) ?_ | refine EvQ.lift (fun _ zn => X.pcallT (a _) (by decide) X.cq rfl X.al rfl zn) ?_ | refine EvQ.lift (fun _ zn => X.call rfl X.al (a _) zn) ?_ | (refine EvQ.pickB rfl rfl rfl ?_) | (refine EvQ.cond rfl (fun h => ?_) (fun h => ?_) <;> ((first | replace h := X.nm h | skip); try have hne := ne_len h)) | (refine EvQ.g1 rfl (fun h => ?_) (fun h => ?_) <;> ((first | replace h := X.nm h | skip); try have hne := ne_len h)) | (refine EvQ.pick rfl (fun _ => rfl) (fun _ => rfl) (fun h => ?_) (fun h => ?_) <;> ((first | replace h := X.nm h | skip); try have hne := ne_len h)) | refine EvQ.fin X.rs ?_ | refine EvQ.fin1 (fun _ => rfl) rfl ?_)
 refine ⟨_, _, rfl, ?_⟩
 exact ⟨hp.next, rfl, Nat.le_refl _, Nat.lt_succ_self _, u1 _⟩
theorem unpN_ok {own : Bool} (hp : Hp) (ls : Int) (h1 : 0 <= ls) (h2 : ls <= 2147483647) : ∃ w hp', EvC Fq own 54 [.it .i64 4096, .it .i64 ls] hp (.ret w hp') /\ Made hp w hp' := by
 have t := tabN_ok (own := false) hp
 have q1 : ilt ls (Int.ofNat 0) = false := by rw [ilt_eq]; exact decide_eq_false (by show ¬ ls < 0; omega)
 have q2 : ilt (Int.ofNat 2147483647) ls = false := by rw [ilt_eq]; exact decide_eq_false (by show ¬ (2147483647 : Int) < ls; omega)
 refine EvC.ofQ d54 rfl rfl rfl ?_
 repeat (first | refine EvQ.run ?_ | refine EvQ.fin X.rs ?_ | refine EvQ.fin1 (fun _ => rfl) rfl ?_)
 refine EvQ.call rfl X.al t ?_
 rintro _ hp1 ⟨p, rfl, p1, p2, u1⟩
 repeat' (first | refine EvQ.run ?_ | (refine EvQ.pickB rfl rfl rfl ?_) | (refine EvQ.cond rfl (fun h => ?_) (fun h => ?_) <;> ((first | replace h := X.nm h | skip); try have hne := ne_len h)) | (refine EvQ.g1 rfl (fun h => ?_) (fun h => ?_) <;> ((first | replace h := X.nm h | skip); try have hne := ne_len h)) | (refine EvQ.pick rfl (fun _ => rfl) (fun _ => rfl) (fun h => ?_) (fun h => ?_) <;> ((first | replace h := X.nm h | skip); try have hne := ne_len h)) | refine EvQ.fin X.rs ?_ | refine EvQ.fin1 (fun _ => rfl) rfl ?_)
 refine ⟨_, _, rfl, ?_⟩
 exact ⟨hp1.next, rfl, u1.next, Nat.lt_succ_self _, u1.trans (Up.new _ _ u1.next)⟩
theorem pacN_ok {own : Bool} (hp : Hp) : ∃ w hp', EvC Fq own 55 [.it .i64 4096] hp (.ret w hp') /\ Made hp w hp' := by
 have t := tabN_ok (own := false) hp
 refine EvC.ofQ d55 rfl rfl rfl ?_
 repeat (first | refine EvQ.run ?_ | refine EvQ.fin X.rs ?_ | refine EvQ.fin1 (fun _ => rfl) rfl ?_)
 refine EvQ.call rfl X.al t ?_
 rintro _ hp1 ⟨p, rfl, p1, p2, u1⟩
 repeat' (first | refine EvQ.run ?_ | (refine EvQ.pickB rfl rfl rfl ?_) | (refine EvQ.cond rfl (fun h => ?_) (fun h => ?_) <;> ((first | replace h := X.nm h | skip); try have hne := ne_len h)) | (refine EvQ.g1 rfl (fun h => ?_) (fun h => ?_) <;> ((first | replace h := X.nm h | skip); try have hne := ne_len h)) | (refine EvQ.pick rfl (fun _ => rfl) (fun _ => rfl) (fun h => ?_) (fun h => ?_) <;> ((first | replace h := X.nm h | skip); try have hne := ne_len h)) | refine EvQ.fin X.rs ?_ | refine EvQ.fin1 (fun _ => rfl) rfl ?_)
 refine ⟨_, _, rfl, ?_⟩
 exact ⟨hp1.next, rfl, u1.next, Nat.lt_succ_self _, u1.trans (Up.new _ _ u1.next)⟩
def okC (st wn ls : Int) : Prop := (1 <= st /\ st <= 100) /\ (65535 <= wn /\ wn <= 2147483647) /\ (1 <= ls /\ ls <= 1048576)
instance (st wn ls : Int) : Decidable (okC st wn ls) := by unfold okC; infer_instance
def cnR (st wn ls : Int) (a b c v : V) (o i : Int) : List V := [.bo true, .it .i64 st, .it .i64 wn, .it .i64 ls, .it .i64 4096, .it .i64 2147483647, .it .i64 65535, .it .i64 16384, .it .i64 2147483647, a, b, c, v, .it .i64 o, .it .i64 i, .ns, .it .i64 0, .it .i64 1, .ns, .it .i64 0, .bo false, .ns, .bo false, .bo false, .bo false, .ns]
theorem cnew_ok {own : Bool} (hp : Hp) (st wn ls : Int) (h : okC st wn ls) (hl : hp.lim <= hp.next) :
  ∃ w hp', EvC Fq own 19 [.bo true, .ag [.it .i64 st, .it .i64 wn, .it .i64 ls]] hp (.ret w hp') /\ ∃ (r u p : Nat) (v : V) (q : List Int), w = .tu [.pt hp.next 0 0, .it .i64 0] /\
   hget hp' hp.next = some ⟨26, false, [cnR st wn ls (.pt r 0 0) (.pt u 0 0) (.pt p 0 0) v 65535 65535]⟩ /\ Ow hp' v 1 (bs q) /\ q.length <= 1000 /\ (∀ id, idOf v = some id -> hp.next < id) /\ Up hp.next hp hp' /\ hp.next < hp'.next := by
 obtain ⟨h1, h2, h3⟩ := h
 have i1 := in_ok st 1 100
 have i2 := in_ok wn 65535 2147483647
 have i3 := in_ok ls 1 1048576
 rw [decide_eq_true h1] at i1
 rw [decide_eq_true h2] at i2
 rw [decide_eq_true h3] at i3
 refine EvC.ofQ d19 rfl rfl rfl ?_
 repeat (first | refine EvQ.run ?_ | refine EvQ.lift (fun _ zn => X.pcall (i1) X.cq rfl X.al rfl zn) ?_ | refine EvQ.lift (fun _ zn => X.pcallG (i1) rfl X.cq rfl X.al rfl zn) ?_ | refine EvQ.lift (fun _ zn => X.pcallC (i1) rfl X.cq rfl X.al rfl zn) ?_ | refine EvQ.lift (fun _ zn => X.pcallT (i1) (by decide) X.cq rfl X.al rfl zn) ?_ | refine EvQ.lift (fun _ zn => X.call rfl X.al (i1) zn) ?_ | refine EvQ.lift (fun _ zn => X.pcall (i2) X.cq rfl X.al rfl zn) ?_ | refine EvQ.lift (fun _ zn => X.pcallG (i2) rfl X.cq rfl X.al rfl zn) ?_ | refine EvQ.lift (fun _ zn => X.pcallC (i2) rfl X.cq rfl X.al rfl zn) ?_ | refine EvQ.lift (fun _ zn => X.pcallT (i2) (by decide) X.cq rfl X.al rfl zn) ?_ | refine EvQ.lift (fun _ zn => X.call rfl X.al (i2) zn) ?_ | refine EvQ.lift (fun _ zn => X.pcall (i3) X.cq rfl X.al rfl zn) ?_ | refine EvQ.lift (fun _ zn => X.pcallG (i3) rfl X.cq rfl X.al rfl zn) ?_ | refine EvQ.lift (fun _ zn => X.pcallC (i3) rfl X.cq rfl X.al rfl zn) ?_ | refine EvQ.lift (fun _ zn => X.pcallT (i3) (by decide) X.cq rfl X.al rfl zn) ?_ | refine EvQ.lift (fun _ zn => X.call rfl X.al (i3) zn) ?_ | refine EvQ.lift (fun _ zn => X.pcall (first_ok) X.cq rfl X.al rfl zn) ?_ | refine EvQ.lift (fun _ zn => X.pcallG (first_ok) rfl X.cq rfl X.al rfl zn) ?_ | refine EvQ.lift (fun _ zn => X.pcallC (first_ok) rfl X.cq rfl X.al rfl zn) ?_ | refine EvQ.lift (fun _ zn => X.pcallT (first_ok) (by decide) X.cq rfl X.al rfl zn) ?_ | refine EvQ.lift (fun _ zn => X.call rfl X.al (first_ok) zn) ?_ | refine EvQ.fin X.rs ?_ | refine EvQ.fin1 (fun _ => rfl) rfl ?_)
 refine EvQ.call rfl X.al (frN_ok (own := true) _ true (by show hp.lim <= hp.next + 1; omega)) ?_
 rintro _ hp2 ⟨r, rfl, r1, r2, u1⟩
 have g2 : hget hp2 hp.next = some ⟨26, false, [cnR st wn ls .np .np .np .ns 0 0]⟩ := (u1.get hp.next (by show hp.next < hp.next + 1; omega)).trans (hget_new hp _)
 have l2 : hp2.lim = hp.lim := u1.lim
 have n2 : hp.next + 1 <= hp2.next := u1.next
 unfold cnR at g2
 repeat (first | refine EvQ.run ?_ | refine EvQ.fin X.rs ?_ | refine EvQ.fin1 (fun _ => rfl) rfl ?_)
 refine EvQ.call rfl X.al (unpN_ok (own := true) _ ls (by omega) (by omega)) ?_
 rintro _ hp3 ⟨u, rfl, p1, p2, u2⟩
 have n3 : hp2.next <= hp3.next := u2.next
 have l3 : hp3.lim = hp.lim := u2.lim.trans l2
 have g3 : hget hp3 hp.next = some ⟨26, false, [cnR st wn ls (.pt r 0 0) .np .np .ns 0 0]⟩ := (u2.get hp.next (by show hp.next < hp2.next; omega)).trans (hget_set hp2 _ _)
 have v3 : Up hp.next hp hp3 := (((Up.new hp _ (Nat.le_refl _)).trans (u1.mono (by show hp.next <= hp.next + 1; omega))).trans (Up.set hp2 hp.next _ (Nat.le_refl _))).trans (u2.mono (by show hp.next <= hp2.next; omega))
 clear r1 r2 p1 p2 u1 u2 g2
 unfold cnR at g3
 repeat (first | refine EvQ.run ?_ | refine EvQ.fin X.rs ?_ | refine EvQ.fin1 (fun _ => rfl) rfl ?_)
 refine EvQ.call rfl X.al (pacN_ok (own := true) _) ?_
 rintro _ hp4 ⟨pk, rfl, p1, p2, u2⟩
 have n4 : hp3.next <= hp4.next := u2.next
 have l4 : hp4.lim = hp.lim := u2.lim.trans l3
 have g4 : hget hp4 hp.next = some ⟨26, false, [cnR st wn ls (.pt r 0 0) (.pt u 0 0) .np .ns 0 0]⟩ := (u2.get hp.next (by show hp.next < hp3.next; omega)).trans (hget_set hp3 _ _)
 have v4 : Up hp.next hp hp4 := (v3.trans (Up.set hp3 hp.next _ (Nat.le_refl _))).trans (u2.mono (by show hp.next <= hp3.next; omega))
 clear p1 p2 u2 g3
 unfold cnR at g4
 have sp := sput_ok [(3, st), (4, wn), (6, ls)] (by show 3 <= 1000000; omega)
 repeat (first | refine EvQ.run ?_ | refine EvQ.lift (fun _ zn => X.pcall (win_ok) X.cq rfl X.al rfl zn) ?_ | refine EvQ.lift (fun _ zn => X.pcallG (win_ok) rfl X.cq rfl X.al rfl zn) ?_ | refine EvQ.lift (fun _ zn => X.pcallC (win_ok) rfl X.cq rfl X.al rfl zn) ?_ | refine EvQ.lift (fun _ zn => X.pcallT (win_ok) (by decide) X.cq rfl X.al rfl zn) ?_ | refine EvQ.lift (fun _ zn => X.call rfl X.al (win_ok) zn) ?_ | refine EvQ.lift (fun _ zn => X.pcall (sp) X.cq rfl X.al rfl zn) ?_ | refine EvQ.lift (fun _ zn => X.pcallG (sp) rfl X.cq rfl X.al rfl zn) ?_ | refine EvQ.lift (fun _ zn => X.pcallC (sp) rfl X.cq rfl X.al rfl zn) ?_ | refine EvQ.lift (fun _ zn => X.pcallT (sp) (by decide) X.cq rfl X.al rfl zn) ?_ | refine EvQ.lift (fun _ zn => X.call rfl X.al (sp) zn) ?_ | refine EvQ.fin X.rs ?_ | refine EvQ.fin1 (fun _ => rfl) rfl ?_)
 have sl := setsB_len [(3, st), (4, wn), (6, ls)]
 have sl : (setsB [(3, st), (4, wn), (6, ls)]).length = 18 := sl
 have pt := put_ok [] 4 0 0 (setsB [(3, st), (4, wn), (6, ls)]) (by show 0 + _ <= _; omega)
 have hr : rightB 4 0 0 (setsB [(3, st), (4, wn), (6, ls)]).length = true := by rw [sl]; decide
 have pl : (putL [] 4 0 0 (setsB [(3, st), (4, wn), (6, ls)])).length = 27 := by
  unfold putL
  rw [if_pos hr, List.length_append, List.length_append, sl]
  rfl
 generalize setsB [(3, st), (4, wn), (6, ls)] = P at *
 generalize hq : putL [] 4 0 0 P = q at *
 have hne : bs q ≠ [] := fun e => by
  have := congrArg List.length e
  rw [bs_length, pl] at this
  cases this
 refine EvQ.lift (fun _ zn => X.ocall pt (.s2 (clo_ns [.one]) (.gs (fr_clo 4 0 0 P) (.nil _))) rfl X.al zn (fun e => absurd e hne)) ?_
 have n5 : hp.next < hp4.next := by omega
 repeat (first | refine EvQ.run ?_ | refine EvQ.fin X.rs ?_ | refine EvQ.fin1 (fun _ => rfl) rfl ?_)
 refine ⟨_, _, rfl, r, u, pk, .hs hp4.next 0 (bs q).length, q, rfl, hget_set _ _ _, .inr ⟨hp4.next, rfl, Nat.lt_succ_self _, ?_, ?_⟩, by omega, fun id e => by cases e; omega, ?_, ?_⟩
 ·show hp4.lim <= hp4.next; omega
 ·exact (hget_other (by omega)).trans (hget_new (hset (hset (hset hp4 hp.next _) hp.next _) hp.next _) _)
 ·exact ((((v4.trans (Up.set hp4 hp.next _ (Nat.le_refl _))).trans (Up.set _ hp.next _ (Nat.le_refl _))).trans (Up.set _ hp.next _ (Nat.le_refl _))).trans (Up.new _ _ (by show hp.next <= hp4.next; omega))).trans (Up.set _ hp.next _ (Nat.le_refl _))
 ·show hp.next < hp4.next + 1; omega
structure Cfg where
 bud : Int
 sh : Nat
 st : Int
 wn : Int
 ls : Int
 tr : Int
 ups : Int
def rowCf (c : Cfg) : List V := [.it .i64 c.bud, .fl .f64 c.sh, .it .i64 c.st, .it .i64 c.wn, .it .i64 c.ls, .it .i64 c.tr, .it .i64 c.ups]
def okP (c : Cfg) : Prop := okC c.st c.wn c.ls /\ (0 <= c.bud /\ c.bud <= 16777216) /\ (1 <= c.tr /\ c.tr <= 64) /\ (1 <= c.ups /\ c.ups <= 8)
theorem il1 {a b : Int} (h : a < b) : ilt a b = true := by rw [ilt_eq]; exact decide_eq_true h
theorem il0 {a b : Int} (h : ¬ a < b) : ilt a b = false := by rw [ilt_eq]; exact decide_eq_false h
theorem stoN_ok {own : Bool} (hp : Hp) (b : Int) (h : 0 <= b /\ b <= 16777216) : ∃ w hp', EvC Fq own 20 [.it .i64 b] hp (.ret w hp') /\ Made hp w hp' := by
 have q1 : ilt b (Int.ofNat 0) = false := il0 (by show ¬ b < 0; omega)
 have q2 : ilt (Int.ofNat 16777216) b = false := il0 (by show ¬ (16777216 : Int) < b; omega)
 refine EvC.ofQ d20 rfl rfl rfl ?_
 repeat' (first | refine EvQ.run ?_ | (refine EvQ.pickB rfl rfl rfl ?_) | (refine EvQ.cond rfl (fun h => ?_) (fun h => ?_) <;> ((first | replace h := X.nm h | skip); try have hne := ne_len h)) | (refine EvQ.g1 rfl (fun h => ?_) (fun h => ?_) <;> ((first | replace h := X.nm h | skip); try have hne := ne_len h)) | (refine EvQ.pick rfl (fun _ => rfl) (fun _ => rfl) (fun h => ?_) (fun h => ?_) <;> ((first | replace h := X.nm h | skip); try have hne := ne_len h)) | refine EvQ.fin X.rs ?_ | refine EvQ.fin1 (fun _ => rfl) rfl ?_)
 refine ⟨_, _, rfl, ?_⟩
 exact ⟨hp.next, rfl, Nat.le_refl _, Nat.lt_succ_self _, Up.new _ _ (Nat.le_refl _)⟩
def pxR (c : Cfg) (s : Nat) : List V := rowCf c ++ [.np, .np, .np, .np, .np, .np, .np, .np, .np, .np, .np, .np, .np, .np, .np, .np, .pt s 0 0, .it .i64 0, .ns, .ns]
theorem pxN_ok {own : Bool} (hp : Hp) (c : Cfg) (h : okP c) (hl : hp.lim <= hp.next) : ∃ w hp', EvC Fq own 5 [.ag (rowCf c)] hp (.ret w hp') /\ ∃ p s, w = .tu [.pt p 0 0, .it .i64 0] /\ hget hp' p = some ⟨27, false, [pxR c s]⟩ /\ hp.next <= p /\ p < hp'.next /\ Up hp.next hp hp' := by
 obtain ⟨bud, sh, st, wn, ls, tr, ups⟩ := c
 obtain ⟨h1, h2, h3, h4⟩ := h
 simp only at h1 h2 h3 h4
 have q1 : ilt tr (Int.ofNat 1) = false := il0 (by show ¬ tr < 1; omega)
 have q2 : ilt (Int.ofNat 64) tr = false := il0 (by show ¬ (64 : Int) < tr; omega)
 have q3 : ilt ups (Int.ofNat 1) = false := il0 (by show ¬ ups < 1; omega)
 have q4 : ilt (Int.ofNat 8) ups = false := il0 (by show ¬ (8 : Int) < ups; omega)
 refine EvC.ofQ d5 rfl rfl rfl ?_
 repeat (first | refine EvQ.run ?_ | refine EvQ.fin X.rs ?_ | refine EvQ.fin1 (fun _ => rfl) rfl ?_)
 refine EvQ.call rfl X.al (cnew_ok (own := false) hp st wn ls h1 hl) ?_
 rintro _ hp1 ⟨r, u, p, v, q, rfl, -, -, -, -, u1, -⟩
 repeat (first | refine EvQ.run ?_ | refine EvQ.fin X.rs ?_ | refine EvQ.fin1 (fun _ => rfl) rfl ?_)
 refine EvQ.call rfl X.al (stoN_ok (own := false) hp1 bud h2) ?_
 rintro _ hp2 ⟨s, rfl, -, -, u2⟩
 have uu : Up hp.next hp hp2 := u1.trans (u2.mono u1.next)
 repeat' (first | refine EvQ.run ?_ | (refine EvQ.pickB rfl rfl rfl ?_) | (refine EvQ.cond rfl (fun h => ?_) (fun h => ?_) <;> ((first | replace h := X.nm h | skip); try have hne := ne_len h)) | (refine EvQ.g1 rfl (fun h => ?_) (fun h => ?_) <;> ((first | replace h := X.nm h | skip); try have hne := ne_len h)) | (refine EvQ.pick rfl (fun _ => rfl) (fun _ => rfl) (fun h => ?_) (fun h => ?_) <;> ((first | replace h := X.nm h | skip); try have hne := ne_len h)) | refine EvQ.fin X.rs ?_ | refine EvQ.fin1 (fun _ => rfl) rfl ?_)
 exact ⟨_, _, rfl, hp2.next, s, rfl, hget_new _ _, uu.next, Nat.lt_succ_self _, uu.trans (Up.new _ _ uu.next)⟩
end Go.Proofs.YtfnoiklmcmboeaaGreatDoor.cnw
namespace Ev
variable [Glob]
open Go
section
variable {F' : Nat -> Option Ev.Fn} {R : Ev.R} {Q : Ev.R -> Prop} {k : Ev.R -> D} {clr : List Nat} {tm : Tm} {lo : Lo} {hp : Hp} {r : List DOp} {us : List Nat} {g : Option (Nat × Bool)} {d : Nat}
theorem X_callU {own : Bool} {md : Md} {f : Nat} {xs : List A} {ys : List V} {w : V} {hp' : Hp} (hx : xs.map (get tm) = ys) (hl : ys.any isLp = false) (hk : keepsB us tm hp hp' = true) (h : EvC F' own f ys hp (.ret w hp')) (n : EvD F' (evLs clr r ⟨upd tm d w, lo, hp'⟩ k) R) :
  EvD F' (evLs clr (⟨some d, g, us, .call own md f xs⟩ :: r) ⟨tm, lo, hp⟩ k) R := by
 have e : evLs clr (⟨some d, g, us, .call own md f xs⟩ :: r) ⟨tm, lo, hp⟩ k = callD own f (xs.map (get tm)) ⟨tm, lo, hp⟩ (fun v s => bif keepsB us tm hp s.hp then forceV (fun v => evLs clr r (put s (some d) v) k) v else .bad) (fun v s => k (.pan v s)) := rfl
 rw [e, hx]
 unfold callD
 rw [hl]
 refine EvD.call h ?_
 show EvD F' (bif keepsB us tm hp hp' then forceV (fun v => evLs clr r (put (St.setHp ⟨tm, lo, hp⟩ hp') (some d) v) k) w else .bad) R
 rw [hk]
 show EvD F' (forceV (fun v => evLs clr r (put (St.setHp ⟨tm, lo, hp⟩ hp') (some d) v) k) w) R
 rw [forceV_eq]
 exact n
theorem EvQ_callU {own : Bool} {md : Md} {f : Nat} {xs : List A} {ys : List V} {P : V -> Hp -> Prop} (hx : xs.map (get tm) = ys) (hl : ys.any isLp = false) (hk : ∀ hp', keepsB us tm hp hp' = true) (h : ∃ v hp', EvC F' own f ys hp (.ret v hp') /\ P v hp')
  (n : ∀ v hp', P v hp' -> EvQ F' (evLs clr r ⟨upd tm d v, lo, hp'⟩ k) Q) : EvQ F' (evLs clr (⟨some d, g, us, .call own md f xs⟩ :: r) ⟨tm, lo, hp⟩ k) Q := by
 obtain ⟨v, hp', h1, h2⟩ := h
 exact (n v hp' h2).lift fun R n => X_callU hx hl (hk hp') h1 n
end
end Ev
namespace Go.Proofs.YtfnoiklmcmboeaaGreatDoor.cnw
open Go hiding Fn
open Ev tab
attribute [local irreducible] C.run EvC EvD EvL EvO EvP bK evGds evLs fK gK lpB pK sK stat stepD
theorem dead_ok {own : Bool} (hp : Hp) (c : Nat) (st wn ls : Int) (a b p v : V) (o i : Int) (hg : hget hp c = some ⟨26, false, [cnR st wn ls a b p v o i]⟩) :
  ∃ w hp', EvC Fq own 62 [.pt c 0 0] hp (.ret w hp') /\ (w = .bo false /\ hp' = hp) := by
 unfold cnR at hg
 refine EvC.ofQ d62 rfl rfl rfl ?_
 repeat (first | refine EvQ.run ?_ | refine EvQ.fin X.rs ?_ | refine EvQ.fin1 (fun _ => rfl) rfl ?_)
 exact ⟨_, _, rfl, rfl, rfl⟩
theorem bs_sub (q : List Int) (a b : Nat) : ((bs q).drop a).take b = bs ((q.drop a).take b) := by simp [bs, List.map_take, List.map_drop]
theorem cp_ok (hp : Hp) (R : List (List V)) (hl : hp.lim <= hp.next) : Ow (gah hp .ns 1 [] R) (gav hp .ns 0 R.length) 1 R /\ (∀ id, idOf (gav hp .ns 0 R.length) = some id -> hp.next <= id) /\ hp.next <= (gah hp .ns 1 [] R).next /\
  (gah hp .ns 1 [] R).lim = hp.lim /\ ∀ j, j < hp.next -> hget (gah hp .ns 1 [] R) j = hget hp j := by
 refine ⟨by have := Ow.gput (new := R) (Ow.ns (hp := hp) (sz := 1)) hl; simpa using this, fun id h => ?_, gah_next, gah_lim, fun j hj => gah_get (fun q => by cases q) hj⟩
 unfold gav at h
 by_cases e : R.length = 0
 ·simp [e, idOf] at h
 ·simp [e, idOf] at h; omega
theorem out_ok {own : Bool} (hp : Hp) (c : Nat) (n st wn ls : Int) (a b p v : V) (o i : Int) (q : List Int) (hg : hget hp c = some ⟨26, false, [cnR st wn ls a b p v o i]⟩)
  (hO : Ow hp v 1 (bs q)) (hq : q.length <= 1000) (hlim : hp.lim <= c) (hlt : c < hp.next) :
  ∃ w hp', EvC Fq own 24 [.pt c 0 0, .it .i64 n] hp (.ret w hp') /\ ∃ (v' : V) (q' r : List Int), Ow hp' w 1 (bs r) /\ Ow hp' v' 1 (bs q') /\ q'.length <= 1000 /\ hget hp' c = some ⟨26, false, [cnR st wn ls a b p v' o i]⟩ /\
   (∀ id, idOf v' = some id -> hp.next <= id) /\ (∀ id, idOf w = some id -> hp.next <= id) /\ hp.next <= hp'.next /\ hp'.lim = hp.lim /\ ∀ j, j < hp.next -> j ≠ c -> hget hp' j = hget hp j := by
 unfold cnR at hg
 have al := hO.lp
 have ac := hO.cells
 have ak := hO.keep
 have alen := hO.len
 rw [bs_length] at alen
 refine EvC.ofQ d24 rfl rfl rfl ?_
 repeat (first | refine EvQ.run ?_ | refine EvQ.fin X.rs ?_ | refine EvQ.fin1 (fun _ => rfl) rfl ?_)
 have hk : ∃ k : Nat, k <= q.length /\ (∀ m, m = (bif ilt n (Int.ofNat 0) then Int.ofNat 0 else n) -> (bif ilt (Int.ofNat q.length) m then Int.ofNat q.length else m) = Int.ofNat k) := by
  refine ⟨(min (max n 0) q.length).toNat, by omega, fun m hm => ?_⟩
  have z0 : Int.ofNat 0 = (0 : Int) := rfl
  have zq : Int.ofNat q.length = (q.length : Int) := rfl
  have zk : ∀ x : Nat, Int.ofNat x = (x : Int) := fun _ => rfl
  rw [ilt_eq, z0] at hm
  have hm2 : m = max n 0 := by
   rw [hm]
   by_cases h : n < 0
   ·rw [decide_eq_true h, cond_true]; omega
   ·rw [decide_eq_false h, cond_false]; omega
  rw [hm2, ilt_eq, zq, zk]
  by_cases h : (q.length : Int) < max n 0
  ·rw [decide_eq_true h, cond_true]; omega
  ·rw [decide_eq_false h, cond_false]; omega
 obtain ⟨k, hk1, hk2⟩ := hk
 repeat (first | refine EvQ.run ?_ | refine EvQ.fin X.rs ?_ | refine EvQ.fin1 (fun _ => rfl) rfl ?_)
 have k1 : k <= (bs q).length := by rw [bs_length]; exact hk1
 refine EvQ.lift (fun _ zn => X.slcS (v := v) (o1 := none) (o2 := some (.t 18)) (a := 0) (b := k) rfl hO.sl rfl ⟨.i64, congrArg (V.it .i64) (hk2 _ rfl)⟩ (Nat.zero_le _) k1 zn) ?_
 have sl1 := (hO.sl.slv (Nat.zero_le k) k1).2
 generalize slv v 0 k = y1 at *
 have al1 := sl1.lp
 rw [bs_sub] at sl1
 have hr1 : (bs ((q.drop 0).take (k - 0))).length <= 1000 := by rw [bs_length]; simp; omega
 generalize (q.drop 0).take (k - 0) = r1 at *
 refine EvQ.lift (fun _ zn => X.apg (v := .ns) (rows := []) (new := bs r1) rfl rfl Ow.ns sl1.els (fun _ => rfl) (by show (0 + (bs r1).length) * 1 <= _; omega) zn) ?_
 obtain ⟨o1, o2, o3, o4, o5⟩ := cp_ok hp (bs r1) (by omega)
 have g2 := (o5 c hlt).trans hg
 have hO2 : Ow (gah hp .ns 1 [] (bs r1)) v 1 (bs q) := hO.gah' (fun _ _ q => by cases q)
 have l2 : (gah hp .ns 1 [] (bs r1)).lim <= (gah hp .ns 1 [] (bs r1)).next := by rw [o4]; omega
 have wl := o1.lp
 generalize hhp2 : gah hp .ns 1 [] (bs r1) = hp2 at *
 generalize hww : gav hp .ns 0 (bs r1).length = w at *
 have hww' : gav hp .ns (List.length ([] : List (List V))) (bs r1).length = w := hww
 try rw [hww']
 repeat (first | refine EvQ.run ?_ | refine EvQ.fin X.rs ?_ | refine EvQ.fin1 (fun _ => rfl) rfl ?_)
 refine EvQ.lift (fun _ zn => X.slcS (v := v) (o1 := some (.t 26)) (o2 := none) (a := k) (b := (bs q).length) rfl hO2.sl ⟨.i64, congrArg (V.it .i64) (hk2 _ rfl)⟩ rfl k1 (Nat.le_refl _) zn) ?_
 have sl2 := (hO2.sl.slv k1 (Nat.le_refl _)).2
 generalize slv v k (bs q).length = y2 at *
 have al2 := sl2.lp
 rw [bs_sub] at sl2
 have hr2 : (bs ((q.drop k).take ((bs q).length - k))).length <= 1000 := by rw [bs_length]; simp; omega
 generalize (q.drop k).take ((bs q).length - k) = r2 at *
 refine EvQ.lift (fun _ zn => X.apg (v := .ns) (rows := []) (new := bs r2) rfl rfl Ow.ns sl2.els (fun _ => rfl) (by show (0 + (bs r2).length) * 1 <= _; omega) zn) ?_
 obtain ⟨p1, p2, p3, p4, p5⟩ := cp_ok hp2 (bs r2) l2
 have g3 := (p5 c (by omega)).trans g2
 have hO3 : Ow (gah hp2 .ns 1 [] (bs r2)) w 1 (bs r1) := o1.gah' (fun _ _ q => by cases q)
 have p6 := p1.lp
 have p7 := p1.cells
 have p8 := p1.keep
 have l3 : (gah hp2 .ns 1 [] (bs r2)).lim <= c := by rw [p4, o4]; exact hlim
 generalize gah hp2 .ns 1 [] (bs r2) = hp3 at *
 generalize hyy : gav hp2 .ns 0 (bs r2).length = w2 at *
 have hyy' : gav hp2 .ns (List.length ([] : List (List V))) (bs r2).length = w2 := hyy
 try rw [hyy']
 repeat (first | refine EvQ.run ?_ | refine EvQ.fin X.rs ?_ | refine EvQ.fin1 (fun _ => rfl) rfl ?_)
 refine ⟨_, _, rfl, w2, r2, r1, ?_, ?_, by rw [<- bs_length]; exact hr2, hget_set _ _ _, fun id h => Nat.le_trans o3 (p2 id h), o2, Nat.le_trans o3 p3, p4.trans o4, fun j h1 h2 => (hget_other h2).trans ((p5 j (by omega)).trans (o5 j h1))⟩
 ·exact hO3.get (Nat.le_refl _) rfl fun id h => hget_other (by have := o2 id h; omega)
 ·exact p1.get (Nat.le_refl _) rfl fun id h => hget_other (by have := p2 id h; omega)
end Go.Proofs.YtfnoiklmcmboeaaGreatDoor.cnw
