import Derived.Test.YtfnoiklmcmboeaaGreatDoorEvE
import Derived.Test.YtfnoiklmcmboeaaGreatDoorCnw2
set_option linter.unusedSectionVars false
set_option linter.unusedVariables false
set_option linter.unusedSimpArgs false
-- conn.New: settings are put (EvHp EvOwn)
namespace Go.Proofs.YtfnoiklmcmboeaaGreatDoor.cnw
open Go hiding Fn
open Ev tab
attribute [local irreducible] EvP EvD EvL EvC evGds evLs C.run sK bK gK pK fK lpB stepD
/-- settings -/
def stv (x : Int × Int) : List V := [.it .i64 x.1, .it .i64 x.2]
def sts (l : List (Int × Int)) : List (List V) := l.map stv
abbrev s0 : Int × Int := (0, 0)
theorem sts_length (l : List (Int × Int)) : (sts l).length = l.length := by simp [sts]
theorem sts_getD {l : List (Int × Int)} {i : Nat} (h : i < l.length) : (sts l).getD i [] = stv (l.getD i s0) := by
  unfold sts
  rw [List.getD, List.getD, List.getElem?_map, List.getElem?_eq_getElem h]; rfl
/-- a setting's bytes -/
def setB (x : Int × Int) : List Int := [x.1 / 256 % 256, x.1 % 256, x.2 / 16777216 % 256, x.2 / 65536 % 256, x.2 / 256 % 256, x.2 % 256]
def setsB (l : List (Int × Int)) : List Int := l.flatMap setB
theorem setsB_take {l : List (Int × Int)} {i : Nat} (h : i < l.length) : setsB (l.take (i + 1)) = setsB (l.take i) ++ setB (l.getD i s0) := by
  unfold setsB
  rw [take_getD h s0, List.flatMap_append]; simp
theorem setsB_len (l : List (Int × Int)) : (setsB l).length = 6 * l.length := by
  induction l with
  | nil => rfl
  | cons x r ih =>
    have e : setsB (x :: r) = setB x ++ setsB r := rfl
    rw [e, List.length_append, ih]; simp only [setB, List.length_cons, List.length_nil]; omega
theorem bs_app (a b : List Int) : bs a ++ bs b = bs (a ++ b) := by simp [bs]
set_option maxHeartbeats 16000000 in
theorem sput_ok (l : List (Int × Int)) (hl : l.length ≤ 1000000) : EvP Fq 58 c58 [.vs 2 (sts l)] [.vs 1 (bs (setsB l))] := by
  have hsl := sts_length l
  refine EvP.ofQ d58 rfl rfl rfl ?_
  repeat' (first | refine EvQ.run ?_ | (refine EvQ.pickB rfl rfl rfl ?_) | (refine EvQ.cond rfl (fun h => ?_) (fun h => ?_) <;> ((first | replace h := X.nm h | skip); try have hne := ne_len h)) | (refine EvQ.g1 rfl (fun h => ?_) (fun h => ?_) <;> ((first | replace h := X.nm h | skip); try have hne := ne_len h)) | (refine EvQ.pick rfl (fun _ => rfl) (fun _ => rfl) (fun h => ?_) (fun h => ?_) <;> ((first | replace h := X.nm h | skip); try have hne := ne_len h)) | refine EvQ.fin X.rs ?_ | refine EvQ.fin1 (fun _ => rfl) rfl ?_)
  refine EvQ.loop (QL := fun r => ∃ v, XtQ 0 [(3, v)] (fun lo hp => Ow hp v 1 (bs (setsB l))) r) ?_ ?_
  · refine EvL.invQ (S := Nat × V) (fun y => [(3, y.2), (7, .vs 2 (sts l)), (8, .it .i64 (Int.ofNat (sts l).length)), (9, .it .i64 (Int.ofNat y.1))])
      (fun y lo hp => shed [5] lo = (fun _ => none) ∧ hp.lim ≤ hp.next ∧ y.1 ≤ l.length ∧ Ow hp y.2 1 (bs (setsB (l.take y.1)))) (fun y => l.length - y.1) _ ?_ (0, .ns) _ _ _ ⟨X.lo, Nat.le_refl _, Nat.zero_le _, .ns⟩ X.kv
    intro ⟨i, v⟩ lo hp ⟨e1, e2, e3, hO⟩
    simp only at e2 e3 hO
    rw [e1]
    have vl := hO.lp
    by_cases hi : i < l.length
    · have hg := sts_getD hi
      have ht := setsB_take hi
      have hbl : (bs (setsB (l.take i))).length = 6 * i := by rw [bs_length, setsB_len, List.length_take]; omega
      generalize l.getD i s0 = x at *
      obtain ⟨a, b⟩ := x
      have e : bs (setB (a, b)) = [[V.it IntKind.u8 (wr IntKind.u8 (a.fdiv (Int.ofNat 256)))], [V.it IntKind.u8 (wr IntKind.u8 a)], [V.it IntKind.u8 (wr IntKind.u8 (b.fdiv (Int.ofNat 16777216)))], [V.it IntKind.u8 (wr IntKind.u8 (b.fdiv (Int.ofNat 65536)))],
          [V.it IntKind.u8 (wr IntKind.u8 (b.fdiv (Int.ofNat 256)))], [V.it IntKind.u8 (wr IntKind.u8 b)]] := by
        simp [bs, setB, wr8m, Int.fdiv_eq_ediv_of_nonneg]
      have hO' := hO.put (new := bs (setB (a, b))) e2
      have hX : bs (setsB (l.take (i + 1))) = bs (setsB (l.take i)) ++ bs (setB (a, b)) := by rw [ht, bs_app]
      generalize bs (setsB (l.take i)) = rows at *
      rw [e] at hO' hX
      repeat' (first | refine EvQ.run ?_ | (refine EvQ.pickB rfl rfl rfl ?_) | (refine EvQ.cond rfl (fun h => ?_) (fun h => ?_) <;> ((first | replace h := X.nm h | skip); try have hne := ne_len h)) | (refine EvQ.g1 rfl (fun h => ?_) (fun h => ?_) <;> ((first | replace h := X.nm h | skip); try have hne := ne_len h)) | (refine EvQ.pick rfl (fun _ => rfl) (fun _ => rfl) (fun h => ?_) (fun h => ?_) <;> ((first | replace h := X.nm h | skip); try have hne := ne_len h)) | refine EvQ.fin X.rs ?_ | refine EvQ.fin1 (fun _ => rfl) rfl ?_)
      refine EvQ.go (i + 1, _) X.kv ⟨X.lo, by rw [oah_lim, oah_next]; omega, hi, by rw [hX]; exact hO'⟩ (by show l.length - (i + 1) < l.length - i; omega)
    · repeat' (first | refine EvQ.run ?_ | (refine EvQ.pickB rfl rfl rfl ?_) | (refine EvQ.cond rfl (fun h => ?_) (fun h => ?_) <;> ((first | replace h := X.nm h | skip); try have hne := ne_len h)) | (refine EvQ.g1 rfl (fun h => ?_) (fun h => ?_) <;> ((first | replace h := X.nm h | skip); try have hne := ne_len h)) | (refine EvQ.pick rfl (fun _ => rfl) (fun _ => rfl) (fun h => ?_) (fun h => ?_) <;> ((first | replace h := X.nm h | skip); try have hne := ne_len h)) | refine EvQ.fin X.rs ?_ | refine EvQ.fin1 (fun _ => rfl) rfl ?_)
      rw [List.take_of_length_le (by omega)] at hO
      exact EvQ.xt ⟨v, .mk' X.kv hO⟩
  · rintro _ ⟨v, tm, lo, hp, rfl, hO⟩
    have vl := hO.lp
    obtain ⟨hp', hc, hcf⟩ := hO.sl.close (ts := [.one]) (bs_clo _) (by rw [bs_length, setsB_len]; show _ + 1 + 3 ≤ 100000000; omega)
    repeat' (first | refine EvQ.run ?_ | (refine EvQ.pickB rfl rfl rfl ?_) | (refine EvQ.cond rfl (fun h => ?_) (fun h => ?_) <;> ((first | replace h := X.nm h | skip); try have hne := ne_len h)) | (refine EvQ.g1 rfl (fun h => ?_) (fun h => ?_) <;> ((first | replace h := X.nm h | skip); try have hne := ne_len h)) | (refine EvQ.pick rfl (fun _ => rfl) (fun _ => rfl) (fun h => ?_) (fun h => ?_) <;> ((first | replace h := X.nm h | skip); try have hne := ne_len h)) | refine EvQ.fin X.rs ?_ | refine EvQ.fin1 (fun _ => rfl) rfl ?_)
    exact PQ.of (.c hc (.nil _))
end Go.Proofs.YtfnoiklmcmboeaaGreatDoor.cnw
