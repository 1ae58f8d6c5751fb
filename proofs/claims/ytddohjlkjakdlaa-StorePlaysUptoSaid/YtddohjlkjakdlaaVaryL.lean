import Derived.Test.YtddohjlkjakdlaaEvE
import Derived.Test.YtddohjlkjakdlaaLow
set_option linter.unusedVariables false
set_option linter.unusedSimpArgs false
set_option linter.unusedSectionVars false
set_option linter.unusedVariables false
set_option linter.unusedSimpArgs false
-- the document's small letters
namespace Go.Proofs.Ytddohjlkjakdlaa
open Go hiding Fn
open Ev tab
attribute [local irreducible] EvD EvL EvC evGds evLs C.run sK bK gK pK fK lpB stepD

set_option maxHeartbeats 8000000 in
theorem rlower_ok (s : List Nat) (hs : Txt s) (hl : s.length ≤ 100000000) : EvP F 49 c49 [.st s] [.st (lowL s)] := by
  refine EvP.ofQ d49 rfl rfl rfl ?_
  repeat' (first | refine EvQ.run ?_ | (refine EvQ.pickB rfl rfl rfl ?_) | (refine EvQ.cond rfl (fun h => ?_) (fun h => ?_) <;> ((first | replace h := X.nm h | skip); try have hne := ne_len h)) | (refine EvQ.g1 rfl (fun h => ?_) (fun h => ?_) <;> ((first | replace h := X.nm h | skip); try have hne := ne_len h)) | (refine EvQ.pick rfl (fun _ => rfl) (fun _ => rfl) (fun h => ?_) (fun h => ?_) <;> ((first | replace h := X.nm h | skip); try have hne := ne_len h)) | refine EvQ.fin X.rs ?_ | refine EvQ.fin1 (fun _ => rfl) rfl ?_)
  refine EvQ.loop (QL := XtQ 0 [(3, .hs 0 0 s.length)] (fun _ hp => hget hp 0 = some ⟨1, false, bs ((lowL s).map Int.ofNat)⟩ ∧ hp.lim = 0 ∧ 0 < hp.next)) ?_ ?_
  · refine EvL.invQ (S := Nat) (fun i => [(3, .hs 0 0 s.length), (4, .it .i64 (Int.ofNat i))]) (fun i _ hp => i ≤ s.length ∧ hget hp 0 = some ⟨1, false, bs ((lowT s i).map Int.ofNat)⟩ ∧ hp.lim = 0 ∧ 0 < hp.next) (fun i => s.length - i) _ ?_ 0 _ _ _ ⟨Nat.zero_le _, by show some _ = _; simp [lowT, lowL], rfl, by simp only [hgs]; omega⟩ X.kv
    intro i lo hp ⟨h1, hg, hlim, hnx⟩
    have hbl : (bs ((lowT s i).map Int.ofNat)).length = s.length := by rw [bs_length, List.length_map, lowT_length]
    have hml : ((lowT s i).map Int.ofNat).length = s.length := by rw [List.length_map, lowT_length]
    have hgi : i < s.length → (bs ((lowT s i).map Int.ofNat)).getD (0 + i) [] = [.it .u8 (Int.ofNat (s.getD i 0))] := fun h => by
      rw [Nat.zero_add]
      simp [bs, List.getD, lowT_get h]
    have hlt := hs.get i
    have hst := fun h : i < s.length => lowT_set h
    by_cases h : i < s.length
    · have hgi := hgi h
      have hst := hst h
      revert hgi hst hlt
      generalize s.getD i 0 = c
      intro hlt hgi hst
      have hsame : lowC c = c → lowT s (i + 1) = lowT s i := fun hc => by
        rw [hst, hc]
        have e := congrArg (fun r : List V => r) hgi
        apply List.ext_getElem?
        intro j
        rw [List.getElem?_set]
        by_cases q : i = j
        · subst q
          rw [if_pos rfl, lowT_length, if_pos h]
          have : (bs ((lowT s i).map Int.ofNat))[0 + i]? = some [.it .u8 (Int.ofNat c)] := by
            rw [List.getD, Nat.zero_add] at hgi
            rw [Nat.zero_add]
            cases z : (bs ((lowT s i).map Int.ofNat))[i]? with
            | none => rw [z] at hgi; cases hgi
            | some y => rw [z] at hgi; exact congrArg some hgi
          rw [Nat.zero_add] at this
          simp [bs] at this
          obtain ⟨y, h1, h2⟩ := this
          rw [h1]; congr 1; omega
        · rw [if_neg q]
      repeat' (first | refine EvQ.run ?_ | (refine EvQ.pickB rfl rfl rfl ?_) | (refine EvQ.cond rfl (fun h => ?_) (fun h => ?_) <;> ((first | replace h := X.nm h | skip); try have hne := ne_len h)) | (refine EvQ.g1 rfl (fun h => ?_) (fun h => ?_) <;> ((first | replace h := X.nm h | skip); try have hne := ne_len h)) | (refine EvQ.pick rfl (fun _ => rfl) (fun _ => rfl) (fun h => ?_) (fun h => ?_) <;> ((first | replace h := X.nm h | skip); try have hne := ne_len h)) | refine EvQ.fin X.rs ?_ | refine EvQ.fin1 (fun _ => rfl) rfl ?_)
      · refine EvQ.go (i + 1) X.kv ⟨by omega, ?_, hlim, hnx⟩ (by omega)
        refine (hget_set _ _ _).trans (congrArg (fun z => some (Bk.mk 1 false z)) ?_)
        show (bs ((lowT s i).map Int.ofNat)).set (0 + i) [V.it .u8 (wr .u8 (Int.ofNat c + Int.ofNat 32))] = _
        have e1 : lowC c = c + 32 := by unfold lowC; rw [if_pos (by omega)]
        have e2 : wr .u8 (Int.ofNat c + Int.ofNat 32) = Int.ofNat (lowC c) := by
          rw [wr8 (by simp; omega) (by simp; omega), e1]; rfl
        rw [Nat.zero_add, bs_set, hst, e2, List.map_set]
      · exact EvQ.go (i + 1) X.kv ⟨by omega, by rw [hsame (by unfold lowC; rw [if_neg (by omega)])]; exact hg, hlim, hnx⟩ (by omega)
      · exact EvQ.go (i + 1) X.kv ⟨by omega, by rw [hsame (by unfold lowC; rw [if_neg (by omega)])]; exact hg, hlim, hnx⟩ (by omega)
    · repeat' (first | refine EvQ.run ?_ | (refine EvQ.pickB rfl rfl rfl ?_) | (refine EvQ.cond rfl (fun h => ?_) (fun h => ?_) <;> ((first | replace h := X.nm h | skip); try have hne := ne_len h)) | (refine EvQ.g1 rfl (fun h => ?_) (fun h => ?_) <;> ((first | replace h := X.nm h | skip); try have hne := ne_len h)) | (refine EvQ.pick rfl (fun _ => rfl) (fun _ => rfl) (fun h => ?_) (fun h => ?_) <;> ((first | replace h := X.nm h | skip); try have hne := ne_len h)) | refine EvQ.fin X.rs ?_ | refine EvQ.fin1 (fun _ => rfl) rfl ?_)
      have hi : i = s.length := by omega
      subst hi
      refine EvQ.xt (.mk' X.kv ⟨?_, hlim, hnx⟩)
      rw [hg]
      have : lowT s s.length = lowL s := by unfold lowT; rw [List.take_length, List.drop_length, List.append_nil]
      rw [this]
  · rintro _ ⟨tm, lo, hp, rfl, hg, hlim, hnx⟩
    have hS : Sl hp (.hs 0 0 s.length) 1 (bs ((lowL s).map Int.ofNat)) := by
      refine .inr (.inr ⟨0, 0, false, _, ?_, hnx, by omega, hg, by omega, by rw [List.drop_zero, List.take_length]⟩)
      rw [bs_length, List.length_map]; simp [lowL]
    repeat' (first | refine EvQ.run ?_ | (refine EvQ.pickB rfl rfl rfl ?_) | (refine EvQ.cond rfl (fun h => ?_) (fun h => ?_) <;> ((first | replace h := X.nm h | skip); try have hne := ne_len h)) | (refine EvQ.g1 rfl (fun h => ?_) (fun h => ?_) <;> ((first | replace h := X.nm h | skip); try have hne := ne_len h)) | (refine EvQ.pick rfl (fun _ => rfl) (fun _ => rfl) (fun h => ?_) (fun h => ?_) <;> ((first | replace h := X.nm h | skip); try have hne := ne_len h)) | refine EvQ.fin X.rs ?_ | refine EvQ.fin1 (fun _ => rfl) rfl ?_)
    refine EvQ.lift (fun _ n => X.b2s X.w hS (lowL_txt hs) n) ?_
    repeat' (first | refine EvQ.run ?_ | (refine EvQ.pickB rfl rfl rfl ?_) | (refine EvQ.cond rfl (fun h => ?_) (fun h => ?_) <;> ((first | replace h := X.nm h | skip); try have hne := ne_len h)) | (refine EvQ.g1 rfl (fun h => ?_) (fun h => ?_) <;> ((first | replace h := X.nm h | skip); try have hne := ne_len h)) | (refine EvQ.pick rfl (fun _ => rfl) (fun _ => rfl) (fun h => ?_) (fun h => ?_) <;> ((first | replace h := X.nm h | skip); try have hne := ne_len h)) | refine EvQ.fin X.rs ?_ | refine EvQ.fin1 (fun _ => rfl) rfl ?_)
    exact PQ.st rfl
end Go.Proofs.Ytddohjlkjakdlaa
