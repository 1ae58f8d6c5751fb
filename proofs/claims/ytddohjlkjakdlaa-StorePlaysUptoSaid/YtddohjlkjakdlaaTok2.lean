import Derived.Test.YtddohjlkjakdlaaEvE
import Derived.Test.YtddohjlkjakdlaaTok
set_option linter.unusedVariables false
set_option linter.unusedSimpArgs false
set_option linter.unusedSectionVars false
set_option linter.unusedVariables false
set_option linter.unusedSimpArgs false
-- values, small letters, names
namespace Go.Proofs.Ytddohjlkjakdlaa
open Go hiding Fn
open Ev tab
attribute [local irreducible] EvD EvL EvC evGds evLs C.run sK bK gK pK fK lpB stepD

def lowC (c : Nat) : Nat := if 65 ≤ c ∧ c ≤ 90 then c + 32 else c
def lowL (s : List Nat) : List Nat := s.map lowC
theorem lowC_lt {c : Nat} (h : c < 256) : lowC c < 256 := by unfold lowC; split <;> omega
theorem lowL_txt {s : List Nat} (h : Txt s) : Txt (lowL s) := by
  intro n hn
  simp only [lowL, List.mem_map] at hn
  obtain ⟨m, hm, rfl⟩ := hn
  exact lowC_lt (h m hm)
def L89 : C := d66.body.lps.getD 0 .skip
/-- the first ones made small -/
def lowT (s : List Nat) (i : Nat) : List Nat := lowL (s.take i) ++ s.drop i
theorem lowT_length (s : List Nat) (i : Nat) : (lowT s i).length = s.length := by simp [lowT, lowL]; omega
theorem lowT_set {s : List Nat} {i : Nat} (h : i < s.length) : lowT s (i + 1) = (lowT s i).set i (lowC (s.getD i 0)) := by
  have h1 : (lowL (s.take i)).length = i := by simp [lowL]; omega
  have e1 : s.drop i = s[i] :: s.drop (i + 1) := List.drop_eq_getElem_cons h
  unfold lowT
  rw [List.set_append_right _ _ (by omega), h1, Nat.sub_self, e1, List.set_cons_zero, List.take_add_one, List.getElem?_eq_getElem h]
  simp only [lowL, Option.toList_some, List.map_append, List.map_cons, List.map_nil, List.append_assoc, List.singleton_append, List.getD, List.getElem?_eq_getElem h, Option.getD_some]
theorem lowT_get {s : List Nat} {i : Nat} (h : i < s.length) : (lowT s i)[i]? = some (s.getD i 0) := by
  have h1 : (lowL (s.take i)).length = i := by simp [lowL]; omega
  unfold lowT
  rw [List.getElem?_append_right (by omega), h1, Nat.sub_self, List.drop_eq_getElem_cons h]
  simp [List.getD, h]
theorem bs_set (l : List Int) (i : Nat) (n : Int) : (bs l).set i [.it .u8 n] = bs (l.set i n) := by simp [bs, List.map_set]
set_option maxHeartbeats 8000000 in
theorem lower_ok (s : List Nat) (hs : Txt s) (hl : s.length ≤ 100000000) : EvP F 66 c66 [.st s] [.st (lowL s)] := by
  let hp0 : Hp := hnew h0 ⟨1, false, bs (s.map Int.ofNat)⟩
  have loop : ∀ (tm : Tm) (lo : Lo), [3, 8, 9, 10].map (fun s => (s, tm s)) = [(3, .hs 0 0 s.length), (8, .hs 0 0 s.length), (9, .it .i64 (Int.ofNat s.length)), (10, .it .i64 (Int.ofNat 0))] → ∃ r, EvL F [3, 8, 9, 10] [] (lpB L89) ⟨tm, lo, hp0⟩ r ∧
      (∃ tm lo hp, r = .exit 0 ⟨tm, lo, hp⟩ ∧ tm 3 = .hs 0 0 s.length ∧ hget hp 0 = some ⟨1, false, bs ((lowL s).map Int.ofNat)⟩ ∧ hp.lim = 0 ∧ 0 < hp.next) := by
    refine fun tm lo hk => EvL.inv (S := Nat) (fun i => [(3, .hs 0 0 s.length), (8, .hs 0 0 s.length), (9, .it .i64 (Int.ofNat s.length)), (10, .it .i64 (Int.ofNat i))]) (fun i _ hp => i ≤ s.length ∧ hget hp 0 = some ⟨1, false, bs ((lowT s i).map Int.ofNat)⟩ ∧ hp.lim = 0 ∧ 0 < hp.next) (fun i => s.length - i) _ ?_ 0 tm lo hp0
      ⟨by omega, by show some _ = _; simp [lowT, lowL], rfl, by rw [hnew_next]; omega⟩ hk
    intro i lo hp ⟨h1, hg, hlim, hnx⟩
    have hml : ((lowT s i).map Int.ofNat).length = s.length := by rw [List.length_map, lowT_length]
    have hbl : (bs ((lowT s i).map Int.ofNat)).length = s.length := by rw [bs_length, hml]
    by_cases h : i < s.length
    · obtain ⟨c, hce⟩ : ∃ c, c = s.getD i 0 := ⟨_, rfl⟩
      have hgi : (bs ((lowT s i).map Int.ofNat)).getD (0 + i) [] = [.it .u8 (Int.ofNat c)] := by
        rw [Nat.zero_add, hce]
        simp [bs, List.getD, lowT_get h]
      have hlt : c < 256 := by rw [hce]; exact hs.get i
      have hst := lowT_set h
      rw [← hce] at hst
      by_cases hb : 65 ≤ c ∧ c ≤ 90
      · obtain ⟨hb1, hb2⟩ := hb
        left
        iterate 3 apply Exists.intro
        refine ⟨i + 1, ?_, ?_, ⟨h, ?_, ?_, ?_⟩, by omega⟩
        · refine X.run ?_
          exact EvD.done _
        · exact X.kv
        · show hget (hset hp 0 (some _)) 0 = _
          rw [hget_set]
          congr 2
          show (bs ((lowT s i).map Int.ofNat)).set (0 + i) [V.it .u8 (wr .u8 (Int.ofNat c + Int.ofNat 32))] = _
          have e1 : lowC c = c + 32 := by unfold lowC; rw [if_pos ⟨hb1, hb2⟩]
          have e2 : wr .u8 (Int.ofNat c + Int.ofNat 32) = Int.ofNat (lowC c) := by
            rw [wr8 (by simp; omega) (by simp; omega), e1]; rfl
          rw [Nat.zero_add, bs_set, hst, e2, List.map_set]
        · exact hlim
        · exact hnx
      · have hlc : lowC c = c := by unfold lowC; rw [if_neg hb]
        have hsame : lowT s (i + 1) = lowT s i := by
          rw [hst, hlc]
          apply List.ext_getElem?
          intro j
          rw [List.getElem?_set]
          by_cases e : i = j
          · subst e; rw [if_pos rfl, lowT_length, if_pos h, lowT_get h, hce]
          · rw [if_neg e]
        rcases (by omega : c < 65 ∨ 90 < c ∧ 65 ≤ c) with hc | hc
        all_goals
          left
          iterate 3 apply Exists.intro
          refine ⟨i + 1, ?_, ?_, ⟨h, ?_, ?_, ?_⟩, by omega⟩
          · refine X.run ?_
            exact EvD.done _
          · exact X.kv
          · rw [hsame]; exact hg
          · exact hlim
          · exact hnx
    · right
      apply EvL.endE
      · refine X.run ?_
        exact EvD.done _
      · refine ⟨_, _, _, rfl, rfl, ?_, hlim, hnx⟩
        rw [hg]
        have : lowT s i = lowL s := by unfold lowT; rw [List.take_of_length_le (by omega), List.drop_of_length_le (by omega), List.append_nil]
        rw [this]
  obtain ⟨r, hL, tm, lo, hp, rfl, e3, hg, hlim, hnx⟩ := loop (tmOf [(3, .hs 0 0 s.length), (8, .hs 0 0 s.length), (9, .it .i64 (Int.ofNat s.length)), (10, .it .i64 (Int.ofNat 0))]) (fun _ => none) rfl
  have hL := hL.pe e3
  have hS : Sl hp (.hs 0 0 s.length) 1 (bs ((lowL s).map Int.ofNat)) := by
    refine .inr (.inr ⟨0, 0, false, _, ?_, hnx, by omega, hg, by omega, by rw [List.drop_zero, List.take_length]⟩)
    rw [bs_length, List.length_map]; simp [lowL]
  refine EvP.of d66 rfl rfl rfl (v := .st _) (h := hp) (h' := hp) ?_ (.s (clo_st _) (.nil _))
  refine X.fn ?_
  refine X.run ?_
  refine X.loop (hL.congr rfl rfl rfl) ?_
  refine X.run ?_
  refine X.b2s X.w hS (lowL_txt hs) ?_
  refine X.run ?_
  exact X.fin (fun _ => rfl) rfl rfl

end Go.Proofs.Ytddohjlkjakdlaa
