import Derived.Test.YtcbiplmgaiipgaaEvE
import Derived.Test.YtcbiplmgaiipgaaBackP
import Derived.Test.YtcbiplmgaiipgaaFlds
set_option linter.unusedVariables false
set_option linter.unusedSimpArgs false
set_option linter.unusedSectionVars false
-- MessageBack: the walk
namespace Go.Proofs.Ytcbiplmgaiipgaa
open Go hiding Fn
open Ev tab
attribute [local irreducible] EvP EvD EvL EvC evGds evLs C.run sK bK gK pK fK lpB stepD lightB plainF reqF resF
theorem clo_own' {hp : Hp} {id len : Nat} {fr : Bool} {rows : List (List V)} (L : List Fld) (hg : hget hp id = some ⟨2, fr, rows⟩) (hl : hp.lim ≤ id) (hr : rows = fds L) (hlen : len = rows.length) (hn : L.length ≤ 10000000) :
    ClP [.c (.sl [.one, .one])] [.hs id 0 len] hp [.vs 2 (fds L)] (hset hp id (some ⟨2, true, fds L⟩)) := by
  subst hr hlen
  have e : ((fds L).drop 0).take (fds L).length = fds L := by rw [List.drop_zero, List.take_length]
  have := closeC_hs (n := depth) (ts := [.one, .one]) (i := 0) (len := (fds L).length) hg hl rfl (by omega) (by rw [e]; exact fds_clo L) (by rw [fds_length]; simp [depth]; omega)
  rw [e] at this
  exact .c this (.nil _)
set_option maxHeartbeats 8000000 in
/-- a response is the same as itself -/
theorem responses_ok (k n : Int) (fs : List Fld) (hf : fs.length ≤ 100000000) : EvP F 25 c25 [.ag [.it .i64 k, .vs 2 (fds fs), .it .i64 n], .ag [.it .i64 k, .vs 2 (fds fs), .it .i64 n]] [.bo true] := by
  have hs := sameF_ok fs fs hf
  rw [decide_eq_true rfl] at hs
  have b1 : ieq k k = true := by rw [ieqD]; exact decide_eq_true rfl
  have b5 : ieq n n = true := by rw [ieqD]; exact decide_eq_true rfl
  refine EvP.of d25 rfl rfl rfl (v := .bo _) (h := h0) (h' := h0) ?_ (.s (clo_bo _) (.nil _))
  refine X.fn ?_
  refine X.run ?_
  refine X.pcall (hs) X.c rfl rfl rfl ?_
  refine X.run ?_
  exact X.fin (fun _ => rfl) (congrArg V.bo b5) rfl
theorem restL_le (L : List Fld) : (restL L).length ≤ L.length := by
  unfold restL
  split
  · exact Nat.zero_le _
  · exact Nat.le_refl _
theorem restL_mem {L : List Fld} {f : Fld} (h : f ∈ restL L) : f ∈ L := by
  unfold restL at h
  split at h
  · cases h
  · exact h
theorem putH_all {P : List Nat → Prop} {h h' : Hd} {f : Fld} (hp : putH h f = some h') (hv : P h.m ∧ P h.s ∧ P h.a ∧ P h.p) (hf : P f.2) : P h'.m ∧ P h'.s ∧ P h'.a ∧ P h'.p := by
  unfold putH at hp
  obtain ⟨a, b, c, d⟩ := hv
  split at hp
  · cases hp; exact ⟨hf, b, c, d⟩
  · split at hp
    · cases hp; exact ⟨a, hf, c, d⟩
    · split at hp
      · cases hp; exact ⟨a, b, hf, d⟩
      · split at hp
        · cases hp; exact ⟨a, b, c, hf⟩
        · cases hp
theorem headGo_all {P : List Nat → Prop} : ∀ (l : List Fld) (seen : List (List Nat)) (h h' : Hd), headGo seen h l = some h' → (∀ f, f ∈ l → P f.2) → (P h.m ∧ P h.s ∧ P h.a ∧ P h.p) → P h'.m ∧ P h'.s ∧ P h'.a ∧ P h'.p
  | [], _, h, h', e, _, hv => by simp only [headGo] at e; cases e; exact hv
  | f :: r, seen, h, h', e, hl, hv => by
    simp only [headGo] at e
    split at e
    · cases e
    · cases hq : putH h f with
      | none => rw [hq] at e; cases e
      | some h2 => rw [hq] at e; exact headGo_all r _ h2 h' e (fun g hg => hl g (List.mem_cons_of_mem _ hg)) (putH_all hq hv (hl f List.mem_cons_self))
theorem tx_sPath : Txt sPath ∧ sPath.length ≤ 100000000 := ⟨by unfold Txt sPath; decide, by decide⟩
theorem tx_sMethod : Txt sMethod ∧ sMethod.length ≤ 100000000 := ⟨by unfold Txt sMethod; decide, by decide⟩
theorem tx_sAuth : Txt sAuth ∧ sAuth.length ≤ 100000000 := ⟨by unfold Txt sAuth; decide, by decide⟩
theorem tx_sScheme : Txt sScheme ∧ sScheme.length ≤ 100000000 := ⟨by unfold Txt sScheme; decide, by decide⟩
theorem tx_sStatus : Txt sStatus ∧ sStatus.length ≤ 100000000 := ⟨by unfold Txt sStatus; decide, by decide⟩
theorem req_fok {l : List Fld} (ht : ∀ f, f ∈ l → Txt f.1 ∧ Txt f.2) (hs : l.length ≤ 3000 ∧ ∀ f, f ∈ l → f.1.length ≤ 3000 ∧ f.2.length ≤ 3000) {h : Hd} {fs : List Fld} {n : Int} (e : reqF l = some (h, fs, n)) : fs.length ≤ 3000 ∧ FOK (frB h ++ fs) := by
  unfold reqF at e
  cases hh : headS (l.take (kOf l)) with
  | none => rw [hh] at e; cases e
  | some h' =>
    rw [hh] at e
    simp only at e
    split at e
    · simp only [Option.some.injEq, Prod.mk.injEq] at e
      obtain ⟨rfl, rfl, rfl⟩ := e
      have hall := headGo_all (P := fun v => Txt v ∧ v.length ≤ 3000) _ _ _ _ hh (fun f hf => ⟨(ht f (List.mem_of_mem_take hf)).2, (hs.2 f (List.mem_of_mem_take hf)).2⟩) ⟨⟨fun n hn => (List.not_mem_nil hn).elim, Nat.zero_le _⟩, ⟨fun n hn => (List.not_mem_nil hn).elim, Nat.zero_le _⟩, ⟨fun n hn => (List.not_mem_nil hn).elim, Nat.zero_le _⟩, ⟨fun n hn => (List.not_mem_nil hn).elim, Nat.zero_le _⟩⟩
      obtain ⟨⟨m1, m2⟩, ⟨s1, s2⟩, ⟨a1, a2⟩, p1, p2⟩ := hall
      have hl := restL_le (l.drop (kOf l))
      rw [List.length_drop] at hl
      refine ⟨by omega, ⟨by rw [List.length_append]; show 4 + _ ≤ _; omega, fun f hf => ?_⟩⟩
      rcases List.mem_append.1 hf with hf | hf
      · simp only [frB, List.mem_cons, List.not_mem_nil, or_false] at hf
        rcases hf with rfl | rfl | rfl | rfl
        · exact ⟨tx_sPath.1, p1, tx_sPath.2, by show h'.p.length ≤ _; omega⟩
        · exact ⟨tx_sMethod.1, m1, tx_sMethod.2, by show h'.m.length ≤ _; omega⟩
        · exact ⟨tx_sAuth.1, a1, tx_sAuth.2, by show h'.a.length ≤ _; omega⟩
        · exact ⟨tx_sScheme.1, s1, tx_sScheme.2, by show h'.s.length ≤ _; omega⟩
      · have hm := List.mem_of_mem_drop (restL_mem hf)
        have := hs.2 f hm
        exact ⟨(ht f hm).1, (ht f hm).2, by omega, by omega⟩
    · cases e
theorem res_fok {l : List Fld} (ht : ∀ f, f ∈ l → Txt f.1 ∧ Txt f.2) (hs : l.length ≤ 3000 ∧ ∀ f, f ∈ l → f.1.length ≤ 3000 ∧ f.2.length ≤ 3000) {k : Int} {fs : List Fld} {n : Int} (e : resF l = some (k, fs, n)) : fs.length ≤ 3000 ∧ FOK ((sStatus, dg k) :: fs) := by
  have hk := resF_some e
  cases l with
  | nil => unfold resF at e; cases e
  | cons g r =>
    rw [resF_cons] at e
    split at e
    · simp only [Option.some.injEq, Prod.mk.injEq] at e
      obtain ⟨-, rfl, rfl⟩ := e
      have hl := restL_le r
      have h1 := hs.1
      rw [List.length_cons] at h1
      refine ⟨by omega, ⟨by rw [List.length_cons]; omega, fun f hf => ?_⟩⟩
      rcases List.mem_cons.1 hf with rfl | hf
      · refine ⟨tx_sStatus.1, ?_, tx_sStatus.2, by show 3 ≤ _; omega⟩
        intro c hc
        simp only [dg, List.mem_cons, List.not_mem_nil, or_false] at hc
        rcases hc with rfl | rfl | rfl <;> omega
      · have hm := List.mem_cons_of_mem g (restL_mem hf)
        have := hs.2 f hm
        exact ⟨(ht f hm).1, (ht f hm).2, by omega, by omega⟩
    · cases e
end Go.Proofs.Ytcbiplmgaiipgaa
