import Derived.Test.YtcbiplmgaiipgaaEvE
import Derived.Test.YtcbiplmgaiipgaaOrder
set_option linter.unusedVariables false
set_option linter.unusedSimpArgs false
namespace Go.Proofs.Ytcbiplmgaiipgaa
open Go hiding Fn
open Ev tab
attribute [local irreducible] EvD EvL EvC evGds evLs C.run sK bK gK pK fK lpB stepD

theorem rowQ_open (q : Option (Hd × List Fld × Int)) : ∃ m s a p fs n, rowQ q = [.st m, .st s, .st a, .st p, .vs 2 (fds fs), .it .i64 n] := by
  cases q with
  | none => exact ⟨[], [], [], [], [], 0, rfl⟩
  | some q => obtain ⟨h, fs, n⟩ := q; exact ⟨h.m, h.s, h.a, h.p, fs, n, rfl⟩
theorem own_els {hp : Hp} {id len : Nat} {rows : List (List V)} (L : List Fld) (hg : hget hp id = some ⟨2, false, rows⟩) (hr : rows = fds L) (hlen : len = rows.length) : Els hp 2 (.hs id 0 len) (fds L) := by
  subst hr hlen
  have h := Els.hs (i := 0) (n := (fds L).length) hg (by omega)
  rw [List.drop_zero, List.take_length] at h
  exact h
set_option maxHeartbeats 8000000 in
theorem order_go (a p : List Nat) (n : Int) (more : List Fld) (ha : a.length ≤ 100) (hp : p.length ≤ 100) (hl : lightB more = true) (hm : ∀ f, f ∈ more → Txt f.1 ∧ Txt f.2) (hq : ∀ f, f ∈ more → f.1.length ≤ 10000000 ∧ f.2.length ≤ 10000000) (hn : more.length ≤ 1000000)
    (hF : FOK (four a p ++ more)) (hFt : ∀ k, k ≤ 3 → FOK (turned a p k ++ more)) (hFx : FOK (([120], [121]) :: (four a p ++ more)))
    (hR : ∀ h fs n, reqF (four a p ++ more) = some (h, fs, n) → fs.length ≤ 100000000) :
    ∃ h, EvD F (stepD d6 [.st a, .st p, .it .i64 n, .vs 2 (fds more)] h0) (Rt (.bo true) h) := by
  have h1 := mlight_ok more (by omega) hq
  rw [hl] at h1
  have hlen := fds_length more
  obtain ⟨k, k1, k2, hw⟩ := within_p n 0 3 (by omega) (by omega) (by omega)
  obtain ⟨k, rfl⟩ := Int.eq_ofNat_of_zero_le k1
  have q1 := request_ok (four a p ++ more) hF
  obtain ⟨m1, s1, a1, p1, f1, n1, e1⟩ := rowQ_open (reqF (four a p ++ more))
  rw [e1] at q1
  have q2 := request_ok (turned a p k ++ more) (hFt k (by omega))
  have hEq : reqF (turned a p k ++ more) = reqF (four a p ++ more) := (reqF_turned a p k (by omega) more).trans (reqF_turned a p 0 (by omega) more).symm
  rw [hEq, e1] at q2
  have q3 := request_ok (([120], [121]) :: (four a p ++ more)) hFx
  rw [reqF_behind _ _ rfl] at q3
  have q4 := requests_ok (reqF (four a p ++ more)) hR
  rw [e1] at q4
  have q5 : CloL [.one, .one, .one, .one, .sl [.one, .one], .one] [.st m1, .st s1, .st a1, .st p1, .vs 2 (fds f1), .it .i64 n1] := rowQ_clo (⟨m1, s1, a1, p1⟩, f1, n1)
  apply Exists.intro
  refine X.fn ?_
  refine X.run ?_
  refine X.pcall (h1) X.c rfl rfl rfl ?_
  refine X.run ?_
  refine X.pcall ((of_ok sMethod sGet)) X.c rfl rfl rfl ?_
  refine X.run ?_
  refine X.pcall ((of_ok sScheme sHttps)) X.c rfl rfl rfl ?_
  refine X.run ?_
  refine X.pcall ((of_ok sAuth a)) X.c rfl rfl rfl ?_
  refine X.run ?_
  refine X.pcall ((of_ok sPath p)) X.c rfl rfl rfl ?_
  refine X.run ?_
  refine X.pcall (hw) X.c rfl rfl rfl ?_
  refine X.run ?_
  refine X.pcall q1 (clo_own (four a p ++ more) (hget_new _ _) (Nat.zero_le _) ?_ ?_ ?_) rfl rfl rfl ?_
  · rw [← fds_append]; rfl
  · simp; omega
  · rw [List.length_append]; show 4 + more.length ≤ _; omega
  refine X.run ?_
  refine X.apo (rows := []) (new := fds (turned a p k)) rfl rfl (Ow.mk0 ?_) (own_els (rows := ?rw) (turned a p k) ?hg ?hr ?hl) ?_ (fun _ => rfl) ?_ ?_
  case hg => simp only [hget_new, hget_other, hgs]; rfl
  case hr =>
    have : k = 0 ∨ k = 1 ∨ k = 2 ∨ k = 3 := by omega
    rcases this with rfl | rfl | rfl | rfl <;> rfl
  case hl => simp
  · exact Nat.zero_le _
  · intro e; have := congrArg List.length e; rw [fds_length, turned_length a p k (by omega)] at this; cases this
  · rw [fds_length, turned_length a p k (by omega)]; decide
  have htl : (fds (turned a p k)).length = 4 := by rw [fds_length, turned_length a p k (by omega)]
  simp only [oah, kil, List.nil_append, List.length_nil, Nat.zero_add]
  refine X.run ?_
  refine X.pcall q2 (clo_own (turned a p k ++ more) (hget_new _ _) (Nat.zero_le _) ?_ ?_ ?_) rfl rfl rfl ?_
  · rw [← fds_append]
  · rw [List.length_append]
  · rw [List.length_append, turned_length a p k (by omega)]; omega
  refine X.run ?_
  refine X.pcall ((of_ok [120] [121])) X.c rfl rfl rfl ?_
  refine X.run ?_
  refine X.pcall q3 (clo_own (([120], [121]) :: (four a p ++ more)) (hget_new _ _) (Nat.zero_le _) ?_ ?_ ?_) rfl rfl rfl ?_
  · show _ = fd ([120], [121]) :: fds (four a p ++ more)
    rw [← fds_append]; rfl
  · simp; omega
  · rw [List.length_cons, List.length_append]; show 4 + more.length + 1 ≤ _; omega
  refine X.run ?_
  cases hz : (reqF (four a p ++ more)).isSome
  all_goals
    refine X.pcall q4 (.gs q5 (.gs q5 (.nil _))) rfl rfl rfl ?_
    refine X.run ?_
    refine X.pcall (mruns_ok) X.c rfl rfl rfl ?_
    refine X.run ?_
    exact X.fin (fun _ => rfl) rfl rfl
end Go.Proofs.Ytcbiplmgaiipgaa
