import Derived.Test.YtcbiplmgaiipgaaEvE
import Derived.Test.YtcbiplmgaiipgaaOneM
import Derived.Test.YtcbiplmgaiipgaaFlds
import Derived.Test.YtcbiplmgaiipgaaEvE
set_option linter.unusedVariables false
set_option linter.unusedSimpArgs false
-- MessageOne: the walk
namespace Go.Proofs.Ytcbiplmgaiipgaa
open Go hiding Fn
open Ev tab
attribute [local irreducible] EvD EvL EvC evGds evLs C.run sK bK gK pK fK lpB stepD

theorem rowQ_open' (q : Option (Hd × List Fld × Int)) : ∃ m s a p fs n, rowQ q = [.st m, .st s, .st a, .st p, .vs 2 (fds fs), .it .i64 n] := by
  cases q with
  | none => exact ⟨[], [], [], [], [], 0, rfl⟩
  | some q => obtain ⟨h, fs, n⟩ := q; exact ⟨h.m, h.s, h.a, h.p, fs, n, rfl⟩
theorem rowS_open (q : Option (Int × List Fld × Int)) : ∃ k fs n, rowS q = [.it .i64 k, .vs 2 (fds fs), .it .i64 n] := by
  cases q with
  | none => exact ⟨0, [], 0, rfl⟩
  | some q => obtain ⟨k, fs, n⟩ := q; exact ⟨k, fs, n, rfl⟩
theorem clo_own' {hp : Hp} {id len : Nat} {fr : Bool} {rows : List (List V)} (L : List Fld) (hg : hget hp id = some ⟨2, fr, rows⟩) (hl : hp.lim ≤ id) (hr : rows = fds L) (hlen : len = rows.length) (hn : L.length ≤ 10000000) :
    ClP [.c (.sl [.one, .one])] [.hs id 0 len] hp [.vs 2 (fds L)] (hset hp id (some ⟨2, true, fds L⟩)) := by
  subst hr hlen
  have e : ((fds L).drop 0).take (fds L).length = fds L := by rw [List.drop_zero, List.take_length]
  have := closeC_hs (n := depth) (ts := [.one, .one]) (i := 0) (len := (fds L).length) hg hl rfl (by omega) (by rw [e]; exact fds_clo L) (by rw [fds_length]; simp [depth]; omega)
  rw [e] at this
  exact .c this (.nil _)
theorem great_take {s : List Nat} {i : Nat} (h : i < s.length) : greatB (s.take (i + 1)) = (greatB (s.take i) || (decide (65 ≤ s.getD i 0) && decide (s.getD i 0 ≤ 90))) := by
  rw [take_getD h 0]
  simp only [greatB, List.any_append, List.any_cons, List.any_nil, Bool.or_false, greatC]
def L5 : C := d5.body.lps.getD 0 .skip
/-- is there a great letter? -/
theorem one_loop (l : List Fld) (n : Int) (name : List Nat) (hn : name.length ≤ 100) : ∀ (tm : Tm) (lo : Lo) (hp : Hp), [0, 1, 2, 11, 12].map (fun s => (s, tm s)) = [(0, .vs 2 (fds l)), (1, .it .i64 n), (2, .st name), (11, .bo false), (12, .it .i64 (Int.ofNat 0))] →
    ∃ r, EvL F [0, 1, 2, 11, 12] [7, 9, 14, 16, 18] (lpB L5) ⟨tm, lo, hp⟩ r ∧ XtQ 0 [(0, .vs 2 (fds l)), (1, .it .i64 n), (2, .st name), (11, .bo (greatB name))] (fun _ hp' => hp' = hp) r := by
  intro tm lo hp hk
  refine EvL.invQ (S := Nat × Bool) (fun s => [(0, .vs 2 (fds l)), (1, .it .i64 n), (2, .st name), (11, .bo s.2), (12, .it .i64 (Int.ofNat s.1))]) (fun s _ hp' => hp' = hp ∧ s.1 ≤ name.length ∧ s.2 = greatB (name.take s.1)) (fun s => name.length - s.1) _ ?_ (0, false) tm lo hp ⟨rfl, Nat.zero_le _, rfl⟩ hk
  intro ⟨i, b⟩ lo hp' ⟨h1, h2, h3⟩
  simp only at h2 h3
  subst h1
  have hg : i < name.length → _ := fun h => great_take (s := name) (i := i) h
  rw [← h3] at hg
  cases b
  all_goals
    repeat' (first | refine EvQ.run ?_ | (refine EvQ.pickB rfl rfl rfl ?_) | (refine EvQ.cond rfl (fun h => ?_) (fun h => ?_) <;> ((first | replace h := X.nm h | skip); try have hne := ne_len h)) | (refine EvQ.g1 rfl (fun h => ?_) (fun h => ?_) <;> ((first | replace h := X.nm h | skip); try have hne := ne_len h)) | (refine EvQ.pick rfl (fun _ => rfl) (fun _ => rfl) (fun h => ?_) (fun h => ?_) <;> ((first | replace h := X.nm h | skip); try have hne := ne_len h)) | refine EvQ.fin X.rs ?_ | refine EvQ.fin1 (fun _ => rfl) rfl ?_)
  all_goals first
    | (refine EvQ.go (i + 1, _) X.kv ⟨rfl, by show i + 1 ≤ _; omega, ?_⟩ (by show name.length - (i + 1) < name.length - i; omega)
       show _ = greatB (name.take (i + 1))
       rw [hg (by assumption)]
       clear hg h3
       first
         | rfl
         | (show (!ilt (Int.ofNat 90) (Int.ofNat (name.getD i 0))) = (_ || decide (65 ≤ name.getD i 0) && decide (name.getD i 0 ≤ 90))
            generalize name.getD i 0 = c at *
            rw [ilt_eq, Bool.eq_iff_iff]; simp; omega)
         | (generalize name.getD i 0 = c at *
            rw [Bool.eq_iff_iff]; simp; omega))
    | (refine EvQ.xt (XtQ.mk' (kvc rfl (kvc rfl (kvc rfl (kvc (congrArg V.bo ?_) rfl)))) rfl)
       rw [List.take_of_length_le (by omega)] at h3
       exact h3)
    | trace_state
theorem pin (l : List Fld) (k : Nat) (f : Fld) : [] ++ fds (l.take k) ++ [fd f] ++ fds (l.drop k) = fds (putIn l k f) := by
  unfold putIn
  rw [List.nil_append, ← fds_append, ← fds_append]; rfl
theorem putIn_fok {l : List Fld} (h : FOK l) (h3 : l.length ≤ 3000) (k : Nat) {f : Fld} (h1 : Txt f.1 ∧ Txt f.2) (h2 : f.1.length ≤ 100 ∧ f.2.length ≤ 100) : FOK (putIn l k f) := by
  refine ⟨?_, fun g hg => ?_⟩
  · simp only [putIn, List.length_append, List.length_take, List.length_drop, List.length_cons, List.length_nil]; omega
  · simp only [putIn, List.mem_append, List.mem_singleton] at hg
    rcases hg with (hg | hg) | hg
    · exact h.2 g (List.mem_of_mem_take hg)
    · subst hg; exact ⟨h1.1, h1.2, by omega, by omega⟩
    · exact h.2 g (List.mem_of_mem_drop hg)
theorem badF_fok {name : List Nat} (ht : Txt name) (hn : name.length ≤ 100) : (Txt (badF name).1 ∧ Txt (badF name).2) ∧ (badF name).1.length ≤ 100 ∧ (badF name).2.length ≤ 100 := by
  unfold badF
  refine ⟨⟨?_, by simp [Txt]⟩, ?_, by simp⟩
  · split
    · exact ht
    · simp [Txt, sConn]
  · split
    · exact hn
    · simp [sConn]
set_option maxHeartbeats 16000000 in
theorem one_go (l : List Fld) (n : Int) (name : List Nat) (hm : ∀ f, f ∈ l → Txt f.1 ∧ Txt f.2) (hq : ∀ f, f ∈ l → f.1.length ≤ 10000000 ∧ f.2.length ≤ 10000000) (hn : l.length ≤ 10000000) (hl : lightB l = true) (hnm : name.length ≤ 100) (ht : Txt name) :
    ∃ h, EvD F (stepD d5 [.vs 2 (fds l), .it .i64 n, .st name] h0) (Rt (.bo true) h) := by
  have h1 := mlight_ok l hn hq
  rw [hl] at h1
  have hlen := fds_length l
  obtain ⟨f1, f2, f3⟩ := light_fok hm hl
  have q1 := request_ok l f1
  obtain ⟨m1, s1, a1, p1, g1, n1, e1⟩ := rowQ_open' (reqF l)
  rw [e1] at q1
  have q2 := response_ok l f1
  obtain ⟨k2, g2, n2, e2⟩ := rowS_open (resF l)
  rw [e2] at q2
  have nb := not_both l
  obtain ⟨k, k1, k2', hw⟩ := within_p n 0 l.length (by omega) (by omega) (by omega)
  obtain ⟨k, rfl⟩ := Int.eq_ofNat_of_zero_le k1
  have hw : EvP F 26 c26 [.it .i64 n, .it .i64 0, .it .i64 (Int.ofNat l.length)] [.it .i64 (Int.ofNat k)] := hw
  have hk : k ≤ l.length := by omega
  refine EvQ.law ?_
  repeat' (first | refine EvQ.run ?_ | refine EvQ.lift (fun _ zn => X.pcall (h1) X.cq rfl X.al rfl zn) ?_ | refine EvQ.lift (fun _ zn => X.pcallG (h1) rfl X.cq rfl X.al rfl zn) ?_ | refine EvQ.lift (fun _ zn => X.pcallT (h1) (by decide) X.cq rfl X.al rfl zn) ?_ | refine EvQ.lift (fun _ zn => X.pcall (q1) X.cq rfl X.al rfl zn) ?_ | refine EvQ.lift (fun _ zn => X.pcallG (q1) rfl X.cq rfl X.al rfl zn) ?_ | refine EvQ.lift (fun _ zn => X.pcallT (q1) (by decide) X.cq rfl X.al rfl zn) ?_ | refine EvQ.lift (fun _ zn => X.pcall (q2) X.cq rfl X.al rfl zn) ?_ | refine EvQ.lift (fun _ zn => X.pcallG (q2) rfl X.cq rfl X.al rfl zn) ?_ | refine EvQ.lift (fun _ zn => X.pcallT (q2) (by decide) X.cq rfl X.al rfl zn) ?_ | (refine EvQ.pickB rfl rfl rfl ?_) | (refine EvQ.cond rfl (fun h => ?_) (fun h => ?_) <;> ((first | replace h := X.nm h | skip); try have hne := ne_len h)) | (refine EvQ.g1 rfl (fun h => ?_) (fun h => ?_) <;> ((first | replace h := X.nm h | skip); try have hne := ne_len h)) | (refine EvQ.pick rfl (fun _ => rfl) (fun _ => rfl) (fun h => ?_) (fun h => ?_) <;> ((first | replace h := X.nm h | skip); try have hne := ne_len h)) | refine EvQ.fin X.rs ?_ | refine EvQ.fin1 (fun _ => rfl) rfl ?_)
  · have a : (reqF l).isSome = true := by assumption
    have b : (resF l).isSome = true := by assumption
    rw [a, b] at nb; cases nb
  all_goals
    refine EvQ.loop (one_loop l n name hnm _ _ _ X.kv) ?_
    rintro _ ⟨tm, lo, hp, rfl, rfl⟩
    repeat' (first | refine EvQ.run ?_ | refine EvQ.lift (fun _ zn => X.pcall (of_ok sConn [120]) X.cq rfl X.al rfl zn) ?_ | refine EvQ.lift (fun _ zn => X.pcallG (of_ok sConn [120]) rfl X.cq rfl X.al rfl zn) ?_ | refine EvQ.lift (fun _ zn => X.pcallT (of_ok sConn [120]) (by decide) X.cq rfl X.al rfl zn) ?_ | refine EvQ.lift (fun _ zn => X.pcall (hw) X.cq rfl X.al rfl zn) ?_ | refine EvQ.lift (fun _ zn => X.pcallG (hw) rfl X.cq rfl X.al rfl zn) ?_ | refine EvQ.lift (fun _ zn => X.pcallT (hw) (by decide) X.cq rfl X.al rfl zn) ?_ | (refine EvQ.pickB rfl rfl rfl ?_) | (refine EvQ.cond rfl (fun h => ?_) (fun h => ?_) <;> ((first | replace h := X.nm h | skip); try have hne := ne_len h)) | (refine EvQ.g1 rfl (fun h => ?_) (fun h => ?_) <;> ((first | replace h := X.nm h | skip); try have hne := ne_len h)) | (refine EvQ.pick rfl (fun _ => rfl) (fun _ => rfl) (fun h => ?_) (fun h => ?_) <;> ((first | replace h := X.nm h | skip); try have hne := ne_len h)) | refine EvQ.fin X.rs ?_ | refine EvQ.fin1 (fun _ => rfl) rfl ?_)
  · have hb : badF name = (name, [120]) := by unfold badF; rw [if_pos (by assumption)]
    obtain ⟨b1, b2⟩ := badF_fok ht hnm
    have hF := putIn_fok f1 f2 k b1 b2
    have hp := pin l k (badF name)
    obtain ⟨z1, z2⟩ := one_none l k name
    have r1 := request_ok _ hF
    rw [z1] at r1
    have r2 := response_ok _ hF
    rw [z2] at r2
    rw [hb] at hp
    have hln : 0 + (fds (l.take k)).length + 1 + (fds (l.drop k)).length = (fds (putIn l k (badF name))).length := by rw [hb, ← hp]; simp; omega
    rw [← hb] at hp
    refine EvQ.lift (fun _ zn => X.pcall r1 (clo_own' (putIn l k (badF name)) X.hq X.hl ((congrArg (fun z => [] ++ fds (l.take k) ++ [fd z] ++ fds (l.drop k)) hb).symm.trans hp) (hln.trans (congrArg List.length (hp.symm.trans (congrArg (fun z => [] ++ fds (l.take k) ++ [fd z] ++ fds (l.drop k)) hb)))) hF.1) rfl X.al rfl zn) ?_
    repeat' (first | refine EvQ.run ?_ | (refine EvQ.pickB rfl rfl rfl ?_) | (refine EvQ.cond rfl (fun h => ?_) (fun h => ?_) <;> ((first | replace h := X.nm h | skip); try have hne := ne_len h)) | (refine EvQ.g1 rfl (fun h => ?_) (fun h => ?_) <;> ((first | replace h := X.nm h | skip); try have hne := ne_len h)) | (refine EvQ.pick rfl (fun _ => rfl) (fun _ => rfl) (fun h => ?_) (fun h => ?_) <;> ((first | replace h := X.nm h | skip); try have hne := ne_len h)) | refine EvQ.fin X.rs ?_ | refine EvQ.fin1 (fun _ => rfl) rfl ?_)
    refine EvQ.lift (fun _ zn => X.pcall r2 (clo_own' (putIn l k (badF name)) X.hq X.hl rfl hln hF.1) rfl X.al rfl zn) ?_
    repeat' (first | refine EvQ.run ?_ | refine EvQ.lift (fun _ zn => X.pcall (mruns_ok) X.cq rfl X.al rfl zn) ?_ | refine EvQ.lift (fun _ zn => X.pcallG (mruns_ok) rfl X.cq rfl X.al rfl zn) ?_ | refine EvQ.lift (fun _ zn => X.pcallT (mruns_ok) (by decide) X.cq rfl X.al rfl zn) ?_ | (refine EvQ.pickB rfl rfl rfl ?_) | (refine EvQ.cond rfl (fun h => ?_) (fun h => ?_) <;> ((first | replace h := X.nm h | skip); try have hne := ne_len h)) | (refine EvQ.g1 rfl (fun h => ?_) (fun h => ?_) <;> ((first | replace h := X.nm h | skip); try have hne := ne_len h)) | (refine EvQ.pick rfl (fun _ => rfl) (fun _ => rfl) (fun h => ?_) (fun h => ?_) <;> ((first | replace h := X.nm h | skip); try have hne := ne_len h)) | refine EvQ.fin X.rs ?_ | refine EvQ.fin1 (fun _ => rfl) rfl ?_)
    exact ⟨_, rfl⟩
  · have hb : badF name = (sConn, [120]) := by unfold badF; rw [if_neg (by rw [show greatB name = false by assumption]; exact Bool.noConfusion)]
    obtain ⟨b1, b2⟩ := badF_fok ht hnm
    have hF := putIn_fok f1 f2 k b1 b2
    have hp := pin l k (badF name)
    obtain ⟨z1, z2⟩ := one_none l k name
    have r1 := request_ok _ hF
    rw [z1] at r1
    have r2 := response_ok _ hF
    rw [z2] at r2
    rw [hb] at hp
    have hln : 0 + (fds (l.take k)).length + 1 + (fds (l.drop k)).length = (fds (putIn l k (badF name))).length := by rw [hb, ← hp]; simp; omega
    rw [← hb] at hp
    refine EvQ.lift (fun _ zn => X.pcall r1 (clo_own' (putIn l k (badF name)) X.hq X.hl ((congrArg (fun z => [] ++ fds (l.take k) ++ [fd z] ++ fds (l.drop k)) hb).symm.trans hp) (hln.trans (congrArg List.length (hp.symm.trans (congrArg (fun z => [] ++ fds (l.take k) ++ [fd z] ++ fds (l.drop k)) hb)))) hF.1) rfl X.al rfl zn) ?_
    repeat' (first | refine EvQ.run ?_ | (refine EvQ.pickB rfl rfl rfl ?_) | (refine EvQ.cond rfl (fun h => ?_) (fun h => ?_) <;> ((first | replace h := X.nm h | skip); try have hne := ne_len h)) | (refine EvQ.g1 rfl (fun h => ?_) (fun h => ?_) <;> ((first | replace h := X.nm h | skip); try have hne := ne_len h)) | (refine EvQ.pick rfl (fun _ => rfl) (fun _ => rfl) (fun h => ?_) (fun h => ?_) <;> ((first | replace h := X.nm h | skip); try have hne := ne_len h)) | refine EvQ.fin X.rs ?_ | refine EvQ.fin1 (fun _ => rfl) rfl ?_)
    refine EvQ.lift (fun _ zn => X.pcall r2 (clo_own' (putIn l k (badF name)) X.hq X.hl rfl hln hF.1) rfl X.al rfl zn) ?_
    repeat' (first | refine EvQ.run ?_ | refine EvQ.lift (fun _ zn => X.pcall (mruns_ok) X.cq rfl X.al rfl zn) ?_ | refine EvQ.lift (fun _ zn => X.pcallG (mruns_ok) rfl X.cq rfl X.al rfl zn) ?_ | refine EvQ.lift (fun _ zn => X.pcallT (mruns_ok) (by decide) X.cq rfl X.al rfl zn) ?_ | (refine EvQ.pickB rfl rfl rfl ?_) | (refine EvQ.cond rfl (fun h => ?_) (fun h => ?_) <;> ((first | replace h := X.nm h | skip); try have hne := ne_len h)) | (refine EvQ.g1 rfl (fun h => ?_) (fun h => ?_) <;> ((first | replace h := X.nm h | skip); try have hne := ne_len h)) | (refine EvQ.pick rfl (fun _ => rfl) (fun _ => rfl) (fun h => ?_) (fun h => ?_) <;> ((first | replace h := X.nm h | skip); try have hne := ne_len h)) | refine EvQ.fin X.rs ?_ | refine EvQ.fin1 (fun _ => rfl) rfl ?_)
    exact ⟨_, rfl⟩
  · have hb : badF name = (name, [120]) := by unfold badF; rw [if_pos (by assumption)]
    obtain ⟨b1, b2⟩ := badF_fok ht hnm
    have hF := putIn_fok f1 f2 k b1 b2
    have hp := pin l k (badF name)
    obtain ⟨z1, z2⟩ := one_none l k name
    have r1 := request_ok _ hF
    rw [z1] at r1
    have r2 := response_ok _ hF
    rw [z2] at r2
    rw [hb] at hp
    have hln : 0 + (fds (l.take k)).length + 1 + (fds (l.drop k)).length = (fds (putIn l k (badF name))).length := by rw [hb, ← hp]; simp; omega
    rw [← hb] at hp
    refine EvQ.lift (fun _ zn => X.pcall r1 (clo_own' (putIn l k (badF name)) X.hq X.hl ((congrArg (fun z => [] ++ fds (l.take k) ++ [fd z] ++ fds (l.drop k)) hb).symm.trans hp) (hln.trans (congrArg List.length (hp.symm.trans (congrArg (fun z => [] ++ fds (l.take k) ++ [fd z] ++ fds (l.drop k)) hb)))) hF.1) rfl X.al rfl zn) ?_
    repeat' (first | refine EvQ.run ?_ | (refine EvQ.pickB rfl rfl rfl ?_) | (refine EvQ.cond rfl (fun h => ?_) (fun h => ?_) <;> ((first | replace h := X.nm h | skip); try have hne := ne_len h)) | (refine EvQ.g1 rfl (fun h => ?_) (fun h => ?_) <;> ((first | replace h := X.nm h | skip); try have hne := ne_len h)) | (refine EvQ.pick rfl (fun _ => rfl) (fun _ => rfl) (fun h => ?_) (fun h => ?_) <;> ((first | replace h := X.nm h | skip); try have hne := ne_len h)) | refine EvQ.fin X.rs ?_ | refine EvQ.fin1 (fun _ => rfl) rfl ?_)
    refine EvQ.lift (fun _ zn => X.pcall r2 (clo_own' (putIn l k (badF name)) X.hq X.hl rfl hln hF.1) rfl X.al rfl zn) ?_
    repeat' (first | refine EvQ.run ?_ | refine EvQ.lift (fun _ zn => X.pcall (mruns_ok) X.cq rfl X.al rfl zn) ?_ | refine EvQ.lift (fun _ zn => X.pcallG (mruns_ok) rfl X.cq rfl X.al rfl zn) ?_ | refine EvQ.lift (fun _ zn => X.pcallT (mruns_ok) (by decide) X.cq rfl X.al rfl zn) ?_ | (refine EvQ.pickB rfl rfl rfl ?_) | (refine EvQ.cond rfl (fun h => ?_) (fun h => ?_) <;> ((first | replace h := X.nm h | skip); try have hne := ne_len h)) | (refine EvQ.g1 rfl (fun h => ?_) (fun h => ?_) <;> ((first | replace h := X.nm h | skip); try have hne := ne_len h)) | (refine EvQ.pick rfl (fun _ => rfl) (fun _ => rfl) (fun h => ?_) (fun h => ?_) <;> ((first | replace h := X.nm h | skip); try have hne := ne_len h)) | refine EvQ.fin X.rs ?_ | refine EvQ.fin1 (fun _ => rfl) rfl ?_)
    exact ⟨_, rfl⟩
  · have hb : badF name = (sConn, [120]) := by unfold badF; rw [if_neg (by rw [show greatB name = false by assumption]; exact Bool.noConfusion)]
    obtain ⟨b1, b2⟩ := badF_fok ht hnm
    have hF := putIn_fok f1 f2 k b1 b2
    have hp := pin l k (badF name)
    obtain ⟨z1, z2⟩ := one_none l k name
    have r1 := request_ok _ hF
    rw [z1] at r1
    have r2 := response_ok _ hF
    rw [z2] at r2
    rw [hb] at hp
    have hln : 0 + (fds (l.take k)).length + 1 + (fds (l.drop k)).length = (fds (putIn l k (badF name))).length := by rw [hb, ← hp]; simp; omega
    rw [← hb] at hp
    refine EvQ.lift (fun _ zn => X.pcall r1 (clo_own' (putIn l k (badF name)) X.hq X.hl ((congrArg (fun z => [] ++ fds (l.take k) ++ [fd z] ++ fds (l.drop k)) hb).symm.trans hp) (hln.trans (congrArg List.length (hp.symm.trans (congrArg (fun z => [] ++ fds (l.take k) ++ [fd z] ++ fds (l.drop k)) hb)))) hF.1) rfl X.al rfl zn) ?_
    repeat' (first | refine EvQ.run ?_ | (refine EvQ.pickB rfl rfl rfl ?_) | (refine EvQ.cond rfl (fun h => ?_) (fun h => ?_) <;> ((first | replace h := X.nm h | skip); try have hne := ne_len h)) | (refine EvQ.g1 rfl (fun h => ?_) (fun h => ?_) <;> ((first | replace h := X.nm h | skip); try have hne := ne_len h)) | (refine EvQ.pick rfl (fun _ => rfl) (fun _ => rfl) (fun h => ?_) (fun h => ?_) <;> ((first | replace h := X.nm h | skip); try have hne := ne_len h)) | refine EvQ.fin X.rs ?_ | refine EvQ.fin1 (fun _ => rfl) rfl ?_)
    refine EvQ.lift (fun _ zn => X.pcall r2 (clo_own' (putIn l k (badF name)) X.hq X.hl rfl hln hF.1) rfl X.al rfl zn) ?_
    repeat' (first | refine EvQ.run ?_ | refine EvQ.lift (fun _ zn => X.pcall (mruns_ok) X.cq rfl X.al rfl zn) ?_ | refine EvQ.lift (fun _ zn => X.pcallG (mruns_ok) rfl X.cq rfl X.al rfl zn) ?_ | refine EvQ.lift (fun _ zn => X.pcallT (mruns_ok) (by decide) X.cq rfl X.al rfl zn) ?_ | (refine EvQ.pickB rfl rfl rfl ?_) | (refine EvQ.cond rfl (fun h => ?_) (fun h => ?_) <;> ((first | replace h := X.nm h | skip); try have hne := ne_len h)) | (refine EvQ.g1 rfl (fun h => ?_) (fun h => ?_) <;> ((first | replace h := X.nm h | skip); try have hne := ne_len h)) | (refine EvQ.pick rfl (fun _ => rfl) (fun _ => rfl) (fun h => ?_) (fun h => ?_) <;> ((first | replace h := X.nm h | skip); try have hne := ne_len h)) | refine EvQ.fin X.rs ?_ | refine EvQ.fin1 (fun _ => rfl) rfl ?_)
    exact ⟨_, rfl⟩
set_option maxHeartbeats 8000000 in
theorem one_run (l : List Fld) (n : Int) (name : List Nat) (hm : ∀ f, f ∈ l → Txt f.1 ∧ Txt f.2) (hq : ∀ f, f ∈ l → f.1.length ≤ 10000000 ∧ f.2.length ≤ 10000000) (hn : l.length ≤ 10000000) (hnm : name.length ≤ 10000000) (ht : Txt name) :
    ∃ h, EvD F (stepD d5 [.vs 2 (fds l), .it .i64 n, .st name] h0) (Rt (.bo true) h) := by
  cases hl : lightB l with
  | false =>
    have h1 := mlight_ok l hn hq
    rw [hl] at h1
    refine EvQ.law ?_
    repeat' (first | refine EvQ.run ?_ | refine EvQ.lift (fun _ zn => X.pcall (h1) X.cq rfl X.al rfl zn) ?_ | refine EvQ.lift (fun _ zn => X.pcallG (h1) rfl X.cq rfl X.al rfl zn) ?_ | refine EvQ.lift (fun _ zn => X.pcallT (h1) (by decide) X.cq rfl X.al rfl zn) ?_ | refine EvQ.lift (fun _ zn => X.pcall (mruns_ok) X.cq rfl X.al rfl zn) ?_ | refine EvQ.lift (fun _ zn => X.pcallG (mruns_ok) rfl X.cq rfl X.al rfl zn) ?_ | refine EvQ.lift (fun _ zn => X.pcallT (mruns_ok) (by decide) X.cq rfl X.al rfl zn) ?_ | (refine EvQ.pickB rfl rfl rfl ?_) | (refine EvQ.cond rfl (fun h => ?_) (fun h => ?_) <;> ((first | replace h := X.nm h | skip); try have hne := ne_len h)) | (refine EvQ.g1 rfl (fun h => ?_) (fun h => ?_) <;> ((first | replace h := X.nm h | skip); try have hne := ne_len h)) | (refine EvQ.pick rfl (fun _ => rfl) (fun _ => rfl) (fun h => ?_) (fun h => ?_) <;> ((first | replace h := X.nm h | skip); try have hne := ne_len h)) | refine EvQ.fin X.rs ?_ | refine EvQ.fin1 (fun _ => rfl) rfl ?_)
    exact ⟨_, rfl⟩
  | true =>
    by_cases h100 : name.length ≤ 100
    · exact one_go l n name hm hq hn hl h100 ht
    · have h1 := mlight_ok l hn hq
      rw [hl] at h1
      refine EvQ.law ?_
      repeat' (first | refine EvQ.run ?_ | refine EvQ.lift (fun _ zn => X.pcall (h1) X.cq rfl X.al rfl zn) ?_ | refine EvQ.lift (fun _ zn => X.pcallG (h1) rfl X.cq rfl X.al rfl zn) ?_ | refine EvQ.lift (fun _ zn => X.pcallT (h1) (by decide) X.cq rfl X.al rfl zn) ?_ | refine EvQ.lift (fun _ zn => X.pcall (mruns_ok) X.cq rfl X.al rfl zn) ?_ | refine EvQ.lift (fun _ zn => X.pcallG (mruns_ok) rfl X.cq rfl X.al rfl zn) ?_ | refine EvQ.lift (fun _ zn => X.pcallT (mruns_ok) (by decide) X.cq rfl X.al rfl zn) ?_ | (refine EvQ.pickB rfl rfl rfl ?_) | (refine EvQ.cond rfl (fun h => ?_) (fun h => ?_) <;> ((first | replace h := X.nm h | skip); try have hne := ne_len h)) | (refine EvQ.g1 rfl (fun h => ?_) (fun h => ?_) <;> ((first | replace h := X.nm h | skip); try have hne := ne_len h)) | (refine EvQ.pick rfl (fun _ => rfl) (fun _ => rfl) (fun h => ?_) (fun h => ?_) <;> ((first | replace h := X.nm h | skip); try have hne := ne_len h)) | refine EvQ.fin X.rs ?_ | refine EvQ.fin1 (fun _ => rfl) rfl ?_)
      exact ⟨_, rfl⟩
theorem one_law (xs : List V) (h : ShP [(false, [.sl [.st, .st]]), (false, [.it .i64]), (false, [.st])] xs) (hb : sizP xs ≤ 1048576) : ∃ L k hp', runF (callF F L k) L c5 xs h0 = .ret (.bo true) hp' := by
  obtain ⟨v, r, rfl, h1, h, e1⟩ := h.one'
  obtain ⟨w, r, rfl, h2, h, e2⟩ := h.one'
  obtain ⟨x, r, rfl, h3, h, e3⟩ := h.one'
  cases h.nil'
  obtain ⟨es, rfl, he, ze⟩ := slice_of h1
  obtain ⟨l, rfl, tm, lm, lq⟩ := fields_of he
  obtain ⟨n, rfl, _⟩ := int_of h2
  obtain ⟨a, rfl, ta, la⟩ := text_of h3
  refine law_of d5 rfl (one_run l n a tm ?_ ?_ ?_ ta)
  · intro f hf; have := lq f hf; omega
  · omega
  · omega
end Go.Proofs.Ytcbiplmgaiipgaa
