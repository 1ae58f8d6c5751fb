import Derived.Test.YtcbiplmgaiipgaaEvE
import Derived.Test.YtcbiplmgaiipgaaBackW
set_option linter.unusedVariables false
set_option linter.unusedSimpArgs false
set_option linter.unusedSectionVars false
-- MessageBack: the walk (EvHp EvOwn)
namespace Go.Proofs.Ytcbiplmgaiipgaa
open Go hiding Fn
open Ev tab
attribute [local irreducible] EvP EvD EvL EvC evGds evLs C.run sK bK gK pK fK lpB stepD lightB plainF reqF resF
theorem dg_fin : ∀ m : Fin 600, 100 ≤ m.val → [(wr .u8 (wr .i64 (Int.ofNat 48 + wr .i64 ((m.val : Int).tdiv (Int.ofNat 100))))).toNat % 256, (wr .u8 (wr .i64 (Int.ofNat 48 + (wr .i64 ((m.val : Int).tdiv (Int.ofNat 10))).tmod (Int.ofNat 10)))).toNat % 256, (wr .u8 (wr .i64 (Int.ofNat 48 + (m.val : Int).tmod (Int.ofNat 10)))).toNat % 256] = dg (m.val : Int) := by decide +kernel
theorem dg_go {k : Int} (h1 : 100 ≤ k) (h2 : k ≤ 599) : [(wr .u8 (wr .i64 (Int.ofNat 48 + wr .i64 (k.tdiv (Int.ofNat 100))))).toNat % 256, (wr .u8 (wr .i64 (Int.ofNat 48 + (wr .i64 (k.tdiv (Int.ofNat 10))).tmod (Int.ofNat 10)))).toNat % 256, (wr .u8 (wr .i64 (Int.ofNat 48 + k.tmod (Int.ofNat 10)))).toNat % 256] = dg k := by
  obtain ⟨m, rfl⟩ : ∃ m : Nat, k = (m : Int) := ⟨k.toNat, by omega⟩
  exact dg_fin ⟨m, by omega⟩ (by show 100 ≤ m; omega)
set_option maxHeartbeats 32000000 in
theorem back_run (l : List Fld) (ht : ∀ f, f ∈ l → Txt f.1 ∧ Txt f.2) (hq : ∀ f, f ∈ l → f.1.length ≤ 10000000 ∧ f.2.length ≤ 10000000) (hn : l.length ≤ 10000000) : ∃ h, EvD F (stepD d4 [.vs 2 (fds l)] h0) (Rt (.bo true) h) := by
  have h1 := mlight_ok l hn hq
  have hlen := fds_length l
  refine EvQ.law ?_
  cases hb : lightB l with
  | false =>
    rw [hb] at h1
    repeat' (first | refine EvQ.run ?_ | refine EvQ.lift (fun _ zn => X.pcall (h1) X.cq rfl X.al rfl zn) ?_ | refine EvQ.lift (fun _ zn => X.pcallG (h1) rfl X.cq rfl X.al rfl zn) ?_ | refine EvQ.lift (fun _ zn => X.pcallC (h1) rfl X.cq rfl X.al rfl zn) ?_ | refine EvQ.lift (fun _ zn => X.pcallT (h1) (by decide) X.cq rfl X.al rfl zn) ?_ | refine EvQ.lift (fun _ zn => X.call rfl X.al (h1) zn) ?_ | refine EvQ.lift (fun _ zn => X.pcall (mruns_ok) X.cq rfl X.al rfl zn) ?_ | refine EvQ.lift (fun _ zn => X.pcallG (mruns_ok) rfl X.cq rfl X.al rfl zn) ?_ | refine EvQ.lift (fun _ zn => X.pcallC (mruns_ok) rfl X.cq rfl X.al rfl zn) ?_ | refine EvQ.lift (fun _ zn => X.pcallT (mruns_ok) (by decide) X.cq rfl X.al rfl zn) ?_ | refine EvQ.lift (fun _ zn => X.call rfl X.al (mruns_ok) zn) ?_ | (refine EvQ.pickB rfl rfl rfl ?_) | (refine EvQ.cond rfl (fun h => ?_) (fun h => ?_) <;> ((first | replace h := X.nm h | skip); try have hne := ne_len h)) | (refine EvQ.g1 rfl (fun h => ?_) (fun h => ?_) <;> ((first | replace h := X.nm h | skip); try have hne := ne_len h)) | (refine EvQ.pick rfl (fun _ => rfl) (fun _ => rfl) (fun h => ?_) (fun h => ?_) <;> ((first | replace h := X.nm h | skip); try have hne := ne_len h)) | refine EvQ.fin X.rs ?_ | refine EvQ.fin1 (fun _ => rfl) rfl ?_)
    exact ⟨_, rfl⟩
  | true =>
    rw [hb] at h1
    obtain ⟨f1, f2, f3⟩ := light_fok ht hb
    have rq := request_ok l f1
    have rs := response_ok l f1
    cases hR : reqF l with
    | none =>
      rw [hR] at rq
      refine EvQ.run ?_
      first | refine EvQ.lift (fun _ zn => X.pcall (h1) X.cq rfl X.al rfl zn) ?_ | refine EvQ.lift (fun _ zn => X.pcallG (h1) rfl X.cq rfl X.al rfl zn) ?_ | refine EvQ.lift (fun _ zn => X.pcallC (h1) rfl X.cq rfl X.al rfl zn) ?_ | refine EvQ.lift (fun _ zn => X.pcallT (h1) (by decide) X.cq rfl X.al rfl zn) ?_ | refine EvQ.lift (fun _ zn => X.call rfl X.al (h1) zn) ?_
      try refine EvQ.run ?_
      first | refine EvQ.lift (fun _ zn => X.pcall (rq) X.cq rfl X.al rfl zn) ?_ | refine EvQ.lift (fun _ zn => X.pcallG (rq) rfl X.cq rfl X.al rfl zn) ?_ | refine EvQ.lift (fun _ zn => X.pcallC (rq) rfl X.cq rfl X.al rfl zn) ?_ | refine EvQ.lift (fun _ zn => X.pcallT (rq) (by decide) X.cq rfl X.al rfl zn) ?_ | refine EvQ.lift (fun _ zn => X.call rfl X.al (rq) zn) ?_
      try refine EvQ.run ?_
      cases hS : resF l with
      | none =>
        rw [hS] at rs
        have rs : EvP F 22 c22 [.vs 2 (fds l)] [.ag [.it .i64 0, .vs 2 [], .it .i64 0], .bo false] := rs
        repeat' (first | refine EvQ.run ?_ | refine EvQ.lift (fun _ zn => X.pcall (rs) X.cq rfl X.al rfl zn) ?_ | refine EvQ.lift (fun _ zn => X.pcallG (rs) rfl X.cq rfl X.al rfl zn) ?_ | refine EvQ.lift (fun _ zn => X.pcallC (rs) rfl X.cq rfl X.al rfl zn) ?_ | refine EvQ.lift (fun _ zn => X.pcallT (rs) (by decide) X.cq rfl X.al rfl zn) ?_ | refine EvQ.lift (fun _ zn => X.call rfl X.al (rs) zn) ?_ | refine EvQ.lift (fun _ zn => X.pcall (mruns_ok) X.cq rfl X.al rfl zn) ?_ | refine EvQ.lift (fun _ zn => X.pcallG (mruns_ok) rfl X.cq rfl X.al rfl zn) ?_ | refine EvQ.lift (fun _ zn => X.pcallC (mruns_ok) rfl X.cq rfl X.al rfl zn) ?_ | refine EvQ.lift (fun _ zn => X.pcallT (mruns_ok) (by decide) X.cq rfl X.al rfl zn) ?_ | refine EvQ.lift (fun _ zn => X.call rfl X.al (mruns_ok) zn) ?_ | (refine EvQ.pickB rfl rfl rfl ?_) | (refine EvQ.cond rfl (fun h => ?_) (fun h => ?_) <;> ((first | replace h := X.nm h | skip); try have hne := ne_len h)) | (refine EvQ.g1 rfl (fun h => ?_) (fun h => ?_) <;> ((first | replace h := X.nm h | skip); try have hne := ne_len h)) | (refine EvQ.pick rfl (fun _ => rfl) (fun _ => rfl) (fun h => ?_) (fun h => ?_) <;> ((first | replace h := X.nm h | skip); try have hne := ne_len h)) | refine EvQ.fin X.rs ?_ | refine EvQ.fin1 (fun _ => rfl) rfl ?_)
        exact ⟨_, rfl⟩
      | some q =>
        obtain ⟨k, fs2, n2⟩ := q
        obtain ⟨l2, fokr⟩ := res_fok ht ⟨f2, f3⟩ hS
        obtain ⟨k1, k2, -⟩ := resF_some hS
        have rt := response_ok _ fokr
        rw [back_res hS] at rt
        have rt : EvP F 22 c22 [.vs 2 (fds ((sStatus, dg k) :: fs2))] [.ag [.it .i64 k, .vs 2 (fds fs2), .it .i64 n2], .bo true] := rt
        rw [hS] at rs
        have rs : EvP F 22 c22 [.vs 2 (fds l)] [.ag [.it .i64 k, .vs 2 (fds fs2), .it .i64 n2], .bo true] := rs
        have sr := responses_ok k n2 fs2 (by omega)
        have o5 := of_ok [58, 115, 116, 97, 116, 117, 115] (dg k)
        have hfl2 := fds_length fs2
        have cr : CloL [.one, .sl [.one, .one], .one] [.it .i64 k, .vs 2 (fds fs2), .it .i64 n2] := rowS_clo (k, fs2, n2)
        clear hS hR h1 rq
        first | refine EvQ.lift (fun _ zn => X.pcall (rs) X.cq rfl X.al rfl zn) ?_ | refine EvQ.lift (fun _ zn => X.pcallG (rs) rfl X.cq rfl X.al rfl zn) ?_ | refine EvQ.lift (fun _ zn => X.pcallC (rs) rfl X.cq rfl X.al rfl zn) ?_ | refine EvQ.lift (fun _ zn => X.pcallT (rs) (by decide) X.cq rfl X.al rfl zn) ?_ | refine EvQ.lift (fun _ zn => X.call rfl X.al (rs) zn) ?_
        try refine EvQ.run ?_
        rw [dg_go k1 k2]
        first | refine EvQ.lift (fun _ zn => X.pcall (o5) X.cq rfl X.al rfl zn) ?_ | refine EvQ.lift (fun _ zn => X.pcallG (o5) rfl X.cq rfl X.al rfl zn) ?_ | refine EvQ.lift (fun _ zn => X.pcallC (o5) rfl X.cq rfl X.al rfl zn) ?_ | refine EvQ.lift (fun _ zn => X.pcallT (o5) (by decide) X.cq rfl X.al rfl zn) ?_ | refine EvQ.lift (fun _ zn => X.call rfl X.al (o5) zn) ?_
        try refine EvQ.run ?_
        refine EvQ.lift (fun _ zn => X.pcall rt (clo_own' ((sStatus, dg k) :: fs2) X.hq X.hl rfl (by simp only [fds_length, List.length_append, List.length_set, List.length_cons, List.length_nil] <;> omega) fokr.1) rfl X.al rfl zn) ?_
        refine EvQ.run ?_
        first | refine EvQ.lift (fun _ zn => X.pcall (sr) X.cq rfl X.al rfl zn) ?_ | refine EvQ.lift (fun _ zn => X.pcallG (sr) rfl X.cq rfl X.al rfl zn) ?_ | refine EvQ.lift (fun _ zn => X.pcallC (sr) rfl X.cq rfl X.al rfl zn) ?_ | refine EvQ.lift (fun _ zn => X.pcallT (sr) (by decide) X.cq rfl X.al rfl zn) ?_ | refine EvQ.lift (fun _ zn => X.call rfl X.al (sr) zn) ?_
        try refine EvQ.run ?_
        first | refine EvQ.lift (fun _ zn => X.pcall (mruns_ok) X.cq rfl X.al rfl zn) ?_ | refine EvQ.lift (fun _ zn => X.pcallG (mruns_ok) rfl X.cq rfl X.al rfl zn) ?_ | refine EvQ.lift (fun _ zn => X.pcallC (mruns_ok) rfl X.cq rfl X.al rfl zn) ?_ | refine EvQ.lift (fun _ zn => X.pcallT (mruns_ok) (by decide) X.cq rfl X.al rfl zn) ?_ | refine EvQ.lift (fun _ zn => X.call rfl X.al (mruns_ok) zn) ?_
        try refine EvQ.run ?_
        refine EvQ.fin X.rs ?_
        exact ⟨_, rfl⟩
    | some q =>
      obtain ⟨⟨m, s, a, p⟩, fs, n⟩ := q
      obtain ⟨l1, fok2⟩ := req_fok ht ⟨f2, f3⟩ hR
      have r2 := request_ok _ fok2
      rw [back_req hR] at r2
      have r2 : EvP F 21 c21 [.vs 2 (fds (frB ⟨m, s, a, p⟩ ++ fs))] [.ag [.st m, .st s, .st a, .st p, .vs 2 (fds fs), .it .i64 n], .bo true] := r2
      have sm := requests_ok (some (⟨m, s, a, p⟩, fs, n)) (fun h' fs' n' e => by cases e; omega)
      have sm : EvP F 23 c23 [.ag [.st m, .st s, .st a, .st p, .vs 2 (fds fs), .it .i64 n], .ag [.st m, .st s, .st a, .st p, .vs 2 (fds fs), .it .i64 n]] [.bo true] := sm
      rw [hR] at rq
      have rq : EvP F 21 c21 [.vs 2 (fds l)] [.ag [.st m, .st s, .st a, .st p, .vs 2 (fds fs), .it .i64 n], .bo true] := rq
      have o1 := of_ok [58, 112, 97, 116, 104] p
      have o2 := of_ok [58, 109, 101, 116, 104, 111, 100] m
      have o3 := of_ok [58, 97, 117, 116, 104, 111, 114, 105, 116, 121] a
      have o4 := of_ok [58, 115, 99, 104, 101, 109, 101] s
      have hfl := fds_length fs
      have cq : CloL [.one, .one, .one, .one, .sl [.one, .one], .one] [.st m, .st s, .st a, .st p, .vs 2 (fds fs), .it .i64 n] := rowQ_clo (⟨m, s, a, p⟩, fs, n)
      refine EvQ.run ?_
      first | refine EvQ.lift (fun _ zn => X.pcall (h1) X.cq rfl X.al rfl zn) ?_ | refine EvQ.lift (fun _ zn => X.pcallG (h1) rfl X.cq rfl X.al rfl zn) ?_ | refine EvQ.lift (fun _ zn => X.pcallC (h1) rfl X.cq rfl X.al rfl zn) ?_ | refine EvQ.lift (fun _ zn => X.pcallT (h1) (by decide) X.cq rfl X.al rfl zn) ?_ | refine EvQ.lift (fun _ zn => X.call rfl X.al (h1) zn) ?_
      try refine EvQ.run ?_
      first | refine EvQ.lift (fun _ zn => X.pcall (rq) X.cq rfl X.al rfl zn) ?_ | refine EvQ.lift (fun _ zn => X.pcallG (rq) rfl X.cq rfl X.al rfl zn) ?_ | refine EvQ.lift (fun _ zn => X.pcallC (rq) rfl X.cq rfl X.al rfl zn) ?_ | refine EvQ.lift (fun _ zn => X.pcallT (rq) (by decide) X.cq rfl X.al rfl zn) ?_ | refine EvQ.lift (fun _ zn => X.call rfl X.al (rq) zn) ?_
      try refine EvQ.run ?_
      first | refine EvQ.lift (fun _ zn => X.pcall (o1) X.cq rfl X.al rfl zn) ?_ | refine EvQ.lift (fun _ zn => X.pcallG (o1) rfl X.cq rfl X.al rfl zn) ?_ | refine EvQ.lift (fun _ zn => X.pcallC (o1) rfl X.cq rfl X.al rfl zn) ?_ | refine EvQ.lift (fun _ zn => X.pcallT (o1) (by decide) X.cq rfl X.al rfl zn) ?_ | refine EvQ.lift (fun _ zn => X.call rfl X.al (o1) zn) ?_
      try refine EvQ.run ?_
      first | refine EvQ.lift (fun _ zn => X.pcall (o2) X.cq rfl X.al rfl zn) ?_ | refine EvQ.lift (fun _ zn => X.pcallG (o2) rfl X.cq rfl X.al rfl zn) ?_ | refine EvQ.lift (fun _ zn => X.pcallC (o2) rfl X.cq rfl X.al rfl zn) ?_ | refine EvQ.lift (fun _ zn => X.pcallT (o2) (by decide) X.cq rfl X.al rfl zn) ?_ | refine EvQ.lift (fun _ zn => X.call rfl X.al (o2) zn) ?_
      try refine EvQ.run ?_
      first | refine EvQ.lift (fun _ zn => X.pcall (o3) X.cq rfl X.al rfl zn) ?_ | refine EvQ.lift (fun _ zn => X.pcallG (o3) rfl X.cq rfl X.al rfl zn) ?_ | refine EvQ.lift (fun _ zn => X.pcallC (o3) rfl X.cq rfl X.al rfl zn) ?_ | refine EvQ.lift (fun _ zn => X.pcallT (o3) (by decide) X.cq rfl X.al rfl zn) ?_ | refine EvQ.lift (fun _ zn => X.call rfl X.al (o3) zn) ?_
      try refine EvQ.run ?_
      first | refine EvQ.lift (fun _ zn => X.pcall (o4) X.cq rfl X.al rfl zn) ?_ | refine EvQ.lift (fun _ zn => X.pcallG (o4) rfl X.cq rfl X.al rfl zn) ?_ | refine EvQ.lift (fun _ zn => X.pcallC (o4) rfl X.cq rfl X.al rfl zn) ?_ | refine EvQ.lift (fun _ zn => X.pcallT (o4) (by decide) X.cq rfl X.al rfl zn) ?_ | refine EvQ.lift (fun _ zn => X.call rfl X.al (o4) zn) ?_
      try refine EvQ.run ?_
      refine EvQ.lift (fun _ zn => X.pcall r2 (clo_own' (frB ⟨m, s, a, p⟩ ++ fs) X.hq X.hl rfl (by simp only [fds_length, frB, List.length_append, List.length_set, List.length_cons, List.length_nil] <;> omega) fok2.1) rfl X.al rfl zn) ?_
      refine EvQ.run ?_
      first | refine EvQ.lift (fun _ zn => X.pcall (sm) X.cq rfl X.al rfl zn) ?_ | refine EvQ.lift (fun _ zn => X.pcallG (sm) rfl X.cq rfl X.al rfl zn) ?_ | refine EvQ.lift (fun _ zn => X.pcallC (sm) rfl X.cq rfl X.al rfl zn) ?_ | refine EvQ.lift (fun _ zn => X.pcallT (sm) (by decide) X.cq rfl X.al rfl zn) ?_ | refine EvQ.lift (fun _ zn => X.call rfl X.al (sm) zn) ?_
      try refine EvQ.run ?_
      cases hS : resF l with
      | none =>
        rw [hS] at rs
        have rs : EvP F 22 c22 [.vs 2 (fds l)] [.ag [.it .i64 0, .vs 2 [], .it .i64 0], .bo false] := rs
        repeat' (first | refine EvQ.run ?_ | refine EvQ.lift (fun _ zn => X.pcall (rs) X.cq rfl X.al rfl zn) ?_ | refine EvQ.lift (fun _ zn => X.pcallG (rs) rfl X.cq rfl X.al rfl zn) ?_ | refine EvQ.lift (fun _ zn => X.pcallC (rs) rfl X.cq rfl X.al rfl zn) ?_ | refine EvQ.lift (fun _ zn => X.pcallT (rs) (by decide) X.cq rfl X.al rfl zn) ?_ | refine EvQ.lift (fun _ zn => X.call rfl X.al (rs) zn) ?_ | refine EvQ.lift (fun _ zn => X.pcall (mruns_ok) X.cq rfl X.al rfl zn) ?_ | refine EvQ.lift (fun _ zn => X.pcallG (mruns_ok) rfl X.cq rfl X.al rfl zn) ?_ | refine EvQ.lift (fun _ zn => X.pcallC (mruns_ok) rfl X.cq rfl X.al rfl zn) ?_ | refine EvQ.lift (fun _ zn => X.pcallT (mruns_ok) (by decide) X.cq rfl X.al rfl zn) ?_ | refine EvQ.lift (fun _ zn => X.call rfl X.al (mruns_ok) zn) ?_ | (refine EvQ.pickB rfl rfl rfl ?_) | (refine EvQ.cond rfl (fun h => ?_) (fun h => ?_) <;> ((first | replace h := X.nm h | skip); try have hne := ne_len h)) | (refine EvQ.g1 rfl (fun h => ?_) (fun h => ?_) <;> ((first | replace h := X.nm h | skip); try have hne := ne_len h)) | (refine EvQ.pick rfl (fun _ => rfl) (fun _ => rfl) (fun h => ?_) (fun h => ?_) <;> ((first | replace h := X.nm h | skip); try have hne := ne_len h)) | refine EvQ.fin X.rs ?_ | refine EvQ.fin1 (fun _ => rfl) rfl ?_)
        exact ⟨_, rfl⟩
      | some q =>
        obtain ⟨k, fs2, n2⟩ := q
        obtain ⟨l2, fokr⟩ := res_fok ht ⟨f2, f3⟩ hS
        obtain ⟨k1, k2, -⟩ := resF_some hS
        have rt := response_ok _ fokr
        rw [back_res hS] at rt
        have rt : EvP F 22 c22 [.vs 2 (fds ((sStatus, dg k) :: fs2))] [.ag [.it .i64 k, .vs 2 (fds fs2), .it .i64 n2], .bo true] := rt
        rw [hS] at rs
        have rs : EvP F 22 c22 [.vs 2 (fds l)] [.ag [.it .i64 k, .vs 2 (fds fs2), .it .i64 n2], .bo true] := rs
        have sr := responses_ok k n2 fs2 (by omega)
        have o5 := of_ok [58, 115, 116, 97, 116, 117, 115] (dg k)
        have hfl2 := fds_length fs2
        have cr : CloL [.one, .sl [.one, .one], .one] [.it .i64 k, .vs 2 (fds fs2), .it .i64 n2] := rowS_clo (k, fs2, n2)
        clear hS hR h1 rq
        first | refine EvQ.lift (fun _ zn => X.pcall (rs) X.cq rfl X.al rfl zn) ?_ | refine EvQ.lift (fun _ zn => X.pcallG (rs) rfl X.cq rfl X.al rfl zn) ?_ | refine EvQ.lift (fun _ zn => X.pcallC (rs) rfl X.cq rfl X.al rfl zn) ?_ | refine EvQ.lift (fun _ zn => X.pcallT (rs) (by decide) X.cq rfl X.al rfl zn) ?_ | refine EvQ.lift (fun _ zn => X.call rfl X.al (rs) zn) ?_
        try refine EvQ.run ?_
        rw [dg_go k1 k2]
        first | refine EvQ.lift (fun _ zn => X.pcall (o5) X.cq rfl X.al rfl zn) ?_ | refine EvQ.lift (fun _ zn => X.pcallG (o5) rfl X.cq rfl X.al rfl zn) ?_ | refine EvQ.lift (fun _ zn => X.pcallC (o5) rfl X.cq rfl X.al rfl zn) ?_ | refine EvQ.lift (fun _ zn => X.pcallT (o5) (by decide) X.cq rfl X.al rfl zn) ?_ | refine EvQ.lift (fun _ zn => X.call rfl X.al (o5) zn) ?_
        try refine EvQ.run ?_
        refine EvQ.lift (fun _ zn => X.pcall rt (clo_own' ((sStatus, dg k) :: fs2) X.hq X.hl rfl (by simp only [fds_length, List.length_append, List.length_set, List.length_cons, List.length_nil] <;> omega) fokr.1) rfl X.al rfl zn) ?_
        refine EvQ.run ?_
        first | refine EvQ.lift (fun _ zn => X.pcall (sr) X.cq rfl X.al rfl zn) ?_ | refine EvQ.lift (fun _ zn => X.pcallG (sr) rfl X.cq rfl X.al rfl zn) ?_ | refine EvQ.lift (fun _ zn => X.pcallC (sr) rfl X.cq rfl X.al rfl zn) ?_ | refine EvQ.lift (fun _ zn => X.pcallT (sr) (by decide) X.cq rfl X.al rfl zn) ?_ | refine EvQ.lift (fun _ zn => X.call rfl X.al (sr) zn) ?_
        try refine EvQ.run ?_
        first | refine EvQ.lift (fun _ zn => X.pcall (mruns_ok) X.cq rfl X.al rfl zn) ?_ | refine EvQ.lift (fun _ zn => X.pcallG (mruns_ok) rfl X.cq rfl X.al rfl zn) ?_ | refine EvQ.lift (fun _ zn => X.pcallC (mruns_ok) rfl X.cq rfl X.al rfl zn) ?_ | refine EvQ.lift (fun _ zn => X.pcallT (mruns_ok) (by decide) X.cq rfl X.al rfl zn) ?_ | refine EvQ.lift (fun _ zn => X.call rfl X.al (mruns_ok) zn) ?_
        try refine EvQ.run ?_
        refine EvQ.fin X.rs ?_
        exact ⟨_, rfl⟩
end Go.Proofs.Ytcbiplmgaiipgaa
