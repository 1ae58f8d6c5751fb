import Derived.Test.YtpncefcicfhibaaGreatDoorEvE
import Derived.Test.YtpncefcicfhibaaGreatDoorPin5
set_option linter.unusedVariables false
set_option linter.unusedSimpArgs false
-- ConnPings: the loop (EvHp EvOwn)
namespace Go.Proofs.YtpncefcicfhibaaGreatDoor
open Go hiding Fn
open Ev tab
attribute [local irreducible] EvP EvD EvL EvC evGds evLs C.run sK bK gK pK fK lpB stepD
abbrev e8 (n : Int) : List (List V) := [[.it .u8 (wr .u8 n)], [.it .u8 (wr .u8 (n.fdiv (Int.ofNat 256)))], [.it .u8 (wr .u8 (n.fdiv (Int.ofNat 65536)))], [.it .u8 (wr .u8 (n.fdiv (Int.ofNat 16777216)))], [.it .u8 1], [.it .u8 2], [.it .u8 3], [.it .u8 4]]
theorem clo8 (fl n : Int) : CloL [.one, .one, .one, .sl [.one]] [.it .i64 6, .it .i64 fl, .it .i64 0, .vs 1 (e8 n)] := fr_clo 6 fl 0 (eight n)
theorem pong_f (p : List Int) : pong false p = h9 6 1 0 p.length ++ p := by simp [pong]
theorem pong_t (p : List Int) : pong true p = [] := by simp [pong]
set_option maxHeartbeats 64000000 in
theorem pings_loop (l : List Int) (as' : List Bool) (hl : l.length ≤ 10000000) (hla : as'.length ≤ 10000000) (c0 : CnV) (hp0 : Hp) (hS0 : PS hp0 c0 []) (lo : Lo) (hlo : shed [9] lo = fun _ => none) (tm : Tm)
    (hk : [0, 1, 5, 6, 7].map (fun x => (x, tm x)) = [(0, .vs 1 (us l)), (1, .vs 1 (bls as')), (5, .pt 0 0 0), (6, .ns), (7, .it .i64 (Int.ofNat 0))]) :
    ∃ r, EvL F [0, 1, 5, 6, 7] [9] (lpB (d4.body.lps.getD 0 .skip)) ⟨tm, lo, hp0⟩ r ∧ ∃ (q : List Int) (w : V), q.length ≤ 850 ∧ WV w q ∧ XtQ 0 [(5, .pt 0 0 0), (6, w)] (fun lo hp => ∃ c, PS hp c q) r := by
  refine EvL.invQ (S := Nat × V) (fun y => [(0, .vs 1 (us l)), (1, .vs 1 (bls as')), (5, .pt 0 0 0), (6, y.2), (7, .it .i64 (Int.ofNat y.1))])
    (fun y lo hp => shed [9] lo = (fun _ => none) ∧ y.1 ≤ 50 ∧ (∃ c, PS hp c (pongs l as' y.1)) ∧ WV y.2 (pongs l as' y.1)) (fun y => 50 - y.1) _ ?_ (0, .ns) tm lo hp0 ⟨hlo, Nat.zero_le _, ⟨c0, hS0⟩, .inl ⟨rfl, rfl⟩⟩ hk
  rintro ⟨i, w⟩ lo hp ⟨e1, e2, ⟨c, hS⟩, hW⟩
  simp only at e2 hS hW
  rw [e1]
  have hul := us_length l
  have hbl := bls_length as'
  have hql := pongs_len l as' i
  have hwl : isLp w = false := by rcases hW with ⟨rfl, _⟩ | rfl <;> rfl
  have done : ∀ lo', shed [9] lo' = (fun _ => none) → ∀ tm', [5, 6].map (fun x => (x, tm' x)) = [(5, .pt 0 0 0), (6, w)] → ∃ (q : List Int) (w : V), q.length ≤ 850 ∧ WV w q ∧ XtQ 0 [(5, .pt 0 0 0), (6, w)] (fun lo hp => ∃ c, PS hp c q) (.exit 0 ⟨tm', lo', hp⟩) := fun lo' h1 tm' h2 =>
    ⟨_, w, by omega, hW, .mk' h2 ⟨c, hS⟩⟩
  by_cases hc : i < l.length ∧ i < 50
  · obtain ⟨h1, h2⟩ := hc
    have hge := us_getD h1
    have hq1 : pongs l as' (i + 1) = pongs l as' i ++ pong (as'.getD i false) (eight (l.getD i 0)) := rfl
    have c6 := clo8 0 (l.getD i 0)
    have c7 := clo8 1 (l.getD i 0)
    generalize l.getD i 0 = n at *
    generalize pongs l as' i = q at *
    have p0 : EvP F 24 c24 [.vs 1 [], .ag [.it .i64 6, .it .i64 0, .it .i64 0, .vs 1 (e8 n)]] [.vs 1 (bs (h9 6 0 0 (eight n).length ++ eight n))] := rput6 [] (eight n) rfl (by simp) 0 (.inl rfl)
    have p1 : EvP F 24 c24 [.vs 1 [], .ag [.it .i64 6, .it .i64 1, .it .i64 0, .vs 1 (e8 n)]] [.vs 1 (bs (h9 6 1 0 (eight n).length ++ eight n))] := rput6 [] (eight n) rfl (by simp) 1 (.inr rfl)
    have p2 : EvP F 24 c24 [.vs 1 (bs q), .ag [.it .i64 6, .it .i64 1, .it .i64 0, .vs 1 (e8 n)]] [.vs 1 (bs (q ++ (h9 6 1 0 (eight n).length ++ eight n)))] := rput6 q (eight n) rfl (by omega) 1 (.inr rfl)
    have by6 : ∀ fl, Bytes (h9 6 fl 0 (eight n).length ++ eight n) := fun fl => (h9_bytes 6 fl 0 8).append (eight_bytes n)
    have f0 := feed_ping hS 0 false (eight_len n) (.inl ⟨rfl, rfl⟩) (by omega) (By.vs hp _) (by6 0)
    have f1 := feed_ping hS 1 true (eight_len n) (.inr ⟨rfl, rfl⟩) (by omega) (By.vs hp _) (by6 1)
    by_cases ha : i < as'.length
    · have hga := bls_getD ha
      cases hb : as'.getD i false with
      | true =>
        rw [hb] at hga hq1
        rw [pong_t, List.append_nil] at hq1 f1
        repeat (first | refine EvQ.run ?_ | refine EvQ.lift (fun _ zn => X.pcall (p1) X.cq rfl X.al rfl zn) ?_ | refine EvQ.lift (fun _ zn => X.pcallG (p1) rfl X.cq rfl X.al rfl zn) ?_ | refine EvQ.lift (fun _ zn => X.pcallC (p1) rfl X.cq rfl X.al rfl zn) ?_ | refine EvQ.lift (fun _ zn => X.pcallT (p1) (by decide) X.cq rfl X.al rfl zn) ?_ | refine EvQ.lift (fun _ zn => X.call rfl X.al (p1) zn) ?_ | refine EvQ.fin X.rs ?_ | refine EvQ.fin1 (fun _ => rfl) rfl ?_)
        refine EvQ.call rfl X.al f1 ?_
        rintro _ hp3 ⟨rfl, c3, h3⟩
        repeat (first | refine EvQ.run ?_ | refine EvQ.fin X.rs ?_ | refine EvQ.fin1 (fun _ => rfl) rfl ?_)
        exact EvQ.go (i + 1, w) X.kv ⟨X.lo, by show i + 1 ≤ 50; omega, ⟨c3, by rw [hq1]; exact h3⟩, by rw [hq1]; exact hW⟩ (by show 50 - (i + 1) < 50 - i; omega)
      | false =>
        rw [hb] at hga hq1
        rw [pong_f] at hq1 f0
        rcases hW with ⟨rfl, rfl⟩ | rfl
        · repeat (first | refine EvQ.run ?_ | refine EvQ.lift (fun _ zn => X.pcall (p1) X.cq rfl X.al rfl zn) ?_ | refine EvQ.lift (fun _ zn => X.pcallG (p1) rfl X.cq rfl X.al rfl zn) ?_ | refine EvQ.lift (fun _ zn => X.pcallC (p1) rfl X.cq rfl X.al rfl zn) ?_ | refine EvQ.lift (fun _ zn => X.pcallT (p1) (by decide) X.cq rfl X.al rfl zn) ?_ | refine EvQ.lift (fun _ zn => X.call rfl X.al (p1) zn) ?_ | refine EvQ.lift (fun _ zn => X.pcall (p0) X.cq rfl X.al rfl zn) ?_ | refine EvQ.lift (fun _ zn => X.pcallG (p0) rfl X.cq rfl X.al rfl zn) ?_ | refine EvQ.lift (fun _ zn => X.pcallC (p0) rfl X.cq rfl X.al rfl zn) ?_ | refine EvQ.lift (fun _ zn => X.pcallT (p0) (by decide) X.cq rfl X.al rfl zn) ?_ | refine EvQ.lift (fun _ zn => X.call rfl X.al (p0) zn) ?_ | refine EvQ.fin X.rs ?_ | refine EvQ.fin1 (fun _ => rfl) rfl ?_)
          refine EvQ.call rfl X.al f0 ?_
          rintro _ hp3 ⟨rfl, c3, h3⟩
          repeat (first | refine EvQ.run ?_ | refine EvQ.fin X.rs ?_ | refine EvQ.fin1 (fun _ => rfl) rfl ?_)
          exact EvQ.go (i + 1, .vs 1 (bs (h9 6 1 0 (eight n).length ++ eight n))) X.kv ⟨X.lo, by show i + 1 ≤ 50; omega, ⟨c3, by rw [hq1]; exact h3⟩, by rw [hq1]; exact .inr rfl⟩ (by show 50 - (i + 1) < 50 - i; omega)
        · repeat (first | refine EvQ.run ?_ | refine EvQ.lift (fun _ zn => X.pcall (p2) X.cq rfl X.al rfl zn) ?_ | refine EvQ.lift (fun _ zn => X.pcallG (p2) rfl X.cq rfl X.al rfl zn) ?_ | refine EvQ.lift (fun _ zn => X.pcallC (p2) rfl X.cq rfl X.al rfl zn) ?_ | refine EvQ.lift (fun _ zn => X.pcallT (p2) (by decide) X.cq rfl X.al rfl zn) ?_ | refine EvQ.lift (fun _ zn => X.call rfl X.al (p2) zn) ?_ | refine EvQ.lift (fun _ zn => X.pcall (p0) X.cq rfl X.al rfl zn) ?_ | refine EvQ.lift (fun _ zn => X.pcallG (p0) rfl X.cq rfl X.al rfl zn) ?_ | refine EvQ.lift (fun _ zn => X.pcallC (p0) rfl X.cq rfl X.al rfl zn) ?_ | refine EvQ.lift (fun _ zn => X.pcallT (p0) (by decide) X.cq rfl X.al rfl zn) ?_ | refine EvQ.lift (fun _ zn => X.call rfl X.al (p0) zn) ?_ | refine EvQ.fin X.rs ?_ | refine EvQ.fin1 (fun _ => rfl) rfl ?_)
          refine EvQ.call rfl X.al f0 ?_
          rintro _ hp3 ⟨rfl, c3, h3⟩
          repeat (first | refine EvQ.run ?_ | refine EvQ.fin X.rs ?_ | refine EvQ.fin1 (fun _ => rfl) rfl ?_)
          exact EvQ.go (i + 1, .vs 1 (bs (q ++ (h9 6 1 0 (eight n).length ++ eight n)))) X.kv ⟨X.lo, by show i + 1 ≤ 50; omega, ⟨c3, by rw [hq1]; exact h3⟩, by rw [hq1]; exact .inr rfl⟩ (by show 50 - (i + 1) < 50 - i; omega)
    · have hb : as'.getD i false = false := by rw [List.getD, List.getElem?_eq_none (by omega)]; rfl
      rw [hb] at hq1
      rw [pong_f] at hq1 f0
      rcases hW with ⟨rfl, rfl⟩ | rfl
      · repeat (first | refine EvQ.run ?_ | refine EvQ.lift (fun _ zn => X.pcall (p1) X.cq rfl X.al rfl zn) ?_ | refine EvQ.lift (fun _ zn => X.pcallG (p1) rfl X.cq rfl X.al rfl zn) ?_ | refine EvQ.lift (fun _ zn => X.pcallC (p1) rfl X.cq rfl X.al rfl zn) ?_ | refine EvQ.lift (fun _ zn => X.pcallT (p1) (by decide) X.cq rfl X.al rfl zn) ?_ | refine EvQ.lift (fun _ zn => X.call rfl X.al (p1) zn) ?_ | refine EvQ.lift (fun _ zn => X.pcall (p0) X.cq rfl X.al rfl zn) ?_ | refine EvQ.lift (fun _ zn => X.pcallG (p0) rfl X.cq rfl X.al rfl zn) ?_ | refine EvQ.lift (fun _ zn => X.pcallC (p0) rfl X.cq rfl X.al rfl zn) ?_ | refine EvQ.lift (fun _ zn => X.pcallT (p0) (by decide) X.cq rfl X.al rfl zn) ?_ | refine EvQ.lift (fun _ zn => X.call rfl X.al (p0) zn) ?_ | refine EvQ.fin X.rs ?_ | refine EvQ.fin1 (fun _ => rfl) rfl ?_)
        refine EvQ.call rfl X.al f0 ?_
        rintro _ hp3 ⟨rfl, c3, h3⟩
        repeat (first | refine EvQ.run ?_ | refine EvQ.fin X.rs ?_ | refine EvQ.fin1 (fun _ => rfl) rfl ?_)
        exact EvQ.go (i + 1, .vs 1 (bs (h9 6 1 0 (eight n).length ++ eight n))) X.kv ⟨X.lo, by show i + 1 ≤ 50; omega, ⟨c3, by rw [hq1]; exact h3⟩, by rw [hq1]; exact .inr rfl⟩ (by show 50 - (i + 1) < 50 - i; omega)
      · repeat (first | refine EvQ.run ?_ | refine EvQ.lift (fun _ zn => X.pcall (p2) X.cq rfl X.al rfl zn) ?_ | refine EvQ.lift (fun _ zn => X.pcallG (p2) rfl X.cq rfl X.al rfl zn) ?_ | refine EvQ.lift (fun _ zn => X.pcallC (p2) rfl X.cq rfl X.al rfl zn) ?_ | refine EvQ.lift (fun _ zn => X.pcallT (p2) (by decide) X.cq rfl X.al rfl zn) ?_ | refine EvQ.lift (fun _ zn => X.call rfl X.al (p2) zn) ?_ | refine EvQ.lift (fun _ zn => X.pcall (p0) X.cq rfl X.al rfl zn) ?_ | refine EvQ.lift (fun _ zn => X.pcallG (p0) rfl X.cq rfl X.al rfl zn) ?_ | refine EvQ.lift (fun _ zn => X.pcallC (p0) rfl X.cq rfl X.al rfl zn) ?_ | refine EvQ.lift (fun _ zn => X.pcallT (p0) (by decide) X.cq rfl X.al rfl zn) ?_ | refine EvQ.lift (fun _ zn => X.call rfl X.al (p0) zn) ?_ | refine EvQ.fin X.rs ?_ | refine EvQ.fin1 (fun _ => rfl) rfl ?_)
        refine EvQ.call rfl X.al f0 ?_
        rintro _ hp3 ⟨rfl, c3, h3⟩
        repeat (first | refine EvQ.run ?_ | refine EvQ.fin X.rs ?_ | refine EvQ.fin1 (fun _ => rfl) rfl ?_)
        exact EvQ.go (i + 1, .vs 1 (bs (q ++ (h9 6 1 0 (eight n).length ++ eight n)))) X.kv ⟨X.lo, by show i + 1 ≤ 50; omega, ⟨c3, by rw [hq1]; exact h3⟩, by rw [hq1]; exact .inr rfl⟩ (by show 50 - (i + 1) < 50 - i; omega)
  · have hx : ¬ i < l.length ∨ ¬ i < 50 := by omega
    rcases hx with h1 | h1
    · repeat' (first | refine EvQ.run ?_ | (refine EvQ.pickB rfl rfl rfl ?_) | (refine EvQ.cond rfl (fun h => ?_) (fun h => ?_) <;> ((first | replace h := X.nm h | skip); try have hne := ne_len h)) | (refine EvQ.g1 rfl (fun h => ?_) (fun h => ?_) <;> ((first | replace h := X.nm h | skip); try have hne := ne_len h)) | (refine EvQ.pick rfl (fun _ => rfl) (fun _ => rfl) (fun h => ?_) (fun h => ?_) <;> ((first | replace h := X.nm h | skip); try have hne := ne_len h)) | refine EvQ.fin X.rs ?_ | refine EvQ.fin1 (fun _ => rfl) rfl ?_)
      exact EvQ.xt (done _ X.lo _ X.kv)
    · repeat' (first | refine EvQ.run ?_ | (refine EvQ.pickB rfl rfl rfl ?_) | (refine EvQ.cond rfl (fun h => ?_) (fun h => ?_) <;> ((first | replace h := X.nm h | skip); try have hne := ne_len h)) | (refine EvQ.g1 rfl (fun h => ?_) (fun h => ?_) <;> ((first | replace h := X.nm h | skip); try have hne := ne_len h)) | (refine EvQ.pick rfl (fun _ => rfl) (fun _ => rfl) (fun h => ?_) (fun h => ?_) <;> ((first | replace h := X.nm h | skip); try have hne := ne_len h)) | refine EvQ.fin X.rs ?_ | refine EvQ.fin1 (fun _ => rfl) rfl ?_)
      all_goals exact EvQ.xt (done _ X.lo _ X.kv)
end Go.Proofs.YtpncefcicfhibaaGreatDoor
