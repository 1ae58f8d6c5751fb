import Derived.Test.YtddohjlkjakdlaaEvE
import Derived.Test.YtddohjlkjakdlaaEvE
import Derived.Test.YtddohjlkjakdlaaBnd1
set_option linter.unusedVariables false
set_option linter.unusedSimpArgs false
-- StoreBounded: the walk
namespace Go.Proofs.Ytddohjlkjakdlaa
open Go hiding Fn
open Ev tab
attribute [local irreducible] EvP EvD EvL EvC evGds evLs C.run sK bK gK pK fK lpB stepD
structure AOK (a : Ak) : Prop where
  f1 : BOK a.e.q.fs
  f2 : BOK a.e.s.fs
  f3 : BOK a.q.fs
  t : TOK a.e.s.fs
  k1 : a.e.q.s.length ≤ 10000000
  k2 : a.e.q.a.length ≤ 10000000
  k3 : a.e.q.p.length ≤ 10000000
structure BndJ (s n i : Nat) (lo : Lo) (hp : Hp) : Prop where
  lo : shed [9, 11] lo = fun _ => none
  i : i ≤ 40
  ex : ∃ v L, StoV hp s v L n
  ll : hp.lim ≤ hp.next
set_option maxHeartbeats 64000000 in
theorem bnd_loop (s n : Nat) (l : List Ak) (hl : l.length ≤ 2000000) (hA : ∀ a, a ∈ l → AOK a) (hp0 : Hp) (hS0 : StoV hp0 s .ns [] n) (hl0 : hp0.lim ≤ hp0.next) (lo : Lo) (hlo : shed [9, 11] lo = fun _ => none) (tm : Tm)
    (hk : [1, 5, 6, 8].map (fun x => (x, tm x)) = [(1, .vs 20 (aks l)), (5, .it .i64 (Int.ofNat n)), (6, .pt s 0 0), (8, .it .i64 (Int.ofNat 0))]) :
    ∃ r, EvL F [1, 5, 6, 8] [9, 11] (lpB (d8.body.lps.getD 0 .skip)) ⟨tm, lo, hp0⟩ r ∧ XtQ 0 [] (fun lo hp => True) r := by
  refine EvL.invQ (S := Nat) (fun i => [(1, .vs 20 (aks l)), (5, .it .i64 (Int.ofNat n)), (6, .pt s 0 0), (8, .it .i64 (Int.ofNat i))])
    (fun i lo hp => BndJ s n i lo hp) (fun i => 40 - i) _ ?_ 0 tm lo hp0 ⟨hlo, Nat.zero_le _, ⟨.ns, [], hS0⟩, hl0⟩ hk
  intro i lo hp ⟨e1, e2, ⟨v, L, hS⟩, hll⟩
  rw [e1]
  have hil := aks_length l
  by_cases hc : i < l.length ∧ i < 40
  · obtain ⟨h1, h2⟩ := hc
    have hge := aks_getD h1
    have hA := hA (l.getD i a0) (by rw [List.getD, List.getElem?_eq_getElem h1]; exact List.getElem_mem _)
    generalize l.getD i a0 = a at *
    have lg := light_ok a hA.f1 hA.f2 hA.f3 (by have := hA.k3; omega)
    have cA := rowAk_clo a
    cases hb : lgB a with
    | false =>
      rw [hb] at lg
      repeat (first | refine EvQ.run ?_ | refine EvQ.lift (fun _ zn => X.pcall (lg) X.cq rfl X.al rfl zn) ?_ | refine EvQ.lift (fun _ zn => X.pcallG (lg) rfl X.cq rfl X.al rfl zn) ?_ | refine EvQ.lift (fun _ zn => X.pcallC (lg) rfl X.cq rfl X.al rfl zn) ?_ | refine EvQ.lift (fun _ zn => X.pcallT (lg) (by decide) X.cq rfl X.al rfl zn) ?_ | refine EvQ.lift (fun _ zn => X.call rfl X.al (lg) zn) ?_ | refine EvQ.fin X.rs ?_ | refine EvQ.fin1 (fun _ => rfl) rfl ?_)
      exact EvQ.go (i + 1) X.kv ⟨X.lo, by show i + 1 ≤ 40; omega, ⟨v, L, hS⟩, hll⟩ (by show 40 - (i + 1) < 40 - i; omega)
    | true =>
      rw [hb] at lg
      have hE := light_eok hb hA.k1 hA.k2 hA.t
      have cs := cost_ok a.e hE
      have c3 := rowEn_clo a.e
      have c4 := rowRq_clo a.e.q
      have ke := key_ok a.e.q hE.q.k1 hE.q.k2 hE.q.k3
      have st := rstars_ok a.e.s.fs hE.s hE.t
      have pt := putS_ok (own := false) hp s v L n a.e hS hE
      have hfit := fit_self a.e
      have hce := hE.cost
      have hbud := hS.bud
      generalize (starsS a.e.s.fs).isNone = star at *
      generalize ((starsS a.e.s.fs).getD []) = names at *
      by_cases hc : n < costS a.e
      · have hB : putB n a.e = false := by unfold putB; rw [decide_eq_true hc]; rfl
        rw [hB] at pt
        repeat (first | refine EvQ.run ?_ | refine EvQ.lift (fun _ zn => X.pcall (lg) X.cq rfl X.al rfl zn) ?_ | refine EvQ.lift (fun _ zn => X.pcallG (lg) rfl X.cq rfl X.al rfl zn) ?_ | refine EvQ.lift (fun _ zn => X.pcallC (lg) rfl X.cq rfl X.al rfl zn) ?_ | refine EvQ.lift (fun _ zn => X.pcallT (lg) (by decide) X.cq rfl X.al rfl zn) ?_ | refine EvQ.lift (fun _ zn => X.call rfl X.al (lg) zn) ?_ | refine EvQ.fin X.rs ?_ | refine EvQ.fin1 (fun _ => rfl) rfl ?_)
        refine EvQ.call rfl X.al pt ?_
        rintro _ hp4 ⟨rfl, v5, hS4, f4⟩
        have hl4 : hp4.lim ≤ hp4.next := by rw [f4.lim]; have := f4.next; omega
        have sz := size_ok (own := false) hp4 s v5 _ n hS4
        have ht := hS4.tot
        have ks := keys_ok (own := false) hp4 s v5 _ n hS4 hl4
        generalize putL L n a.e = L5 at *
        repeat (first | refine EvQ.run ?_ | refine EvQ.lift (fun _ zn => X.pcall (cs) X.cq rfl X.al rfl zn) ?_ | refine EvQ.lift (fun _ zn => X.pcallG (cs) rfl X.cq rfl X.al rfl zn) ?_ | refine EvQ.lift (fun _ zn => X.pcallC (cs) rfl X.cq rfl X.al rfl zn) ?_ | refine EvQ.lift (fun _ zn => X.pcallT (cs) (by decide) X.cq rfl X.al rfl zn) ?_ | refine EvQ.lift (fun _ zn => X.call rfl X.al (cs) zn) ?_ | refine EvQ.lift (fun _ zn => X.pcall (sz) X.cq rfl X.al rfl zn) ?_ | refine EvQ.lift (fun _ zn => X.pcallG (sz) rfl X.cq rfl X.al rfl zn) ?_ | refine EvQ.lift (fun _ zn => X.pcallC (sz) rfl X.cq rfl X.al rfl zn) ?_ | refine EvQ.lift (fun _ zn => X.pcallT (sz) (by decide) X.cq rfl X.al rfl zn) ?_ | refine EvQ.lift (fun _ zn => X.call rfl X.al (sz) zn) ?_ | refine EvQ.fin X.rs ?_ | refine EvQ.fin1 (fun _ => rfl) rfl ?_)
        refine EvQ.call rfl X.al ks ?_
        rintro w5 hp5 ⟨hw5, hU5, hid5⟩
        have hS5 := hS4.up hU5 (Nat.le_refl _)
        have hl5 : hp5.lim ≤ hp5.next := by rw [hU5.lim]; have := hU5.next; omega
        have wl5 := hw5.lp
        have wn5 := hw5.len
        rw [txs_length, List.length_map] at wn5
        have ln := len_ok (own := false) hp5 s v5 L5 n hS5
        have pk := peek_ok (own := false) hp5 s v5 L5 n a.e.q hS5 hE.q
        have rm := rem_ok (own := false) hp5 s v5 L5 n (keyS a.e.q) hS5
        repeat (first | refine EvQ.run ?_ | refine EvQ.lift (fun _ zn => X.pcall (ln) X.cq rfl X.al rfl zn) ?_ | refine EvQ.lift (fun _ zn => X.pcallG (ln) rfl X.cq rfl X.al rfl zn) ?_ | refine EvQ.lift (fun _ zn => X.pcallC (ln) rfl X.cq rfl X.al rfl zn) ?_ | refine EvQ.lift (fun _ zn => X.pcallT (ln) (by decide) X.cq rfl X.al rfl zn) ?_ | refine EvQ.lift (fun _ zn => X.call rfl X.al (ln) zn) ?_ | refine EvQ.fin X.rs ?_ | refine EvQ.fin1 (fun _ => rfl) rfl ?_)
        refine EvQ.call rfl X.al pk ?_
        rintro _ _ ⟨rfl, e6⟩
        rw [e6]
        clear e6 pk
        cases ho : idxS L5 a.e.q with
        | none =>
          have e7 : hitV L5 none = .tu [.ag zEn, .bo false] := rfl
          rw [e7]
          repeat (first | refine EvQ.run ?_ | refine EvQ.lift (fun _ zn => X.pcall (st) X.cq rfl X.al rfl zn) ?_ | refine EvQ.lift (fun _ zn => X.pcallG (st) rfl X.cq rfl X.al rfl zn) ?_ | refine EvQ.lift (fun _ zn => X.pcallC (st) rfl X.cq rfl X.al rfl zn) ?_ | refine EvQ.lift (fun _ zn => X.pcallT (st) (by decide) X.cq rfl X.al rfl zn) ?_ | refine EvQ.lift (fun _ zn => X.call rfl X.al (st) zn) ?_ | refine EvQ.fin X.rs ?_ | refine EvQ.fin1 (fun _ => rfl) rfl ?_)
          refine EvQ.cond rfl (fun q => ?_) (fun q => ?_)
          · repeat (first | refine EvQ.run ?_ | refine EvQ.lift (fun _ zn => X.pcall (ke) X.cq rfl X.al rfl zn) ?_ | refine EvQ.lift (fun _ zn => X.pcallG (ke) rfl X.cq rfl X.al rfl zn) ?_ | refine EvQ.lift (fun _ zn => X.pcallC (ke) rfl X.cq rfl X.al rfl zn) ?_ | refine EvQ.lift (fun _ zn => X.pcallT (ke) (by decide) X.cq rfl X.al rfl zn) ?_ | refine EvQ.lift (fun _ zn => X.call rfl X.al (ke) zn) ?_ | refine EvQ.fin X.rs ?_ | refine EvQ.fin1 (fun _ => rfl) rfl ?_)
            refine EvQ.call rfl X.al rm ?_
            rintro _ hp7 ⟨rfl, v7, hS7, f7⟩
            have hl7 : hp7.lim ≤ hp7.next := by rw [f7.lim]; have := f7.next; omega
            have pk7 := peek_ok (own := false) hp7 s v7 _ n a.e.q hS7 hE.q
            rw [idx_gone] at pk7
            have e7 : hitV (siv (keyB (keyS a.e.q)) L5 0) none = .tu [.ag zEn, .bo false] := rfl
            rw [e7] at pk7
            have rm8 := rem_ok (own := false) hp7 s v7 _ n (keyS a.e.q) hS7
            rw [siv_twice, Nat.sub_self] at rm8
            repeat (first | refine EvQ.run ?_ | refine EvQ.fin X.rs ?_ | refine EvQ.fin1 (fun _ => rfl) rfl ?_)
            refine EvQ.call rfl X.al pk7 ?_
            rintro _ _ ⟨rfl, e9⟩
            rw [e9]
            repeat (first | refine EvQ.run ?_ | refine EvQ.fin X.rs ?_ | refine EvQ.fin1 (fun _ => rfl) rfl ?_)
            refine EvQ.call rfl X.al rm8 ?_
            rintro _ hp8 ⟨rfl, v8, hS8, f8⟩
            repeat (first | refine EvQ.run ?_ | refine EvQ.fin X.rs ?_ | refine EvQ.fin1 (fun _ => rfl) rfl ?_)
            exact EvQ.go (i + 1) X.kv ⟨X.lo, by show i + 1 ≤ 40; omega, ⟨v8, _, hS8⟩, by rw [f8.lim]; have := f8.next; omega⟩ (by show 40 - (i + 1) < 40 - i; omega)
          · repeat (first | refine EvQ.run ?_ | refine EvQ.fin X.rs ?_ | refine EvQ.fin1 (fun _ => rfl) rfl ?_)
            exact EvQ.go (i + 1) X.kv ⟨X.lo, by show i + 1 ≤ 40; omega, ⟨v5, L5, hS5⟩, hl5⟩ (by show 40 - (i + 1) < 40 - i; omega)
        | some k =>
          have e7 : hitV L5 (some k) = .tu [.ag (rowEn (L5.getD k e0)), .bo true] := rfl
          rw [e7]
          generalize L5.getD k e0 = eh
          repeat (first | refine EvQ.run ?_ | refine EvQ.lift (fun _ zn => X.pcall (st) X.cq rfl X.al rfl zn) ?_ | refine EvQ.lift (fun _ zn => X.pcallG (st) rfl X.cq rfl X.al rfl zn) ?_ | refine EvQ.lift (fun _ zn => X.pcallC (st) rfl X.cq rfl X.al rfl zn) ?_ | refine EvQ.lift (fun _ zn => X.pcallT (st) (by decide) X.cq rfl X.al rfl zn) ?_ | refine EvQ.lift (fun _ zn => X.call rfl X.al (st) zn) ?_ | refine EvQ.fin X.rs ?_ | refine EvQ.fin1 (fun _ => rfl) rfl ?_)
          refine EvQ.cond rfl (fun q => ?_) (fun q => ?_)
          · repeat (first | refine EvQ.run ?_ | refine EvQ.lift (fun _ zn => X.pcall (ke) X.cq rfl X.al rfl zn) ?_ | refine EvQ.lift (fun _ zn => X.pcallG (ke) rfl X.cq rfl X.al rfl zn) ?_ | refine EvQ.lift (fun _ zn => X.pcallC (ke) rfl X.cq rfl X.al rfl zn) ?_ | refine EvQ.lift (fun _ zn => X.pcallT (ke) (by decide) X.cq rfl X.al rfl zn) ?_ | refine EvQ.lift (fun _ zn => X.call rfl X.al (ke) zn) ?_ | refine EvQ.fin X.rs ?_ | refine EvQ.fin1 (fun _ => rfl) rfl ?_)
            refine EvQ.call rfl X.al rm ?_
            rintro _ hp7 ⟨rfl, v7, hS7, f7⟩
            have hl7 : hp7.lim ≤ hp7.next := by rw [f7.lim]; have := f7.next; omega
            have pk7 := peek_ok (own := false) hp7 s v7 _ n a.e.q hS7 hE.q
            rw [idx_gone] at pk7
            have e7 : hitV (siv (keyB (keyS a.e.q)) L5 0) none = .tu [.ag zEn, .bo false] := rfl
            rw [e7] at pk7
            have rm8 := rem_ok (own := false) hp7 s v7 _ n (keyS a.e.q) hS7
            rw [siv_twice, Nat.sub_self] at rm8
            repeat (first | refine EvQ.run ?_ | refine EvQ.fin X.rs ?_ | refine EvQ.fin1 (fun _ => rfl) rfl ?_)
            refine EvQ.call rfl X.al pk7 ?_
            rintro _ _ ⟨rfl, e9⟩
            rw [e9]
            repeat (first | refine EvQ.run ?_ | refine EvQ.fin X.rs ?_ | refine EvQ.fin1 (fun _ => rfl) rfl ?_)
            refine EvQ.call rfl X.al rm8 ?_
            rintro _ hp8 ⟨rfl, v8, hS8, f8⟩
            repeat (first | refine EvQ.run ?_ | refine EvQ.fin X.rs ?_ | refine EvQ.fin1 (fun _ => rfl) rfl ?_)
            exact EvQ.go (i + 1) X.kv ⟨X.lo, by show i + 1 ≤ 40; omega, ⟨v8, _, hS8⟩, by rw [f8.lim]; have := f8.next; omega⟩ (by show 40 - (i + 1) < 40 - i; omega)
          · repeat (first | refine EvQ.run ?_ | refine EvQ.fin X.rs ?_ | refine EvQ.fin1 (fun _ => rfl) rfl ?_)
            exact EvQ.go (i + 1) X.kv ⟨X.lo, by show i + 1 ≤ 40; omega, ⟨v5, L5, hS5⟩, hl5⟩ (by show 40 - (i + 1) < 40 - i; omega)
      · have hB : putB n a.e = true := by unfold putB; rw [decide_eq_false hc]; rfl
        have hL : putL L n a.e = a.e :: cutS' (n - costS a.e) (siv (fun x => fitB x a.e.q) L 0) := by unfold putL; rw [if_neg hc]
        have hi0 : star = false → idxS (putL L n a.e) a.e.q = some 0 ∧ (putL L n a.e).getD 0 e0 = a.e := fun q => by
          rw [hL]; exact ⟨idx_first _ _ (hfit q), rfl⟩
        rw [hB] at pt
        clear hL
        repeat (first | refine EvQ.run ?_ | refine EvQ.lift (fun _ zn => X.pcall (lg) X.cq rfl X.al rfl zn) ?_ | refine EvQ.lift (fun _ zn => X.pcallG (lg) rfl X.cq rfl X.al rfl zn) ?_ | refine EvQ.lift (fun _ zn => X.pcallC (lg) rfl X.cq rfl X.al rfl zn) ?_ | refine EvQ.lift (fun _ zn => X.pcallT (lg) (by decide) X.cq rfl X.al rfl zn) ?_ | refine EvQ.lift (fun _ zn => X.call rfl X.al (lg) zn) ?_ | refine EvQ.fin X.rs ?_ | refine EvQ.fin1 (fun _ => rfl) rfl ?_)
        refine EvQ.call rfl X.al pt ?_
        rintro _ hp4 ⟨rfl, v5, hS4, f4⟩
        have hl4 : hp4.lim ≤ hp4.next := by rw [f4.lim]; have := f4.next; omega
        have sz := size_ok (own := false) hp4 s v5 _ n hS4
        have ht := hS4.tot
        have ks := keys_ok (own := false) hp4 s v5 _ n hS4 hl4
        generalize putL L n a.e = L5 at *
        repeat (first | refine EvQ.run ?_ | refine EvQ.lift (fun _ zn => X.pcall (cs) X.cq rfl X.al rfl zn) ?_ | refine EvQ.lift (fun _ zn => X.pcallG (cs) rfl X.cq rfl X.al rfl zn) ?_ | refine EvQ.lift (fun _ zn => X.pcallC (cs) rfl X.cq rfl X.al rfl zn) ?_ | refine EvQ.lift (fun _ zn => X.pcallT (cs) (by decide) X.cq rfl X.al rfl zn) ?_ | refine EvQ.lift (fun _ zn => X.call rfl X.al (cs) zn) ?_ | refine EvQ.lift (fun _ zn => X.pcall (sz) X.cq rfl X.al rfl zn) ?_ | refine EvQ.lift (fun _ zn => X.pcallG (sz) rfl X.cq rfl X.al rfl zn) ?_ | refine EvQ.lift (fun _ zn => X.pcallC (sz) rfl X.cq rfl X.al rfl zn) ?_ | refine EvQ.lift (fun _ zn => X.pcallT (sz) (by decide) X.cq rfl X.al rfl zn) ?_ | refine EvQ.lift (fun _ zn => X.call rfl X.al (sz) zn) ?_ | refine EvQ.fin X.rs ?_ | refine EvQ.fin1 (fun _ => rfl) rfl ?_)
        refine EvQ.call rfl X.al ks ?_
        rintro w5 hp5 ⟨hw5, hU5, hid5⟩
        have hS5 := hS4.up hU5 (Nat.le_refl _)
        have hl5 : hp5.lim ≤ hp5.next := by rw [hU5.lim]; have := hU5.next; omega
        have wl5 := hw5.lp
        have wn5 := hw5.len
        rw [txs_length, List.length_map] at wn5
        have ln := len_ok (own := false) hp5 s v5 L5 n hS5
        have pk := peek_ok (own := false) hp5 s v5 L5 n a.e.q hS5 hE.q
        have rm := rem_ok (own := false) hp5 s v5 L5 n (keyS a.e.q) hS5
        repeat (first | refine EvQ.run ?_ | refine EvQ.lift (fun _ zn => X.pcall (ln) X.cq rfl X.al rfl zn) ?_ | refine EvQ.lift (fun _ zn => X.pcallG (ln) rfl X.cq rfl X.al rfl zn) ?_ | refine EvQ.lift (fun _ zn => X.pcallC (ln) rfl X.cq rfl X.al rfl zn) ?_ | refine EvQ.lift (fun _ zn => X.pcallT (ln) (by decide) X.cq rfl X.al rfl zn) ?_ | refine EvQ.lift (fun _ zn => X.call rfl X.al (ln) zn) ?_ | refine EvQ.fin X.rs ?_ | refine EvQ.fin1 (fun _ => rfl) rfl ?_)
        refine EvQ.call rfl X.al pk ?_
        rintro _ _ ⟨rfl, e6⟩
        rw [e6]
        clear e6 pk
        cases star with
        | true =>
          cases ho : idxS L5 a.e.q with
          | none =>
            have e7 : hitV L5 none = .tu [.ag zEn, .bo false] := rfl
            rw [e7]
            repeat (first | refine EvQ.run ?_ | refine EvQ.lift (fun _ zn => X.pcall (st) X.cq rfl X.al rfl zn) ?_ | refine EvQ.lift (fun _ zn => X.pcallG (st) rfl X.cq rfl X.al rfl zn) ?_ | refine EvQ.lift (fun _ zn => X.pcallC (st) rfl X.cq rfl X.al rfl zn) ?_ | refine EvQ.lift (fun _ zn => X.pcallT (st) (by decide) X.cq rfl X.al rfl zn) ?_ | refine EvQ.lift (fun _ zn => X.call rfl X.al (st) zn) ?_ | refine EvQ.fin X.rs ?_ | refine EvQ.fin1 (fun _ => rfl) rfl ?_)
            refine EvQ.cond rfl (fun q => ?_) (fun q => ?_)
            · repeat (first | refine EvQ.run ?_ | refine EvQ.lift (fun _ zn => X.pcall (ke) X.cq rfl X.al rfl zn) ?_ | refine EvQ.lift (fun _ zn => X.pcallG (ke) rfl X.cq rfl X.al rfl zn) ?_ | refine EvQ.lift (fun _ zn => X.pcallC (ke) rfl X.cq rfl X.al rfl zn) ?_ | refine EvQ.lift (fun _ zn => X.pcallT (ke) (by decide) X.cq rfl X.al rfl zn) ?_ | refine EvQ.lift (fun _ zn => X.call rfl X.al (ke) zn) ?_ | refine EvQ.fin X.rs ?_ | refine EvQ.fin1 (fun _ => rfl) rfl ?_)
              refine EvQ.call rfl X.al rm ?_
              rintro _ hp7 ⟨rfl, v7, hS7, f7⟩
              have hl7 : hp7.lim ≤ hp7.next := by rw [f7.lim]; have := f7.next; omega
              have pk7 := peek_ok (own := false) hp7 s v7 _ n a.e.q hS7 hE.q
              rw [idx_gone] at pk7
              have e7 : hitV (siv (keyB (keyS a.e.q)) L5 0) none = .tu [.ag zEn, .bo false] := rfl
              rw [e7] at pk7
              have rm8 := rem_ok (own := false) hp7 s v7 _ n (keyS a.e.q) hS7
              rw [siv_twice, Nat.sub_self] at rm8
              repeat (first | refine EvQ.run ?_ | refine EvQ.fin X.rs ?_ | refine EvQ.fin1 (fun _ => rfl) rfl ?_)
              refine EvQ.call rfl X.al pk7 ?_
              rintro _ _ ⟨rfl, e9⟩
              rw [e9]
              repeat (first | refine EvQ.run ?_ | refine EvQ.fin X.rs ?_ | refine EvQ.fin1 (fun _ => rfl) rfl ?_)
              refine EvQ.call rfl X.al rm8 ?_
              rintro _ hp8 ⟨rfl, v8, hS8, f8⟩
              repeat (first | refine EvQ.run ?_ | refine EvQ.fin X.rs ?_ | refine EvQ.fin1 (fun _ => rfl) rfl ?_)
              exact EvQ.go (i + 1) X.kv ⟨X.lo, by show i + 1 ≤ 40; omega, ⟨v8, _, hS8⟩, by rw [f8.lim]; have := f8.next; omega⟩ (by show 40 - (i + 1) < 40 - i; omega)
            · repeat (first | refine EvQ.run ?_ | refine EvQ.fin X.rs ?_ | refine EvQ.fin1 (fun _ => rfl) rfl ?_)
              exact EvQ.go (i + 1) X.kv ⟨X.lo, by show i + 1 ≤ 40; omega, ⟨v5, L5, hS5⟩, hl5⟩ (by show 40 - (i + 1) < 40 - i; omega)
          | some k =>
            have e7 : hitV L5 (some k) = .tu [.ag (rowEn (L5.getD k e0)), .bo true] := rfl
            rw [e7]
            generalize L5.getD k e0 = eh
            repeat (first | refine EvQ.run ?_ | refine EvQ.lift (fun _ zn => X.pcall (st) X.cq rfl X.al rfl zn) ?_ | refine EvQ.lift (fun _ zn => X.pcallG (st) rfl X.cq rfl X.al rfl zn) ?_ | refine EvQ.lift (fun _ zn => X.pcallC (st) rfl X.cq rfl X.al rfl zn) ?_ | refine EvQ.lift (fun _ zn => X.pcallT (st) (by decide) X.cq rfl X.al rfl zn) ?_ | refine EvQ.lift (fun _ zn => X.call rfl X.al (st) zn) ?_ | refine EvQ.fin X.rs ?_ | refine EvQ.fin1 (fun _ => rfl) rfl ?_)
            refine EvQ.cond rfl (fun q => ?_) (fun q => ?_)
            · repeat (first | refine EvQ.run ?_ | refine EvQ.lift (fun _ zn => X.pcall (ke) X.cq rfl X.al rfl zn) ?_ | refine EvQ.lift (fun _ zn => X.pcallG (ke) rfl X.cq rfl X.al rfl zn) ?_ | refine EvQ.lift (fun _ zn => X.pcallC (ke) rfl X.cq rfl X.al rfl zn) ?_ | refine EvQ.lift (fun _ zn => X.pcallT (ke) (by decide) X.cq rfl X.al rfl zn) ?_ | refine EvQ.lift (fun _ zn => X.call rfl X.al (ke) zn) ?_ | refine EvQ.fin X.rs ?_ | refine EvQ.fin1 (fun _ => rfl) rfl ?_)
              refine EvQ.call rfl X.al rm ?_
              rintro _ hp7 ⟨rfl, v7, hS7, f7⟩
              have hl7 : hp7.lim ≤ hp7.next := by rw [f7.lim]; have := f7.next; omega
              have pk7 := peek_ok (own := false) hp7 s v7 _ n a.e.q hS7 hE.q
              rw [idx_gone] at pk7
              have e7 : hitV (siv (keyB (keyS a.e.q)) L5 0) none = .tu [.ag zEn, .bo false] := rfl
              rw [e7] at pk7
              have rm8 := rem_ok (own := false) hp7 s v7 _ n (keyS a.e.q) hS7
              rw [siv_twice, Nat.sub_self] at rm8
              repeat (first | refine EvQ.run ?_ | refine EvQ.fin X.rs ?_ | refine EvQ.fin1 (fun _ => rfl) rfl ?_)
              refine EvQ.call rfl X.al pk7 ?_
              rintro _ _ ⟨rfl, e9⟩
              rw [e9]
              repeat (first | refine EvQ.run ?_ | refine EvQ.fin X.rs ?_ | refine EvQ.fin1 (fun _ => rfl) rfl ?_)
              refine EvQ.call rfl X.al rm8 ?_
              rintro _ hp8 ⟨rfl, v8, hS8, f8⟩
              repeat (first | refine EvQ.run ?_ | refine EvQ.fin X.rs ?_ | refine EvQ.fin1 (fun _ => rfl) rfl ?_)
              exact EvQ.go (i + 1) X.kv ⟨X.lo, by show i + 1 ≤ 40; omega, ⟨v8, _, hS8⟩, by rw [f8.lim]; have := f8.next; omega⟩ (by show 40 - (i + 1) < 40 - i; omega)
            · repeat (first | refine EvQ.run ?_ | refine EvQ.fin X.rs ?_ | refine EvQ.fin1 (fun _ => rfl) rfl ?_)
              exact EvQ.go (i + 1) X.kv ⟨X.lo, by show i + 1 ≤ 40; omega, ⟨v5, L5, hS5⟩, hl5⟩ (by show 40 - (i + 1) < 40 - i; omega)
        | false =>
          obtain ⟨ho, h0'⟩ := hi0 rfl
          rw [ho]
          have e7 : hitV L5 (some 0) = .tu [.ag (rowEn (L5.getD 0 e0)), .bo true] := rfl
          rw [e7, h0']
          have en := entR_ok (own := false) hp5 a.e a.e (.vs 2 (fds a.e.q.fs)) (.vs 2 (fds a.e.q.fs)) (.vs 2 (fds a.e.s.fs)) (.vs 2 (fds a.e.s.fs)) .vs .vs .vs .vs (by have := hE.q.f.1; omega) (by have := hE.q.f.1; omega) (by have := hE.s.1; omega) (by have := hE.s.1; omega)
          rw [eqEn_self'] at en
          repeat (first | refine EvQ.run ?_ | refine EvQ.lift (fun _ zn => X.pcall (st) X.cq rfl X.al rfl zn) ?_ | refine EvQ.lift (fun _ zn => X.pcallG (st) rfl X.cq rfl X.al rfl zn) ?_ | refine EvQ.lift (fun _ zn => X.pcallC (st) rfl X.cq rfl X.al rfl zn) ?_ | refine EvQ.lift (fun _ zn => X.pcallT (st) (by decide) X.cq rfl X.al rfl zn) ?_ | refine EvQ.lift (fun _ zn => X.call rfl X.al (st) zn) ?_ | refine EvQ.lift (fun _ zn => X.pcall (en) X.cq rfl X.al rfl zn) ?_ | refine EvQ.lift (fun _ zn => X.pcallG (en) rfl X.cq rfl X.al rfl zn) ?_ | refine EvQ.lift (fun _ zn => X.pcallC (en) rfl X.cq rfl X.al rfl zn) ?_ | refine EvQ.lift (fun _ zn => X.pcallT (en) (by decide) X.cq rfl X.al rfl zn) ?_ | refine EvQ.lift (fun _ zn => X.call rfl X.al (en) zn) ?_ | refine EvQ.fin X.rs ?_ | refine EvQ.fin1 (fun _ => rfl) rfl ?_)
          refine EvQ.cond rfl (fun q => ?_) (fun q => ?_)
          · repeat (first | refine EvQ.run ?_ | refine EvQ.lift (fun _ zn => X.pcall (ke) X.cq rfl X.al rfl zn) ?_ | refine EvQ.lift (fun _ zn => X.pcallG (ke) rfl X.cq rfl X.al rfl zn) ?_ | refine EvQ.lift (fun _ zn => X.pcallC (ke) rfl X.cq rfl X.al rfl zn) ?_ | refine EvQ.lift (fun _ zn => X.pcallT (ke) (by decide) X.cq rfl X.al rfl zn) ?_ | refine EvQ.lift (fun _ zn => X.call rfl X.al (ke) zn) ?_ | refine EvQ.fin X.rs ?_ | refine EvQ.fin1 (fun _ => rfl) rfl ?_)
            refine EvQ.call rfl X.al rm ?_
            rintro _ hp7 ⟨rfl, v7, hS7, f7⟩
            have hl7 : hp7.lim ≤ hp7.next := by rw [f7.lim]; have := f7.next; omega
            have pk7 := peek_ok (own := false) hp7 s v7 _ n a.e.q hS7 hE.q
            rw [idx_gone] at pk7
            have e7 : hitV (siv (keyB (keyS a.e.q)) L5 0) none = .tu [.ag zEn, .bo false] := rfl
            rw [e7] at pk7
            have rm8 := rem_ok (own := false) hp7 s v7 _ n (keyS a.e.q) hS7
            rw [siv_twice, Nat.sub_self] at rm8
            repeat (first | refine EvQ.run ?_ | refine EvQ.fin X.rs ?_ | refine EvQ.fin1 (fun _ => rfl) rfl ?_)
            refine EvQ.call rfl X.al pk7 ?_
            rintro _ _ ⟨rfl, e9⟩
            rw [e9]
            repeat (first | refine EvQ.run ?_ | refine EvQ.fin X.rs ?_ | refine EvQ.fin1 (fun _ => rfl) rfl ?_)
            refine EvQ.call rfl X.al rm8 ?_
            rintro _ hp8 ⟨rfl, v8, hS8, f8⟩
            repeat (first | refine EvQ.run ?_ | refine EvQ.fin X.rs ?_ | refine EvQ.fin1 (fun _ => rfl) rfl ?_)
            exact EvQ.go (i + 1) X.kv ⟨X.lo, by show i + 1 ≤ 40; omega, ⟨v8, _, hS8⟩, by rw [f8.lim]; have := f8.next; omega⟩ (by show 40 - (i + 1) < 40 - i; omega)
          · repeat (first | refine EvQ.run ?_ | refine EvQ.fin X.rs ?_ | refine EvQ.fin1 (fun _ => rfl) rfl ?_)
            exact EvQ.go (i + 1) X.kv ⟨X.lo, by show i + 1 ≤ 40; omega, ⟨v5, L5, hS5⟩, hl5⟩ (by show 40 - (i + 1) < 40 - i; omega)
  · have hx : ¬ i < l.length ∨ ¬ i < 40 := by omega
    rcases hx with h1 | h1
    · repeat' (first | refine EvQ.run ?_ | (refine EvQ.pickB rfl rfl rfl ?_) | (refine EvQ.cond rfl (fun h => ?_) (fun h => ?_) <;> ((first | replace h := X.nm h | skip); try have hne := ne_len h)) | (refine EvQ.g1 rfl (fun h => ?_) (fun h => ?_) <;> ((first | replace h := X.nm h | skip); try have hne := ne_len h)) | (refine EvQ.pick rfl (fun _ => rfl) (fun _ => rfl) (fun h => ?_) (fun h => ?_) <;> ((first | replace h := X.nm h | skip); try have hne := ne_len h)) | refine EvQ.fin X.rs ?_ | refine EvQ.fin1 (fun _ => rfl) rfl ?_)
      exact EvQ.xt (.mk' X.kv trivial)
    · repeat' (first | refine EvQ.run ?_ | (refine EvQ.pickB rfl rfl rfl ?_) | (refine EvQ.cond rfl (fun h => ?_) (fun h => ?_) <;> ((first | replace h := X.nm h | skip); try have hne := ne_len h)) | (refine EvQ.g1 rfl (fun h => ?_) (fun h => ?_) <;> ((first | replace h := X.nm h | skip); try have hne := ne_len h)) | (refine EvQ.pick rfl (fun _ => rfl) (fun _ => rfl) (fun h => ?_) (fun h => ?_) <;> ((first | replace h := X.nm h | skip); try have hne := ne_len h)) | refine EvQ.fin X.rs ?_ | refine EvQ.fin1 (fun _ => rfl) rfl ?_)
      all_goals exact EvQ.xt (.mk' X.kv trivial)
set_option maxHeartbeats 16000000 in
theorem bnd_run (b : Int) (l : List Ak) (hl : l.length ≤ 2000000) (hA : ∀ a, a ∈ l → AOK a) : ∃ h, EvD F (stepD d8 [.it .i64 b, .vs 20 (aks l)] h0) (Rt (.bo true) h) := by
  obtain ⟨k, h1, h2, W⟩ := within_p b 0 16777216 (by decide) (by decide) (by decide)
  obtain ⟨n, rfl⟩ : ∃ n : Nat, k = Int.ofNat n := ⟨k.toNat, by simp only [Int.ofNat_eq_natCast]; omega⟩
  have h2 : n ≤ 16777216 := by simp only [Int.ofNat_eq_natCast] at h2; omega
  have nw := new_ok (own := false) h0 n h2 (Nat.le_refl _)
  have sr := storeruns_ok
  refine EvQ.law ?_
  repeat (first | refine EvQ.run ?_ | refine EvQ.lift (fun _ zn => X.pcall (W) X.cq rfl X.al rfl zn) ?_ | refine EvQ.lift (fun _ zn => X.pcallG (W) rfl X.cq rfl X.al rfl zn) ?_ | refine EvQ.lift (fun _ zn => X.pcallC (W) rfl X.cq rfl X.al rfl zn) ?_ | refine EvQ.lift (fun _ zn => X.pcallT (W) (by decide) X.cq rfl X.al rfl zn) ?_ | refine EvQ.lift (fun _ zn => X.call rfl X.al (W) zn) ?_ | refine EvQ.fin X.rs ?_ | refine EvQ.fin1 (fun _ => rfl) rfl ?_)
  refine EvQ.call rfl X.al nw ?_
  rintro _ hp1 ⟨rfl, hS, rfl⟩
  repeat (first | refine EvQ.run ?_ | refine EvQ.fin X.rs ?_ | refine EvQ.fin1 (fun _ => rfl) rfl ?_)
  refine EvQ.loop (bnd_loop h0.next n l hl hA _ hS ?_ _ ?_ _ ?_) ?_
  · exact Nat.zero_le _
  · exact X.lo
  · exact X.kv
  rintro _ ⟨tm, lo, hp2, rfl, -⟩
  repeat (first | refine EvQ.run ?_ | refine EvQ.lift (fun _ zn => X.pcall (sr) X.cq rfl X.al rfl zn) ?_ | refine EvQ.lift (fun _ zn => X.pcallG (sr) rfl X.cq rfl X.al rfl zn) ?_ | refine EvQ.lift (fun _ zn => X.pcallC (sr) rfl X.cq rfl X.al rfl zn) ?_ | refine EvQ.lift (fun _ zn => X.pcallT (sr) (by decide) X.cq rfl X.al rfl zn) ?_ | refine EvQ.lift (fun _ zn => X.call rfl X.al (sr) zn) ?_ | refine EvQ.fin X.rs ?_ | refine EvQ.fin1 (fun _ => rfl) rfl ?_)
  exact ⟨_, rfl⟩
end Go.Proofs.Ytddohjlkjakdlaa
