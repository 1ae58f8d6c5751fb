import Derived.Test.YtddohjlkjakdlaaEvE
import Derived.Test.YtddohjlkjakdlaaPly6
set_option linter.unusedVariables false
set_option linter.unusedSimpArgs false
set_option linter.unusedSectionVars false
-- StorePlays: the loop (EvHp EvOwn)
namespace Go.Proofs.Ytddohjlkjakdlaa
open Go hiding Fn
open Ev tab
attribute [local irreducible] EvP EvD EvL EvC evGds evLs C.run sK bK gK pK fK lpB stepD matchS
structure PlyJ (s w n i : Nat) (lo : Lo) (hp : Hp) : Prop where
  lo : shed [9, 10, 12, 14, 16] lo = fun _ => none
  i : i ≤ 40
  ex : ∃ v u L, TwoJ hp s w n v u L
  ll : hp.lim ≤ hp.next
theorem light_jok {a : Ak} (h : lgB a = true) : JOK a.q.fs := by
  unfold lgB at h
  simp only [Bool.and_eq_true] at h
  exact lkB_jok h.2.1
set_option maxHeartbeats 128000000 in
theorem ply_loop (s w n : Nat) (l : List Ak) (hl : l.length ≤ 2000000) (hA : ∀ a, a ∈ l → AOK a) (hp0 : Hp) (hT0 : TwoJ hp0 s w n .ns .ns []) (hl0 : hp0.lim ≤ hp0.next) (lo : Lo) (hlo : shed [9, 10, 12, 14, 16] lo = fun _ => none) (tm : Tm)
    (hk : [1, 5, 7, 8].map (fun x => (x, tm x)) = [(1, .vs 20 (aks l)), (5, .pt s 0 0), (7, .pt w 0 0), (8, .it .i64 (Int.ofNat 0))]) :
    ∃ r, EvL F [1, 5, 7, 8] [9, 10, 12, 14, 16] (lpB (d7.body.lps.getD 0 .skip)) ⟨tm, lo, hp0⟩ r ∧ XtQ 0 [] (fun lo hp => True) r := by
  refine EvL.invQ (S := Nat) (fun i => [(1, .vs 20 (aks l)), (5, .pt s 0 0), (7, .pt w 0 0), (8, .it .i64 (Int.ofNat i))])
    (fun i lo hp => PlyJ s w n i lo hp) (fun i => 40 - i) _ ?_ 0 tm lo hp0 ⟨hlo, Nat.zero_le _, ⟨.ns, .ns, [], hT0⟩, hl0⟩ hk
  intro i lo hp ⟨e1, e2, ⟨v, u, L, hTT⟩, hll⟩
  rw [e1]
  have hil := aks_length l
  by_cases hc : i < l.length ∧ i < 40
  · obtain ⟨h1, h2⟩ := hc
    have hge := aks_getD h1
    have hA := hA (l.getD i a0) (by rw [List.getD, List.getElem?_eq_getElem h1]; exact List.getElem_mem _)
    generalize l.getD i a0 = a at *
    have lg := light_ok a hA.f1 hA.f2 hA.f3 (by have := hA.k3; omega)
    have cA := rowAk_clo a
    cases hb : lgB a with
    | false =>
      rw [hb] at lg
      repeat (first | refine EvQ.run ?_ | refine EvQ.lift (fun _ zn => X.pcall (lg) X.cq rfl X.al rfl zn) ?_ | refine EvQ.lift (fun _ zn => X.pcallG (lg) rfl X.cq rfl X.al rfl zn) ?_ | refine EvQ.lift (fun _ zn => X.pcallC (lg) rfl X.cq rfl X.al rfl zn) ?_ | refine EvQ.lift (fun _ zn => X.pcallT (lg) (by decide) X.cq rfl X.al rfl zn) ?_ | refine EvQ.lift (fun _ zn => X.call rfl X.al (lg) zn) ?_ | refine EvQ.fin X.rs ?_ | refine EvQ.fin1 (fun _ => rfl) rfl ?_)
      exact EvQ.go (i + 1) X.kv ⟨X.lo, by show i + 1 ≤ 40; omega, ⟨v, u, L, hTT⟩, hll⟩ (by show 40 - (i + 1) < 40 - i; omega)
    | true =>
      rw [hb] at lg
      have hE := light_eok hb hA.k1 hA.k2 hA.t
      have hQ : QOK a.q := ⟨light_jok hb, hA.q1, hA.q2, hA.q3⟩
      obtain ⟨k, e, q, key⟩ := a
      simp only at hE hQ
      have c3 := rowEn_clo e
      have c4 := rowRq_clo q
      by_cases k1 : k = 1
      · subst k1
        have cs := cost_ok e hE
        have rc := rcost_ok e hE
        have hce := hE.cost
        have pt := putS_ok (own := false) hp s v L n e hTT.a hE
        generalize costS e = C at *
        repeat (first | refine EvQ.run ?_ | refine EvQ.lift (fun _ zn => X.pcall (lg) X.cq rfl X.al rfl zn) ?_ | refine EvQ.lift (fun _ zn => X.pcallG (lg) rfl X.cq rfl X.al rfl zn) ?_ | refine EvQ.lift (fun _ zn => X.pcallC (lg) rfl X.cq rfl X.al rfl zn) ?_ | refine EvQ.lift (fun _ zn => X.pcallT (lg) (by decide) X.cq rfl X.al rfl zn) ?_ | refine EvQ.lift (fun _ zn => X.call rfl X.al (lg) zn) ?_ | refine EvQ.lift (fun _ zn => X.pcall (cs) X.cq rfl X.al rfl zn) ?_ | refine EvQ.lift (fun _ zn => X.pcallG (cs) rfl X.cq rfl X.al rfl zn) ?_ | refine EvQ.lift (fun _ zn => X.pcallC (cs) rfl X.cq rfl X.al rfl zn) ?_ | refine EvQ.lift (fun _ zn => X.pcallT (cs) (by decide) X.cq rfl X.al rfl zn) ?_ | refine EvQ.lift (fun _ zn => X.call rfl X.al (cs) zn) ?_ | refine EvQ.lift (fun _ zn => X.pcall (rc) X.cq rfl X.al rfl zn) ?_ | refine EvQ.lift (fun _ zn => X.pcallG (rc) rfl X.cq rfl X.al rfl zn) ?_ | refine EvQ.lift (fun _ zn => X.pcallC (rc) rfl X.cq rfl X.al rfl zn) ?_ | refine EvQ.lift (fun _ zn => X.pcallT (rc) (by decide) X.cq rfl X.al rfl zn) ?_ | refine EvQ.lift (fun _ zn => X.call rfl X.al (rc) zn) ?_ | refine EvQ.fin X.rs ?_ | refine EvQ.fin1 (fun _ => rfl) rfl ?_)
        refine EvQ_callU rfl X.al (fun _ => rfl) pt ?_
        rintro _ hp1 ⟨rfl, v1, hS1, f1⟩
        have rp := rput_ok (own := false) hp1 w u L n e (hTT.mid f1) hE
        repeat (first | refine EvQ.run ?_ | refine EvQ.fin X.rs ?_ | refine EvQ.fin1 (fun _ => rfl) rfl ?_)
        refine EvQ.call rfl X.al rp ?_
        rintro _ hp2 ⟨rfl, u1, hR2, f2⟩
        have hT := hTT.step hS1 f1 hR2 f2
        have hll2 : hp2.lim ≤ hp2.next := by rw [f2.lim, f1.lim]; have := f2.next; have := f1.next; omega
        generalize putB n e = B at *
        generalize putL L n e = L1 at *
        have hBB : (B == B) = true := by cases B <;> rfl
        cases B with
        | false =>
          have hlen := hT.r.len
          have hrl : (L1.map rowEn).length = L1.length := List.length_map _
          repeat (first | refine EvQ.run ?_ | refine EvQ.fin X.rs ?_ | refine EvQ.fin1 (fun _ => rfl) rfl ?_)
          refine EvQ.loop (pkeys_loop _ s w n i v1 u1 L1 l hT hll2 _ ?_ _ ?_) ?_
          · exact X.lo
          · exact X.kv
          rintro _ ⟨kv, tm9, lo9, hp9, rfl, rfl, hO9, hU9, hid9⟩
          have hT9 := hT.up hU9 (Nat.le_refl _)
          have hll9 : hp9.lim ≤ hp9.next := by rw [hU9.lim]; have := hU9.next; omega
          have hobj9 := hT9.r.obj
          have vl9 := hT9.r.o.lp
          have vc9 := hT9.r.o.cells
          have vk9 := hT9.r.o.keep
          have hnn9 := hT9.r.o.len
          rw [hrl] at hnn9
          have kl9 := hO9.lp
          have ln := len_ok (own := false) hp9 s v1 L1 n hT9.a
          have sz := size_ok (own := false) hp9 s v1 L1 n hT9.a
          have rs := rsize_ok (own := false) hp9 w u1 L1 n hT9.r
          have ks := keys_ok (own := false) hp9 s v1 L1 n hT9.a hll9
          have htot := hT9.a.tot
          have hbud := hT9.a.bud
          generalize totS L1 = T at *
          repeat (first | refine EvQ.run ?_ | refine EvQ.fin X.rs ?_ | refine EvQ.fin1 (fun _ => rfl) rfl ?_)
          refine EvQ.lift (fun _ zn => X.call rfl X.al ln zn) ?_
          repeat (first | refine EvQ.run ?_ | refine EvQ.fin X.rs ?_ | refine EvQ.fin1 (fun _ => rfl) rfl ?_)
          refine EvQ.lift (fun _ zn => X.call rfl X.al sz zn) ?_
          repeat (first | refine EvQ.run ?_ | refine EvQ.fin X.rs ?_ | refine EvQ.fin1 (fun _ => rfl) rfl ?_)
          refine EvQ.lift (fun _ zn => X.call rfl X.al rs zn) ?_
          repeat (first | refine EvQ.run ?_ | refine EvQ.fin X.rs ?_ | refine EvQ.fin1 (fun _ => rfl) rfl ?_)
          refine EvQ.call rfl X.al ks ?_
          rintro w5 hp5 ⟨hw5, hU5, hid5⟩
          have hO5 := hO9.up hU5 (fun id q => hO9.lt id q)
          have wl5 := hw5.lp
          have st := sameT_ok (keysE L1) (keysE L1) (by rw [List.length_map]; omega) (by rw [List.length_map]; omega)
          rw [eqT_eq, decide_eq_true rfl] at st
          have hz : (txs (keysE L1)).length ≤ 200000 := by rw [txs_length, List.length_map]; omega
          obtain ⟨hp6, cc1, z1⟩ := hw5.sl.close (ts := [.one]) (txs_clo _) (Nat.le_trans (Nat.add_le_add_right (Nat.add_le_add_right hz 1) 3) (by decide : 200000 + 1 + 3 ≤ 100000000))
          have hO6 := hO5.fz z1 (fun id q q2 => by have := hid5 id q2; have := hO9.lt id q; omega)
          obtain ⟨hp7, cc2, z2⟩ := hO6.sl.close (ts := [.one]) (txs_clo _) (Nat.le_trans (Nat.add_le_add_right (Nat.add_le_add_right hz 1) 3) (by decide : 200000 + 1 + 3 ≤ 100000000))
          have hT7 : TwoJ hp7 s w n v1 u1 L1 := by
            have hT5 := hT9.up hU5 (Nat.le_refl _)
            have hlt9 := hT9.lt
            have hlt2 := hT.lt
            refine hT5.kp (by rw [z2.next, z1.next]; exact Nat.le_refl _) (by rw [z2.lim, z1.lim]) fun j q => ?_
            have q9 := hlt9 j q
            have q2 := hlt2 j q
            obtain ⟨bk, e⟩ : ∃ bk, hget hp5 j = some bk := by
              rcases q with (rfl | q) | (rfl | q)
              · exact ⟨_, hT5.a.obj⟩
              · rcases hT5.a.o with ⟨rfl, _⟩ | ⟨id, rfl, _, _, q3⟩
                · cases q
                · cases q; exact ⟨_, q3⟩
              · exact ⟨_, hT5.r.obj⟩
              · rcases hT5.r.o with ⟨rfl, _⟩ | ⟨id, rfl, _, _, q3⟩
                · cases q
                · cases q; exact ⟨_, q3⟩
            rw [e]
            refine z2.old (z1.old e fun q => ?_) fun q => ?_
            · have := hid5 j q; omega
            · have := hid9 j q; omega
          have hll7 : hp7.lim ≤ hp7.next := by rw [z2.lim, z1.lim, hU5.lim, z2.next, z1.next]; have := hU5.next; omega
          repeat (first | refine EvQ.run ?_ | refine EvQ.fin X.rs ?_ | refine EvQ.fin1 (fun _ => rfl) rfl ?_)
          refine EvQ.lift (fun _ zn => X.pcall st (.c cc1 (.c cc2 (.nil _))) rfl X.al rfl zn) ?_
          repeat' (first | refine EvQ.run ?_ | (refine EvQ.pickB rfl rfl rfl ?_) | (refine EvQ.cond rfl (fun h => ?_) (fun h => ?_) <;> ((first | replace h := X.nm h | skip); try have hne := ne_len h)) | (refine EvQ.g1 rfl (fun h => ?_) (fun h => ?_) <;> ((first | replace h := X.nm h | skip); try have hne := ne_len h)) | (refine EvQ.pick rfl (fun _ => rfl) (fun _ => rfl) (fun h => ?_) (fun h => ?_) <;> ((first | replace h := X.nm h | skip); try have hne := ne_len h)) | refine EvQ.fin X.rs ?_ | refine EvQ.fin1 (fun _ => rfl) rfl ?_)
          exact EvQ.go (i + 1) X.kv ⟨X.lo, by show i + 1 ≤ 40; omega, ⟨v1, u1, L1, hT7⟩, hll7⟩ (by show 40 - (i + 1) < 40 - i; omega)
        | true =>
          have hlen := hT.r.len
          have hrl : (L1.map rowEn).length = L1.length := List.length_map _
          repeat (first | refine EvQ.run ?_ | refine EvQ.fin X.rs ?_ | refine EvQ.fin1 (fun _ => rfl) rfl ?_)
          refine EvQ.loop (pkeys_loop _ s w n i v1 u1 L1 l hT hll2 _ ?_ _ ?_) ?_
          · exact X.lo
          · exact X.kv
          rintro _ ⟨kv, tm9, lo9, hp9, rfl, rfl, hO9, hU9, hid9⟩
          have hT9 := hT.up hU9 (Nat.le_refl _)
          have hll9 : hp9.lim ≤ hp9.next := by rw [hU9.lim]; have := hU9.next; omega
          have hobj9 := hT9.r.obj
          have vl9 := hT9.r.o.lp
          have vc9 := hT9.r.o.cells
          have vk9 := hT9.r.o.keep
          have hnn9 := hT9.r.o.len
          rw [hrl] at hnn9
          have kl9 := hO9.lp
          have ln := len_ok (own := false) hp9 s v1 L1 n hT9.a
          have sz := size_ok (own := false) hp9 s v1 L1 n hT9.a
          have rs := rsize_ok (own := false) hp9 w u1 L1 n hT9.r
          have ks := keys_ok (own := false) hp9 s v1 L1 n hT9.a hll9
          have htot := hT9.a.tot
          have hbud := hT9.a.bud
          generalize totS L1 = T at *
          repeat (first | refine EvQ.run ?_ | refine EvQ.fin X.rs ?_ | refine EvQ.fin1 (fun _ => rfl) rfl ?_)
          refine EvQ.lift (fun _ zn => X.call rfl X.al ln zn) ?_
          repeat (first | refine EvQ.run ?_ | refine EvQ.fin X.rs ?_ | refine EvQ.fin1 (fun _ => rfl) rfl ?_)
          refine EvQ.lift (fun _ zn => X.call rfl X.al sz zn) ?_
          repeat (first | refine EvQ.run ?_ | refine EvQ.fin X.rs ?_ | refine EvQ.fin1 (fun _ => rfl) rfl ?_)
          refine EvQ.lift (fun _ zn => X.call rfl X.al rs zn) ?_
          repeat (first | refine EvQ.run ?_ | refine EvQ.fin X.rs ?_ | refine EvQ.fin1 (fun _ => rfl) rfl ?_)
          refine EvQ.call rfl X.al ks ?_
          rintro w5 hp5 ⟨hw5, hU5, hid5⟩
          have hO5 := hO9.up hU5 (fun id q => hO9.lt id q)
          have wl5 := hw5.lp
          have st := sameT_ok (keysE L1) (keysE L1) (by rw [List.length_map]; omega) (by rw [List.length_map]; omega)
          rw [eqT_eq, decide_eq_true rfl] at st
          have hz : (txs (keysE L1)).length ≤ 200000 := by rw [txs_length, List.length_map]; omega
          obtain ⟨hp6, cc1, z1⟩ := hw5.sl.close (ts := [.one]) (txs_clo _) (Nat.le_trans (Nat.add_le_add_right (Nat.add_le_add_right hz 1) 3) (by decide : 200000 + 1 + 3 ≤ 100000000))
          have hO6 := hO5.fz z1 (fun id q q2 => by have := hid5 id q2; have := hO9.lt id q; omega)
          obtain ⟨hp7, cc2, z2⟩ := hO6.sl.close (ts := [.one]) (txs_clo _) (Nat.le_trans (Nat.add_le_add_right (Nat.add_le_add_right hz 1) 3) (by decide : 200000 + 1 + 3 ≤ 100000000))
          have hT7 : TwoJ hp7 s w n v1 u1 L1 := by
            have hT5 := hT9.up hU5 (Nat.le_refl _)
            have hlt9 := hT9.lt
            have hlt2 := hT.lt
            refine hT5.kp (by rw [z2.next, z1.next]; exact Nat.le_refl _) (by rw [z2.lim, z1.lim]) fun j q => ?_
            have q9 := hlt9 j q
            have q2 := hlt2 j q
            obtain ⟨bk, e⟩ : ∃ bk, hget hp5 j = some bk := by
              rcases q with (rfl | q) | (rfl | q)
              · exact ⟨_, hT5.a.obj⟩
              · rcases hT5.a.o with ⟨rfl, _⟩ | ⟨id, rfl, _, _, q3⟩
                · cases q
                · cases q; exact ⟨_, q3⟩
              · exact ⟨_, hT5.r.obj⟩
              · rcases hT5.r.o with ⟨rfl, _⟩ | ⟨id, rfl, _, _, q3⟩
                · cases q
                · cases q; exact ⟨_, q3⟩
            rw [e]
            refine z2.old (z1.old e fun q => ?_) fun q => ?_
            · have := hid5 j q; omega
            · have := hid9 j q; omega
          have hll7 : hp7.lim ≤ hp7.next := by rw [z2.lim, z1.lim, hU5.lim, z2.next, z1.next]; have := hU5.next; omega
          repeat (first | refine EvQ.run ?_ | refine EvQ.fin X.rs ?_ | refine EvQ.fin1 (fun _ => rfl) rfl ?_)
          refine EvQ.lift (fun _ zn => X.pcall st (.c cc1 (.c cc2 (.nil _))) rfl X.al rfl zn) ?_
          repeat' (first | refine EvQ.run ?_ | (refine EvQ.pickB rfl rfl rfl ?_) | (refine EvQ.cond rfl (fun h => ?_) (fun h => ?_) <;> ((first | replace h := X.nm h | skip); try have hne := ne_len h)) | (refine EvQ.g1 rfl (fun h => ?_) (fun h => ?_) <;> ((first | replace h := X.nm h | skip); try have hne := ne_len h)) | (refine EvQ.pick rfl (fun _ => rfl) (fun _ => rfl) (fun h => ?_) (fun h => ?_) <;> ((first | replace h := X.nm h | skip); try have hne := ne_len h)) | refine EvQ.fin X.rs ?_ | refine EvQ.fin1 (fun _ => rfl) rfl ?_)
          exact EvQ.go (i + 1) X.kv ⟨X.lo, by show i + 1 ≤ 40; omega, ⟨v1, u1, L1, hT7⟩, hll7⟩ (by show 40 - (i + 1) < 40 - i; omega)
      · by_cases k2 : k = 2
        · subst k2
          have gt := get_ok (own := false) hp s v L n q hTT.a hQ
          repeat (first | refine EvQ.run ?_ | refine EvQ.lift (fun _ zn => X.pcall (lg) X.cq rfl X.al rfl zn) ?_ | refine EvQ.lift (fun _ zn => X.pcallG (lg) rfl X.cq rfl X.al rfl zn) ?_ | refine EvQ.lift (fun _ zn => X.pcallC (lg) rfl X.cq rfl X.al rfl zn) ?_ | refine EvQ.lift (fun _ zn => X.pcallT (lg) (by decide) X.cq rfl X.al rfl zn) ?_ | refine EvQ.lift (fun _ zn => X.call rfl X.al (lg) zn) ?_ | refine EvQ.fin X.rs ?_ | refine EvQ.fin1 (fun _ => rfl) rfl ?_)
          refine EvQ.call rfl X.al gt ?_
          rintro _ hp1 ⟨rfl, v1, hS1, f1⟩
          have rg := rget_ok (own := false) hp1 w u L n q (hTT.mid f1) hQ
          cases ho : idxS L q with
          | none =>
            rw [ho] at rg hS1
            have e7 : hitV L none = .tu [.ag zEn, .bo false] := rfl
            rw [e7] at rg ⊢
            repeat (first | refine EvQ.run ?_ | refine EvQ.fin X.rs ?_ | refine EvQ.fin1 (fun _ => rfl) rfl ?_)
            refine EvQ.call rfl X.al rg ?_
            rintro _ hp2 ⟨rfl, u1, hR2, f2⟩
            have hT := hTT.step hS1 f1 hR2 f2
            have hll2 : hp2.lim ≤ hp2.next := by rw [f2.lim, f1.lim]; have := f2.next; have := f1.next; omega
            generalize gotL L none = L1 at *
            have en := entR_ok (own := false) hp2 e0 e0 .ns .ns .ns .ns (.inl ⟨rfl, rfl⟩) (.inl ⟨rfl, rfl⟩) (.inl ⟨rfl, rfl⟩) (.inl ⟨rfl, rfl⟩) (by show 0 ≤ _; omega) (by show 0 ≤ _; omega) (by show 0 ≤ _; omega) (by show 0 ≤ _; omega)
            rw [eqEn_self'] at en
            repeat (first | refine EvQ.run ?_ | refine EvQ.lift (fun _ zn => X.pcall (en) X.cq rfl X.al rfl zn) ?_ | refine EvQ.lift (fun _ zn => X.pcallG (en) rfl X.cq rfl X.al rfl zn) ?_ | refine EvQ.lift (fun _ zn => X.pcallC (en) rfl X.cq rfl X.al rfl zn) ?_ | refine EvQ.lift (fun _ zn => X.pcallT (en) (by decide) X.cq rfl X.al rfl zn) ?_ | refine EvQ.lift (fun _ zn => X.call rfl X.al (en) zn) ?_ | refine EvQ.fin X.rs ?_ | refine EvQ.fin1 (fun _ => rfl) rfl ?_)
            have hlen := hT.r.len
            have hrl : (L1.map rowEn).length = L1.length := List.length_map _
            repeat (first | refine EvQ.run ?_ | refine EvQ.fin X.rs ?_ | refine EvQ.fin1 (fun _ => rfl) rfl ?_)
            refine EvQ.loop (pkeys_loop _ s w n i v1 u1 L1 l hT hll2 _ ?_ _ ?_) ?_
            · exact X.lo
            · exact X.kv
            rintro _ ⟨kv, tm9, lo9, hp9, rfl, rfl, hO9, hU9, hid9⟩
            have hT9 := hT.up hU9 (Nat.le_refl _)
            have hll9 : hp9.lim ≤ hp9.next := by rw [hU9.lim]; have := hU9.next; omega
            have hobj9 := hT9.r.obj
            have vl9 := hT9.r.o.lp
            have vc9 := hT9.r.o.cells
            have vk9 := hT9.r.o.keep
            have hnn9 := hT9.r.o.len
            rw [hrl] at hnn9
            have kl9 := hO9.lp
            have ln := len_ok (own := false) hp9 s v1 L1 n hT9.a
            have sz := size_ok (own := false) hp9 s v1 L1 n hT9.a
            have rs := rsize_ok (own := false) hp9 w u1 L1 n hT9.r
            have ks := keys_ok (own := false) hp9 s v1 L1 n hT9.a hll9
            have htot := hT9.a.tot
            have hbud := hT9.a.bud
            generalize totS L1 = T at *
            repeat (first | refine EvQ.run ?_ | refine EvQ.fin X.rs ?_ | refine EvQ.fin1 (fun _ => rfl) rfl ?_)
            refine EvQ.lift (fun _ zn => X.call rfl X.al ln zn) ?_
            repeat (first | refine EvQ.run ?_ | refine EvQ.fin X.rs ?_ | refine EvQ.fin1 (fun _ => rfl) rfl ?_)
            refine EvQ.lift (fun _ zn => X.call rfl X.al sz zn) ?_
            repeat (first | refine EvQ.run ?_ | refine EvQ.fin X.rs ?_ | refine EvQ.fin1 (fun _ => rfl) rfl ?_)
            refine EvQ.lift (fun _ zn => X.call rfl X.al rs zn) ?_
            repeat (first | refine EvQ.run ?_ | refine EvQ.fin X.rs ?_ | refine EvQ.fin1 (fun _ => rfl) rfl ?_)
            refine EvQ.call rfl X.al ks ?_
            rintro w5 hp5 ⟨hw5, hU5, hid5⟩
            have hO5 := hO9.up hU5 (fun id q => hO9.lt id q)
            have wl5 := hw5.lp
            have st := sameT_ok (keysE L1) (keysE L1) (by rw [List.length_map]; omega) (by rw [List.length_map]; omega)
            rw [eqT_eq, decide_eq_true rfl] at st
            have hz : (txs (keysE L1)).length ≤ 200000 := by rw [txs_length, List.length_map]; omega
            obtain ⟨hp6, cc1, z1⟩ := hw5.sl.close (ts := [.one]) (txs_clo _) (Nat.le_trans (Nat.add_le_add_right (Nat.add_le_add_right hz 1) 3) (by decide : 200000 + 1 + 3 ≤ 100000000))
            have hO6 := hO5.fz z1 (fun id q q2 => by have := hid5 id q2; have := hO9.lt id q; omega)
            obtain ⟨hp7, cc2, z2⟩ := hO6.sl.close (ts := [.one]) (txs_clo _) (Nat.le_trans (Nat.add_le_add_right (Nat.add_le_add_right hz 1) 3) (by decide : 200000 + 1 + 3 ≤ 100000000))
            have hT7 : TwoJ hp7 s w n v1 u1 L1 := by
              have hT5 := hT9.up hU5 (Nat.le_refl _)
              have hlt9 := hT9.lt
              have hlt2 := hT.lt
              refine hT5.kp (by rw [z2.next, z1.next]; exact Nat.le_refl _) (by rw [z2.lim, z1.lim]) fun j q => ?_
              have q9 := hlt9 j q
              have q2 := hlt2 j q
              obtain ⟨bk, e⟩ : ∃ bk, hget hp5 j = some bk := by
                rcases q with (rfl | q) | (rfl | q)
                · exact ⟨_, hT5.a.obj⟩
                · rcases hT5.a.o with ⟨rfl, _⟩ | ⟨id, rfl, _, _, q3⟩
                  · cases q
                  · cases q; exact ⟨_, q3⟩
                · exact ⟨_, hT5.r.obj⟩
                · rcases hT5.r.o with ⟨rfl, _⟩ | ⟨id, rfl, _, _, q3⟩
                  · cases q
                  · cases q; exact ⟨_, q3⟩
              rw [e]
              refine z2.old (z1.old e fun q => ?_) fun q => ?_
              · have := hid5 j q; omega
              · have := hid9 j q; omega
            have hll7 : hp7.lim ≤ hp7.next := by rw [z2.lim, z1.lim, hU5.lim, z2.next, z1.next]; have := hU5.next; omega
            repeat (first | refine EvQ.run ?_ | refine EvQ.fin X.rs ?_ | refine EvQ.fin1 (fun _ => rfl) rfl ?_)
            refine EvQ.lift (fun _ zn => X.pcall st (.c cc1 (.c cc2 (.nil _))) rfl X.al rfl zn) ?_
            repeat' (first | refine EvQ.run ?_ | (refine EvQ.pickB rfl rfl rfl ?_) | (refine EvQ.cond rfl (fun h => ?_) (fun h => ?_) <;> ((first | replace h := X.nm h | skip); try have hne := ne_len h)) | (refine EvQ.g1 rfl (fun h => ?_) (fun h => ?_) <;> ((first | replace h := X.nm h | skip); try have hne := ne_len h)) | (refine EvQ.pick rfl (fun _ => rfl) (fun _ => rfl) (fun h => ?_) (fun h => ?_) <;> ((first | replace h := X.nm h | skip); try have hne := ne_len h)) | refine EvQ.fin X.rs ?_ | refine EvQ.fin1 (fun _ => rfl) rfl ?_)
            exact EvQ.go (i + 1) X.kv ⟨X.lo, by show i + 1 ≤ 40; omega, ⟨v1, u1, L1, hT7⟩, hll7⟩ (by show 40 - (i + 1) < 40 - i; omega)
          | some m =>
            rw [ho] at rg hS1
            obtain ⟨hm, -⟩ := idxS_some ho
            have hE2 := hTT.a.ok _ (mem_getD hm)
            have e7 : hitV L (some m) = .tu [.ag (rowEn (L.getD m e0)), .bo true] := rfl
            rw [e7] at rg ⊢
            generalize L.getD m e0 = eh at *
            repeat (first | refine EvQ.run ?_ | refine EvQ.fin X.rs ?_ | refine EvQ.fin1 (fun _ => rfl) rfl ?_)
            refine EvQ.call rfl X.al rg ?_
            rintro _ hp2 ⟨rfl, u1, hR2, f2⟩
            have hT := hTT.step hS1 f1 hR2 f2
            have hll2 : hp2.lim ≤ hp2.next := by rw [f2.lim, f1.lim]; have := f2.next; have := f1.next; omega
            generalize gotL L (some m) = L1 at *
            have en := entR_ok (own := false) hp2 eh eh (.vs 2 (fds eh.q.fs)) (.vs 2 (fds eh.q.fs)) (.vs 2 (fds eh.s.fs)) (.vs 2 (fds eh.s.fs)) .vs .vs .vs .vs (by have := hE2.q.f.1; omega) (by have := hE2.q.f.1; omega) (by have := hE2.s.1; omega) (by have := hE2.s.1; omega)
            rw [eqEn_self'] at en
            repeat (first | refine EvQ.run ?_ | refine EvQ.lift (fun _ zn => X.pcall (en) X.cq rfl X.al rfl zn) ?_ | refine EvQ.lift (fun _ zn => X.pcallG (en) rfl X.cq rfl X.al rfl zn) ?_ | refine EvQ.lift (fun _ zn => X.pcallC (en) rfl X.cq rfl X.al rfl zn) ?_ | refine EvQ.lift (fun _ zn => X.pcallT (en) (by decide) X.cq rfl X.al rfl zn) ?_ | refine EvQ.lift (fun _ zn => X.call rfl X.al (en) zn) ?_ | refine EvQ.fin X.rs ?_ | refine EvQ.fin1 (fun _ => rfl) rfl ?_)
            have hlen := hT.r.len
            have hrl : (L1.map rowEn).length = L1.length := List.length_map _
            repeat (first | refine EvQ.run ?_ | refine EvQ.fin X.rs ?_ | refine EvQ.fin1 (fun _ => rfl) rfl ?_)
            refine EvQ.loop (pkeys_loop _ s w n i v1 u1 L1 l hT hll2 _ ?_ _ ?_) ?_
            · exact X.lo
            · exact X.kv
            rintro _ ⟨kv, tm9, lo9, hp9, rfl, rfl, hO9, hU9, hid9⟩
            have hT9 := hT.up hU9 (Nat.le_refl _)
            have hll9 : hp9.lim ≤ hp9.next := by rw [hU9.lim]; have := hU9.next; omega
            have hobj9 := hT9.r.obj
            have vl9 := hT9.r.o.lp
            have vc9 := hT9.r.o.cells
            have vk9 := hT9.r.o.keep
            have hnn9 := hT9.r.o.len
            rw [hrl] at hnn9
            have kl9 := hO9.lp
            have ln := len_ok (own := false) hp9 s v1 L1 n hT9.a
            have sz := size_ok (own := false) hp9 s v1 L1 n hT9.a
            have rs := rsize_ok (own := false) hp9 w u1 L1 n hT9.r
            have ks := keys_ok (own := false) hp9 s v1 L1 n hT9.a hll9
            have htot := hT9.a.tot
            have hbud := hT9.a.bud
            generalize totS L1 = T at *
            repeat (first | refine EvQ.run ?_ | refine EvQ.fin X.rs ?_ | refine EvQ.fin1 (fun _ => rfl) rfl ?_)
            refine EvQ.lift (fun _ zn => X.call rfl X.al ln zn) ?_
            repeat (first | refine EvQ.run ?_ | refine EvQ.fin X.rs ?_ | refine EvQ.fin1 (fun _ => rfl) rfl ?_)
            refine EvQ.lift (fun _ zn => X.call rfl X.al sz zn) ?_
            repeat (first | refine EvQ.run ?_ | refine EvQ.fin X.rs ?_ | refine EvQ.fin1 (fun _ => rfl) rfl ?_)
            refine EvQ.lift (fun _ zn => X.call rfl X.al rs zn) ?_
            repeat (first | refine EvQ.run ?_ | refine EvQ.fin X.rs ?_ | refine EvQ.fin1 (fun _ => rfl) rfl ?_)
            refine EvQ.call rfl X.al ks ?_
            rintro w5 hp5 ⟨hw5, hU5, hid5⟩
            have hO5 := hO9.up hU5 (fun id q => hO9.lt id q)
            have wl5 := hw5.lp
            have st := sameT_ok (keysE L1) (keysE L1) (by rw [List.length_map]; omega) (by rw [List.length_map]; omega)
            rw [eqT_eq, decide_eq_true rfl] at st
            have hz : (txs (keysE L1)).length ≤ 200000 := by rw [txs_length, List.length_map]; omega
            obtain ⟨hp6, cc1, z1⟩ := hw5.sl.close (ts := [.one]) (txs_clo _) (Nat.le_trans (Nat.add_le_add_right (Nat.add_le_add_right hz 1) 3) (by decide : 200000 + 1 + 3 ≤ 100000000))
            have hO6 := hO5.fz z1 (fun id q q2 => by have := hid5 id q2; have := hO9.lt id q; omega)
            obtain ⟨hp7, cc2, z2⟩ := hO6.sl.close (ts := [.one]) (txs_clo _) (Nat.le_trans (Nat.add_le_add_right (Nat.add_le_add_right hz 1) 3) (by decide : 200000 + 1 + 3 ≤ 100000000))
            have hT7 : TwoJ hp7 s w n v1 u1 L1 := by
              have hT5 := hT9.up hU5 (Nat.le_refl _)
              have hlt9 := hT9.lt
              have hlt2 := hT.lt
              refine hT5.kp (by rw [z2.next, z1.next]; exact Nat.le_refl _) (by rw [z2.lim, z1.lim]) fun j q => ?_
              have q9 := hlt9 j q
              have q2 := hlt2 j q
              obtain ⟨bk, e⟩ : ∃ bk, hget hp5 j = some bk := by
                rcases q with (rfl | q) | (rfl | q)
                · exact ⟨_, hT5.a.obj⟩
                · rcases hT5.a.o with ⟨rfl, _⟩ | ⟨id, rfl, _, _, q3⟩
                  · cases q
                  · cases q; exact ⟨_, q3⟩
                · exact ⟨_, hT5.r.obj⟩
                · rcases hT5.r.o with ⟨rfl, _⟩ | ⟨id, rfl, _, _, q3⟩
                  · cases q
                  · cases q; exact ⟨_, q3⟩
              rw [e]
              refine z2.old (z1.old e fun q => ?_) fun q => ?_
              · have := hid5 j q; omega
              · have := hid9 j q; omega
            have hll7 : hp7.lim ≤ hp7.next := by rw [z2.lim, z1.lim, hU5.lim, z2.next, z1.next]; have := hU5.next; omega
            repeat (first | refine EvQ.run ?_ | refine EvQ.fin X.rs ?_ | refine EvQ.fin1 (fun _ => rfl) rfl ?_)
            refine EvQ.lift (fun _ zn => X.pcall st (.c cc1 (.c cc2 (.nil _))) rfl X.al rfl zn) ?_
            repeat' (first | refine EvQ.run ?_ | (refine EvQ.pickB rfl rfl rfl ?_) | (refine EvQ.cond rfl (fun h => ?_) (fun h => ?_) <;> ((first | replace h := X.nm h | skip); try have hne := ne_len h)) | (refine EvQ.g1 rfl (fun h => ?_) (fun h => ?_) <;> ((first | replace h := X.nm h | skip); try have hne := ne_len h)) | (refine EvQ.pick rfl (fun _ => rfl) (fun _ => rfl) (fun h => ?_) (fun h => ?_) <;> ((first | replace h := X.nm h | skip); try have hne := ne_len h)) | refine EvQ.fin X.rs ?_ | refine EvQ.fin1 (fun _ => rfl) rfl ?_)
            exact EvQ.go (i + 1) X.kv ⟨X.lo, by show i + 1 ≤ 40; omega, ⟨v1, u1, L1, hT7⟩, hll7⟩ (by show 40 - (i + 1) < 40 - i; omega)
        · by_cases k3 : k = 3
          · subst k3
            have gt := peek_ok (own := false) hp s v L n q hTT.a hQ
            have rg := rpeek_ok (own := false) hp w u L n q hTT.r hQ
            cases ho : idxS L q with
            | none =>
              rw [ho] at rg gt
              have e7 : hitV L none = .tu [.ag zEn, .bo false] := rfl
              rw [e7] at rg gt
              repeat (first | refine EvQ.run ?_ | refine EvQ.lift (fun _ zn => X.pcall (lg) X.cq rfl X.al rfl zn) ?_ | refine EvQ.lift (fun _ zn => X.pcallG (lg) rfl X.cq rfl X.al rfl zn) ?_ | refine EvQ.lift (fun _ zn => X.pcallC (lg) rfl X.cq rfl X.al rfl zn) ?_ | refine EvQ.lift (fun _ zn => X.pcallT (lg) (by decide) X.cq rfl X.al rfl zn) ?_ | refine EvQ.lift (fun _ zn => X.call rfl X.al (lg) zn) ?_ | refine EvQ.fin X.rs ?_ | refine EvQ.fin1 (fun _ => rfl) rfl ?_)
              refine EvQ.call rfl X.al gt ?_
              rintro _ _ ⟨rfl, q9⟩
              rw [q9]
              repeat (first | refine EvQ.run ?_ | refine EvQ.fin X.rs ?_ | refine EvQ.fin1 (fun _ => rfl) rfl ?_)
              refine EvQ.call rfl X.al rg ?_
              rintro _ _ ⟨rfl, q9⟩
              rw [q9]
              have hT := hTT
              have hll2 := hll
              have en := entR_ok (own := false) hp e0 e0 .ns .ns .ns .ns (.inl ⟨rfl, rfl⟩) (.inl ⟨rfl, rfl⟩) (.inl ⟨rfl, rfl⟩) (.inl ⟨rfl, rfl⟩) (by show 0 ≤ _; omega) (by show 0 ≤ _; omega) (by show 0 ≤ _; omega) (by show 0 ≤ _; omega)
              rw [eqEn_self'] at en
              generalize hL1 : L = L1 at *
              generalize hv1 : v = v1 at *
              generalize hu1 : u = u1 at *
              repeat (first | refine EvQ.run ?_ | refine EvQ.lift (fun _ zn => X.pcall (en) X.cq rfl X.al rfl zn) ?_ | refine EvQ.lift (fun _ zn => X.pcallG (en) rfl X.cq rfl X.al rfl zn) ?_ | refine EvQ.lift (fun _ zn => X.pcallC (en) rfl X.cq rfl X.al rfl zn) ?_ | refine EvQ.lift (fun _ zn => X.pcallT (en) (by decide) X.cq rfl X.al rfl zn) ?_ | refine EvQ.lift (fun _ zn => X.call rfl X.al (en) zn) ?_ | refine EvQ.fin X.rs ?_ | refine EvQ.fin1 (fun _ => rfl) rfl ?_)
              have hlen := hT.r.len
              have hrl : (L1.map rowEn).length = L1.length := List.length_map _
              repeat (first | refine EvQ.run ?_ | refine EvQ.fin X.rs ?_ | refine EvQ.fin1 (fun _ => rfl) rfl ?_)
              refine EvQ.loop (pkeys_loop _ s w n i v1 u1 L1 l hT hll2 _ ?_ _ ?_) ?_
              · exact X.lo
              · exact X.kv
              rintro _ ⟨kv, tm9, lo9, hp9, rfl, rfl, hO9, hU9, hid9⟩
              have hT9 := hT.up hU9 (Nat.le_refl _)
              have hll9 : hp9.lim ≤ hp9.next := by rw [hU9.lim]; have := hU9.next; omega
              have hobj9 := hT9.r.obj
              have vl9 := hT9.r.o.lp
              have vc9 := hT9.r.o.cells
              have vk9 := hT9.r.o.keep
              have hnn9 := hT9.r.o.len
              rw [hrl] at hnn9
              have kl9 := hO9.lp
              have ln := len_ok (own := false) hp9 s v1 L1 n hT9.a
              have sz := size_ok (own := false) hp9 s v1 L1 n hT9.a
              have rs := rsize_ok (own := false) hp9 w u1 L1 n hT9.r
              have ks := keys_ok (own := false) hp9 s v1 L1 n hT9.a hll9
              have htot := hT9.a.tot
              have hbud := hT9.a.bud
              generalize totS L1 = T at *
              repeat (first | refine EvQ.run ?_ | refine EvQ.fin X.rs ?_ | refine EvQ.fin1 (fun _ => rfl) rfl ?_)
              refine EvQ.lift (fun _ zn => X.call rfl X.al ln zn) ?_
              repeat (first | refine EvQ.run ?_ | refine EvQ.fin X.rs ?_ | refine EvQ.fin1 (fun _ => rfl) rfl ?_)
              refine EvQ.lift (fun _ zn => X.call rfl X.al sz zn) ?_
              repeat (first | refine EvQ.run ?_ | refine EvQ.fin X.rs ?_ | refine EvQ.fin1 (fun _ => rfl) rfl ?_)
              refine EvQ.lift (fun _ zn => X.call rfl X.al rs zn) ?_
              repeat (first | refine EvQ.run ?_ | refine EvQ.fin X.rs ?_ | refine EvQ.fin1 (fun _ => rfl) rfl ?_)
              refine EvQ.call rfl X.al ks ?_
              rintro w5 hp5 ⟨hw5, hU5, hid5⟩
              have hO5 := hO9.up hU5 (fun id q => hO9.lt id q)
              have wl5 := hw5.lp
              have st := sameT_ok (keysE L1) (keysE L1) (by rw [List.length_map]; omega) (by rw [List.length_map]; omega)
              rw [eqT_eq, decide_eq_true rfl] at st
              have hz : (txs (keysE L1)).length ≤ 200000 := by rw [txs_length, List.length_map]; omega
              obtain ⟨hp6, cc1, z1⟩ := hw5.sl.close (ts := [.one]) (txs_clo _) (Nat.le_trans (Nat.add_le_add_right (Nat.add_le_add_right hz 1) 3) (by decide : 200000 + 1 + 3 ≤ 100000000))
              have hO6 := hO5.fz z1 (fun id q q2 => by have := hid5 id q2; have := hO9.lt id q; omega)
              obtain ⟨hp7, cc2, z2⟩ := hO6.sl.close (ts := [.one]) (txs_clo _) (Nat.le_trans (Nat.add_le_add_right (Nat.add_le_add_right hz 1) 3) (by decide : 200000 + 1 + 3 ≤ 100000000))
              have hT7 : TwoJ hp7 s w n v1 u1 L1 := by
                have hT5 := hT9.up hU5 (Nat.le_refl _)
                have hlt9 := hT9.lt
                have hlt2 := hT.lt
                refine hT5.kp (by rw [z2.next, z1.next]; exact Nat.le_refl _) (by rw [z2.lim, z1.lim]) fun j q => ?_
                have q9 := hlt9 j q
                have q2 := hlt2 j q
                obtain ⟨bk, e⟩ : ∃ bk, hget hp5 j = some bk := by
                  rcases q with (rfl | q) | (rfl | q)
                  · exact ⟨_, hT5.a.obj⟩
                  · rcases hT5.a.o with ⟨rfl, _⟩ | ⟨id, rfl, _, _, q3⟩
                    · cases q
                    · cases q; exact ⟨_, q3⟩
                  · exact ⟨_, hT5.r.obj⟩
                  · rcases hT5.r.o with ⟨rfl, _⟩ | ⟨id, rfl, _, _, q3⟩
                    · cases q
                    · cases q; exact ⟨_, q3⟩
                rw [e]
                refine z2.old (z1.old e fun q => ?_) fun q => ?_
                · have := hid5 j q; omega
                · have := hid9 j q; omega
              have hll7 : hp7.lim ≤ hp7.next := by rw [z2.lim, z1.lim, hU5.lim, z2.next, z1.next]; have := hU5.next; omega
              repeat (first | refine EvQ.run ?_ | refine EvQ.fin X.rs ?_ | refine EvQ.fin1 (fun _ => rfl) rfl ?_)
              refine EvQ.lift (fun _ zn => X.pcall st (.c cc1 (.c cc2 (.nil _))) rfl X.al rfl zn) ?_
              repeat' (first | refine EvQ.run ?_ | (refine EvQ.pickB rfl rfl rfl ?_) | (refine EvQ.cond rfl (fun h => ?_) (fun h => ?_) <;> ((first | replace h := X.nm h | skip); try have hne := ne_len h)) | (refine EvQ.g1 rfl (fun h => ?_) (fun h => ?_) <;> ((first | replace h := X.nm h | skip); try have hne := ne_len h)) | (refine EvQ.pick rfl (fun _ => rfl) (fun _ => rfl) (fun h => ?_) (fun h => ?_) <;> ((first | replace h := X.nm h | skip); try have hne := ne_len h)) | refine EvQ.fin X.rs ?_ | refine EvQ.fin1 (fun _ => rfl) rfl ?_)
              exact EvQ.go (i + 1) X.kv ⟨X.lo, by show i + 1 ≤ 40; omega, ⟨v1, u1, L1, hT7⟩, hll7⟩ (by show 40 - (i + 1) < 40 - i; omega)
            | some m =>
              rw [ho] at rg gt
              obtain ⟨hm, -⟩ := idxS_some ho
              have hE2 := hTT.a.ok _ (mem_getD hm)
              have e7 : hitV L (some m) = .tu [.ag (rowEn (L.getD m e0)), .bo true] := rfl
              rw [e7] at rg gt
              generalize L.getD m e0 = eh at *
              repeat (first | refine EvQ.run ?_ | refine EvQ.lift (fun _ zn => X.pcall (lg) X.cq rfl X.al rfl zn) ?_ | refine EvQ.lift (fun _ zn => X.pcallG (lg) rfl X.cq rfl X.al rfl zn) ?_ | refine EvQ.lift (fun _ zn => X.pcallC (lg) rfl X.cq rfl X.al rfl zn) ?_ | refine EvQ.lift (fun _ zn => X.pcallT (lg) (by decide) X.cq rfl X.al rfl zn) ?_ | refine EvQ.lift (fun _ zn => X.call rfl X.al (lg) zn) ?_ | refine EvQ.fin X.rs ?_ | refine EvQ.fin1 (fun _ => rfl) rfl ?_)
              refine EvQ.call rfl X.al gt ?_
              rintro _ _ ⟨rfl, q9⟩
              rw [q9]
              repeat (first | refine EvQ.run ?_ | refine EvQ.fin X.rs ?_ | refine EvQ.fin1 (fun _ => rfl) rfl ?_)
              refine EvQ.call rfl X.al rg ?_
              rintro _ _ ⟨rfl, q9⟩
              rw [q9]
              have hT := hTT
              have hll2 := hll
              have en := entR_ok (own := false) hp eh eh (.vs 2 (fds eh.q.fs)) (.vs 2 (fds eh.q.fs)) (.vs 2 (fds eh.s.fs)) (.vs 2 (fds eh.s.fs)) .vs .vs .vs .vs (by have := hE2.q.f.1; omega) (by have := hE2.q.f.1; omega) (by have := hE2.s.1; omega) (by have := hE2.s.1; omega)
              rw [eqEn_self'] at en
              generalize hL1 : L = L1 at *
              generalize hv1 : v = v1 at *
              generalize hu1 : u = u1 at *
              repeat (first | refine EvQ.run ?_ | refine EvQ.lift (fun _ zn => X.pcall (en) X.cq rfl X.al rfl zn) ?_ | refine EvQ.lift (fun _ zn => X.pcallG (en) rfl X.cq rfl X.al rfl zn) ?_ | refine EvQ.lift (fun _ zn => X.pcallC (en) rfl X.cq rfl X.al rfl zn) ?_ | refine EvQ.lift (fun _ zn => X.pcallT (en) (by decide) X.cq rfl X.al rfl zn) ?_ | refine EvQ.lift (fun _ zn => X.call rfl X.al (en) zn) ?_ | refine EvQ.fin X.rs ?_ | refine EvQ.fin1 (fun _ => rfl) rfl ?_)
              have hlen := hT.r.len
              have hrl : (L1.map rowEn).length = L1.length := List.length_map _
              repeat (first | refine EvQ.run ?_ | refine EvQ.fin X.rs ?_ | refine EvQ.fin1 (fun _ => rfl) rfl ?_)
              refine EvQ.loop (pkeys_loop _ s w n i v1 u1 L1 l hT hll2 _ ?_ _ ?_) ?_
              · exact X.lo
              · exact X.kv
              rintro _ ⟨kv, tm9, lo9, hp9, rfl, rfl, hO9, hU9, hid9⟩
              have hT9 := hT.up hU9 (Nat.le_refl _)
              have hll9 : hp9.lim ≤ hp9.next := by rw [hU9.lim]; have := hU9.next; omega
              have hobj9 := hT9.r.obj
              have vl9 := hT9.r.o.lp
              have vc9 := hT9.r.o.cells
              have vk9 := hT9.r.o.keep
              have hnn9 := hT9.r.o.len
              rw [hrl] at hnn9
              have kl9 := hO9.lp
              have ln := len_ok (own := false) hp9 s v1 L1 n hT9.a
              have sz := size_ok (own := false) hp9 s v1 L1 n hT9.a
              have rs := rsize_ok (own := false) hp9 w u1 L1 n hT9.r
              have ks := keys_ok (own := false) hp9 s v1 L1 n hT9.a hll9
              have htot := hT9.a.tot
              have hbud := hT9.a.bud
              generalize totS L1 = T at *
              repeat (first | refine EvQ.run ?_ | refine EvQ.fin X.rs ?_ | refine EvQ.fin1 (fun _ => rfl) rfl ?_)
              refine EvQ.lift (fun _ zn => X.call rfl X.al ln zn) ?_
              repeat (first | refine EvQ.run ?_ | refine EvQ.fin X.rs ?_ | refine EvQ.fin1 (fun _ => rfl) rfl ?_)
              refine EvQ.lift (fun _ zn => X.call rfl X.al sz zn) ?_
              repeat (first | refine EvQ.run ?_ | refine EvQ.fin X.rs ?_ | refine EvQ.fin1 (fun _ => rfl) rfl ?_)
              refine EvQ.lift (fun _ zn => X.call rfl X.al rs zn) ?_
              repeat (first | refine EvQ.run ?_ | refine EvQ.fin X.rs ?_ | refine EvQ.fin1 (fun _ => rfl) rfl ?_)
              refine EvQ.call rfl X.al ks ?_
              rintro w5 hp5 ⟨hw5, hU5, hid5⟩
              have hO5 := hO9.up hU5 (fun id q => hO9.lt id q)
              have wl5 := hw5.lp
              have st := sameT_ok (keysE L1) (keysE L1) (by rw [List.length_map]; omega) (by rw [List.length_map]; omega)
              rw [eqT_eq, decide_eq_true rfl] at st
              have hz : (txs (keysE L1)).length ≤ 200000 := by rw [txs_length, List.length_map]; omega
              obtain ⟨hp6, cc1, z1⟩ := hw5.sl.close (ts := [.one]) (txs_clo _) (Nat.le_trans (Nat.add_le_add_right (Nat.add_le_add_right hz 1) 3) (by decide : 200000 + 1 + 3 ≤ 100000000))
              have hO6 := hO5.fz z1 (fun id q q2 => by have := hid5 id q2; have := hO9.lt id q; omega)
              obtain ⟨hp7, cc2, z2⟩ := hO6.sl.close (ts := [.one]) (txs_clo _) (Nat.le_trans (Nat.add_le_add_right (Nat.add_le_add_right hz 1) 3) (by decide : 200000 + 1 + 3 ≤ 100000000))
              have hT7 : TwoJ hp7 s w n v1 u1 L1 := by
                have hT5 := hT9.up hU5 (Nat.le_refl _)
                have hlt9 := hT9.lt
                have hlt2 := hT.lt
                refine hT5.kp (by rw [z2.next, z1.next]; exact Nat.le_refl _) (by rw [z2.lim, z1.lim]) fun j q => ?_
                have q9 := hlt9 j q
                have q2 := hlt2 j q
                obtain ⟨bk, e⟩ : ∃ bk, hget hp5 j = some bk := by
                  rcases q with (rfl | q) | (rfl | q)
                  · exact ⟨_, hT5.a.obj⟩
                  · rcases hT5.a.o with ⟨rfl, _⟩ | ⟨id, rfl, _, _, q3⟩
                    · cases q
                    · cases q; exact ⟨_, q3⟩
                  · exact ⟨_, hT5.r.obj⟩
                  · rcases hT5.r.o with ⟨rfl, _⟩ | ⟨id, rfl, _, _, q3⟩
                    · cases q
                    · cases q; exact ⟨_, q3⟩
                rw [e]
                refine z2.old (z1.old e fun q => ?_) fun q => ?_
                · have := hid5 j q; omega
                · have := hid9 j q; omega
              have hll7 : hp7.lim ≤ hp7.next := by rw [z2.lim, z1.lim, hU5.lim, z2.next, z1.next]; have := hU5.next; omega
              repeat (first | refine EvQ.run ?_ | refine EvQ.fin X.rs ?_ | refine EvQ.fin1 (fun _ => rfl) rfl ?_)
              refine EvQ.lift (fun _ zn => X.pcall st (.c cc1 (.c cc2 (.nil _))) rfl X.al rfl zn) ?_
              repeat' (first | refine EvQ.run ?_ | (refine EvQ.pickB rfl rfl rfl ?_) | (refine EvQ.cond rfl (fun h => ?_) (fun h => ?_) <;> ((first | replace h := X.nm h | skip); try have hne := ne_len h)) | (refine EvQ.g1 rfl (fun h => ?_) (fun h => ?_) <;> ((first | replace h := X.nm h | skip); try have hne := ne_len h)) | (refine EvQ.pick rfl (fun _ => rfl) (fun _ => rfl) (fun h => ?_) (fun h => ?_) <;> ((first | replace h := X.nm h | skip); try have hne := ne_len h)) | refine EvQ.fin X.rs ?_ | refine EvQ.fin1 (fun _ => rfl) rfl ?_)
              exact EvQ.go (i + 1) X.kv ⟨X.lo, by show i + 1 ≤ 40; omega, ⟨v1, u1, L1, hT7⟩, hll7⟩ (by show 40 - (i + 1) < 40 - i; omega)
          · by_cases k4 : k = 4
            · subst k4
              have rm := rem_ok (own := false) hp s v L n key hTT.a
              repeat (first | refine EvQ.run ?_ | refine EvQ.lift (fun _ zn => X.pcall (lg) X.cq rfl X.al rfl zn) ?_ | refine EvQ.lift (fun _ zn => X.pcallG (lg) rfl X.cq rfl X.al rfl zn) ?_ | refine EvQ.lift (fun _ zn => X.pcallC (lg) rfl X.cq rfl X.al rfl zn) ?_ | refine EvQ.lift (fun _ zn => X.pcallT (lg) (by decide) X.cq rfl X.al rfl zn) ?_ | refine EvQ.lift (fun _ zn => X.call rfl X.al (lg) zn) ?_ | refine EvQ.fin X.rs ?_ | refine EvQ.fin1 (fun _ => rfl) rfl ?_)
              refine EvQ_callU rfl X.al (fun _ => rfl) rm ?_
              rintro _ hp1 ⟨rfl, v1, hS1, f1⟩
              have rr := rrem_ok (own := false) hp1 w u L n key (hTT.mid f1)
              repeat (first | refine EvQ.run ?_ | refine EvQ.fin X.rs ?_ | refine EvQ.fin1 (fun _ => rfl) rfl ?_)
              refine EvQ.call rfl X.al rr ?_
              rintro _ hp2 ⟨rfl, u1, hR2, f2⟩
              have hT := hTT.step hS1 f1 hR2 f2
              have hll2 : hp2.lim ≤ hp2.next := by rw [f2.lim, f1.lim]; have := f2.next; have := f1.next; omega
              have hb0 : L.length - (siv (keyB key) L 0).length ≤ 200000 := by have := hTT.a.len; omega
              generalize L.length - (siv (keyB key) L 0).length = C at *
              generalize siv (keyB key) L 0 = L1 at *
              have hlen := hT.r.len
              have hrl : (L1.map rowEn).length = L1.length := List.length_map _
              repeat (first | refine EvQ.run ?_ | refine EvQ.fin X.rs ?_ | refine EvQ.fin1 (fun _ => rfl) rfl ?_)
              refine EvQ.loop (pkeys_loop _ s w n i v1 u1 L1 l hT hll2 _ ?_ _ ?_) ?_
              · exact X.lo
              · exact X.kv
              rintro _ ⟨kv, tm9, lo9, hp9, rfl, rfl, hO9, hU9, hid9⟩
              have hT9 := hT.up hU9 (Nat.le_refl _)
              have hll9 : hp9.lim ≤ hp9.next := by rw [hU9.lim]; have := hU9.next; omega
              have hobj9 := hT9.r.obj
              have vl9 := hT9.r.o.lp
              have vc9 := hT9.r.o.cells
              have vk9 := hT9.r.o.keep
              have hnn9 := hT9.r.o.len
              rw [hrl] at hnn9
              have kl9 := hO9.lp
              have ln := len_ok (own := false) hp9 s v1 L1 n hT9.a
              have sz := size_ok (own := false) hp9 s v1 L1 n hT9.a
              have rs := rsize_ok (own := false) hp9 w u1 L1 n hT9.r
              have ks := keys_ok (own := false) hp9 s v1 L1 n hT9.a hll9
              have htot := hT9.a.tot
              have hbud := hT9.a.bud
              generalize totS L1 = T at *
              repeat (first | refine EvQ.run ?_ | refine EvQ.fin X.rs ?_ | refine EvQ.fin1 (fun _ => rfl) rfl ?_)
              refine EvQ.lift (fun _ zn => X.call rfl X.al ln zn) ?_
              repeat (first | refine EvQ.run ?_ | refine EvQ.fin X.rs ?_ | refine EvQ.fin1 (fun _ => rfl) rfl ?_)
              refine EvQ.lift (fun _ zn => X.call rfl X.al sz zn) ?_
              repeat (first | refine EvQ.run ?_ | refine EvQ.fin X.rs ?_ | refine EvQ.fin1 (fun _ => rfl) rfl ?_)
              refine EvQ.lift (fun _ zn => X.call rfl X.al rs zn) ?_
              repeat (first | refine EvQ.run ?_ | refine EvQ.fin X.rs ?_ | refine EvQ.fin1 (fun _ => rfl) rfl ?_)
              refine EvQ.call rfl X.al ks ?_
              rintro w5 hp5 ⟨hw5, hU5, hid5⟩
              have hO5 := hO9.up hU5 (fun id q => hO9.lt id q)
              have wl5 := hw5.lp
              have st := sameT_ok (keysE L1) (keysE L1) (by rw [List.length_map]; omega) (by rw [List.length_map]; omega)
              rw [eqT_eq, decide_eq_true rfl] at st
              have hz : (txs (keysE L1)).length ≤ 200000 := by rw [txs_length, List.length_map]; omega
              obtain ⟨hp6, cc1, z1⟩ := hw5.sl.close (ts := [.one]) (txs_clo _) (Nat.le_trans (Nat.add_le_add_right (Nat.add_le_add_right hz 1) 3) (by decide : 200000 + 1 + 3 ≤ 100000000))
              have hO6 := hO5.fz z1 (fun id q q2 => by have := hid5 id q2; have := hO9.lt id q; omega)
              obtain ⟨hp7, cc2, z2⟩ := hO6.sl.close (ts := [.one]) (txs_clo _) (Nat.le_trans (Nat.add_le_add_right (Nat.add_le_add_right hz 1) 3) (by decide : 200000 + 1 + 3 ≤ 100000000))
              have hT7 : TwoJ hp7 s w n v1 u1 L1 := by
                have hT5 := hT9.up hU5 (Nat.le_refl _)
                have hlt9 := hT9.lt
                have hlt2 := hT.lt
                refine hT5.kp (by rw [z2.next, z1.next]; exact Nat.le_refl _) (by rw [z2.lim, z1.lim]) fun j q => ?_
                have q9 := hlt9 j q
                have q2 := hlt2 j q
                obtain ⟨bk, e⟩ : ∃ bk, hget hp5 j = some bk := by
                  rcases q with (rfl | q) | (rfl | q)
                  · exact ⟨_, hT5.a.obj⟩
                  · rcases hT5.a.o with ⟨rfl, _⟩ | ⟨id, rfl, _, _, q3⟩
                    · cases q
                    · cases q; exact ⟨_, q3⟩
                  · exact ⟨_, hT5.r.obj⟩
                  · rcases hT5.r.o with ⟨rfl, _⟩ | ⟨id, rfl, _, _, q3⟩
                    · cases q
                    · cases q; exact ⟨_, q3⟩
                rw [e]
                refine z2.old (z1.old e fun q => ?_) fun q => ?_
                · have := hid5 j q; omega
                · have := hid9 j q; omega
              have hll7 : hp7.lim ≤ hp7.next := by rw [z2.lim, z1.lim, hU5.lim, z2.next, z1.next]; have := hU5.next; omega
              repeat (first | refine EvQ.run ?_ | refine EvQ.fin X.rs ?_ | refine EvQ.fin1 (fun _ => rfl) rfl ?_)
              refine EvQ.lift (fun _ zn => X.pcall st (.c cc1 (.c cc2 (.nil _))) rfl X.al rfl zn) ?_
              repeat' (first | refine EvQ.run ?_ | (refine EvQ.pickB rfl rfl rfl ?_) | (refine EvQ.cond rfl (fun h => ?_) (fun h => ?_) <;> ((first | replace h := X.nm h | skip); try have hne := ne_len h)) | (refine EvQ.g1 rfl (fun h => ?_) (fun h => ?_) <;> ((first | replace h := X.nm h | skip); try have hne := ne_len h)) | (refine EvQ.pick rfl (fun _ => rfl) (fun _ => rfl) (fun h => ?_) (fun h => ?_) <;> ((first | replace h := X.nm h | skip); try have hne := ne_len h)) | refine EvQ.fin X.rs ?_ | refine EvQ.fin1 (fun _ => rfl) rfl ?_)
              exact EvQ.go (i + 1) X.kv ⟨X.lo, by show i + 1 ≤ 40; omega, ⟨v1, u1, L1, hT7⟩, hll7⟩ (by show 40 - (i + 1) < 40 - i; omega)
            · have hT := hTT
              have hll2 := hll
              generalize hL1 : L = L1 at *
              generalize hv1 : v = v1 at *
              generalize hu1 : u = u1 at *
              have z1 : ieq k (Int.ofNat 1) = false := by rw [ieqD]; exact decide_eq_false k1
              have z2 : ieq k (Int.ofNat 2) = false := by rw [ieqD]; exact decide_eq_false k2
              have z3 : ieq k (Int.ofNat 3) = false := by rw [ieqD]; exact decide_eq_false k3
              have z4 : ieq k (Int.ofNat 4) = false := by rw [ieqD]; exact decide_eq_false k4
              repeat (first | refine EvQ.run ?_ | refine EvQ.lift (fun _ zn => X.pcall (lg) X.cq rfl X.al rfl zn) ?_ | refine EvQ.lift (fun _ zn => X.pcallG (lg) rfl X.cq rfl X.al rfl zn) ?_ | refine EvQ.lift (fun _ zn => X.pcallC (lg) rfl X.cq rfl X.al rfl zn) ?_ | refine EvQ.lift (fun _ zn => X.pcallT (lg) (by decide) X.cq rfl X.al rfl zn) ?_ | refine EvQ.lift (fun _ zn => X.call rfl X.al (lg) zn) ?_ | refine EvQ.fin X.rs ?_ | refine EvQ.fin1 (fun _ => rfl) rfl ?_)
              have hlen := hT.r.len
              have hrl : (L1.map rowEn).length = L1.length := List.length_map _
              repeat (first | refine EvQ.run ?_ | refine EvQ.fin X.rs ?_ | refine EvQ.fin1 (fun _ => rfl) rfl ?_)
              refine EvQ.loop (pkeys_loop _ s w n i v1 u1 L1 l hT hll2 _ ?_ _ ?_) ?_
              · exact X.lo
              · exact X.kv
              rintro _ ⟨kv, tm9, lo9, hp9, rfl, rfl, hO9, hU9, hid9⟩
              have hT9 := hT.up hU9 (Nat.le_refl _)
              have hll9 : hp9.lim ≤ hp9.next := by rw [hU9.lim]; have := hU9.next; omega
              have hobj9 := hT9.r.obj
              have vl9 := hT9.r.o.lp
              have vc9 := hT9.r.o.cells
              have vk9 := hT9.r.o.keep
              have hnn9 := hT9.r.o.len
              rw [hrl] at hnn9
              have kl9 := hO9.lp
              have ln := len_ok (own := false) hp9 s v1 L1 n hT9.a
              have sz := size_ok (own := false) hp9 s v1 L1 n hT9.a
              have rs := rsize_ok (own := false) hp9 w u1 L1 n hT9.r
              have ks := keys_ok (own := false) hp9 s v1 L1 n hT9.a hll9
              have htot := hT9.a.tot
              have hbud := hT9.a.bud
              generalize totS L1 = T at *
              repeat (first | refine EvQ.run ?_ | refine EvQ.fin X.rs ?_ | refine EvQ.fin1 (fun _ => rfl) rfl ?_)
              refine EvQ.lift (fun _ zn => X.call rfl X.al ln zn) ?_
              repeat (first | refine EvQ.run ?_ | refine EvQ.fin X.rs ?_ | refine EvQ.fin1 (fun _ => rfl) rfl ?_)
              refine EvQ.lift (fun _ zn => X.call rfl X.al sz zn) ?_
              repeat (first | refine EvQ.run ?_ | refine EvQ.fin X.rs ?_ | refine EvQ.fin1 (fun _ => rfl) rfl ?_)
              refine EvQ.lift (fun _ zn => X.call rfl X.al rs zn) ?_
              repeat (first | refine EvQ.run ?_ | refine EvQ.fin X.rs ?_ | refine EvQ.fin1 (fun _ => rfl) rfl ?_)
              refine EvQ.call rfl X.al ks ?_
              rintro w5 hp5 ⟨hw5, hU5, hid5⟩
              have hO5 := hO9.up hU5 (fun id q => hO9.lt id q)
              have wl5 := hw5.lp
              have st := sameT_ok (keysE L1) (keysE L1) (by rw [List.length_map]; omega) (by rw [List.length_map]; omega)
              rw [eqT_eq, decide_eq_true rfl] at st
              have hz : (txs (keysE L1)).length ≤ 200000 := by rw [txs_length, List.length_map]; omega
              obtain ⟨hp6, cc1, z1⟩ := hw5.sl.close (ts := [.one]) (txs_clo _) (Nat.le_trans (Nat.add_le_add_right (Nat.add_le_add_right hz 1) 3) (by decide : 200000 + 1 + 3 ≤ 100000000))
              have hO6 := hO5.fz z1 (fun id q q2 => by have := hid5 id q2; have := hO9.lt id q; omega)
              obtain ⟨hp7, cc2, z2⟩ := hO6.sl.close (ts := [.one]) (txs_clo _) (Nat.le_trans (Nat.add_le_add_right (Nat.add_le_add_right hz 1) 3) (by decide : 200000 + 1 + 3 ≤ 100000000))
              have hT7 : TwoJ hp7 s w n v1 u1 L1 := by
                have hT5 := hT9.up hU5 (Nat.le_refl _)
                have hlt9 := hT9.lt
                have hlt2 := hT.lt
                refine hT5.kp (by rw [z2.next, z1.next]; exact Nat.le_refl _) (by rw [z2.lim, z1.lim]) fun j q => ?_
                have q9 := hlt9 j q
                have q2 := hlt2 j q
                obtain ⟨bk, e⟩ : ∃ bk, hget hp5 j = some bk := by
                  rcases q with (rfl | q) | (rfl | q)
                  · exact ⟨_, hT5.a.obj⟩
                  · rcases hT5.a.o with ⟨rfl, _⟩ | ⟨id, rfl, _, _, q3⟩
                    · cases q
                    · cases q; exact ⟨_, q3⟩
                  · exact ⟨_, hT5.r.obj⟩
                  · rcases hT5.r.o with ⟨rfl, _⟩ | ⟨id, rfl, _, _, q3⟩
                    · cases q
                    · cases q; exact ⟨_, q3⟩
                rw [e]
                refine z2.old (z1.old e fun q => ?_) fun q => ?_
                · have := hid5 j q; omega
                · have := hid9 j q; omega
              have hll7 : hp7.lim ≤ hp7.next := by rw [z2.lim, z1.lim, hU5.lim, z2.next, z1.next]; have := hU5.next; omega
              repeat (first | refine EvQ.run ?_ | refine EvQ.fin X.rs ?_ | refine EvQ.fin1 (fun _ => rfl) rfl ?_)
              refine EvQ.lift (fun _ zn => X.pcall st (.c cc1 (.c cc2 (.nil _))) rfl X.al rfl zn) ?_
              repeat' (first | refine EvQ.run ?_ | (refine EvQ.pickB rfl rfl rfl ?_) | (refine EvQ.cond rfl (fun h => ?_) (fun h => ?_) <;> ((first | replace h := X.nm h | skip); try have hne := ne_len h)) | (refine EvQ.g1 rfl (fun h => ?_) (fun h => ?_) <;> ((first | replace h := X.nm h | skip); try have hne := ne_len h)) | (refine EvQ.pick rfl (fun _ => rfl) (fun _ => rfl) (fun h => ?_) (fun h => ?_) <;> ((first | replace h := X.nm h | skip); try have hne := ne_len h)) | refine EvQ.fin X.rs ?_ | refine EvQ.fin1 (fun _ => rfl) rfl ?_)
              exact EvQ.go (i + 1) X.kv ⟨X.lo, by show i + 1 ≤ 40; omega, ⟨v1, u1, L1, hT7⟩, hll7⟩ (by show 40 - (i + 1) < 40 - i; omega)
  · have hx : ¬ i < l.length ∨ ¬ i < 40 := by omega
    rcases hx with h1 | h1
    · repeat' (first | refine EvQ.run ?_ | (refine EvQ.pickB rfl rfl rfl ?_) | (refine EvQ.cond rfl (fun h => ?_) (fun h => ?_) <;> ((first | replace h := X.nm h | skip); try have hne := ne_len h)) | (refine EvQ.g1 rfl (fun h => ?_) (fun h => ?_) <;> ((first | replace h := X.nm h | skip); try have hne := ne_len h)) | (refine EvQ.pick rfl (fun _ => rfl) (fun _ => rfl) (fun h => ?_) (fun h => ?_) <;> ((first | replace h := X.nm h | skip); try have hne := ne_len h)) | refine EvQ.fin X.rs ?_ | refine EvQ.fin1 (fun _ => rfl) rfl ?_)
      exact EvQ.xt (.mk' X.kv trivial)
    · repeat' (first | refine EvQ.run ?_ | (refine EvQ.pickB rfl rfl rfl ?_) | (refine EvQ.cond rfl (fun h => ?_) (fun h => ?_) <;> ((first | replace h := X.nm h | skip); try have hne := ne_len h)) | (refine EvQ.g1 rfl (fun h => ?_) (fun h => ?_) <;> ((first | replace h := X.nm h | skip); try have hne := ne_len h)) | (refine EvQ.pick rfl (fun _ => rfl) (fun _ => rfl) (fun h => ?_) (fun h => ?_) <;> ((first | replace h := X.nm h | skip); try have hne := ne_len h)) | refine EvQ.fin X.rs ?_ | refine EvQ.fin1 (fun _ => rfl) rfl ?_)
      all_goals exact EvQ.xt (.mk' X.kv trivial)
end Go.Proofs.Ytddohjlkjakdlaa
