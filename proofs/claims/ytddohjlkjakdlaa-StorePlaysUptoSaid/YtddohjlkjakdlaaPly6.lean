import Derived.Test.YtddohjlkjakdlaaEvE
import Derived.Test.YtddohjlkjakdlaaPly5
import Derived.Test.YtddohjlkjakdlaaPlA
set_option linter.unusedVariables false
set_option linter.unusedSimpArgs false
set_option linter.unusedSectionVars false
-- StorePlays: two stores side by side, their keys (EvHp EvOwn)
namespace Ev
variable [Glob]
open Go
section
variable {F' : Nat → Option Ev.Fn} {R : Ev.R} {Q : Ev.R → Prop} {k : Ev.R → D} {clr : List Nat} {tm : Tm} {lo : Lo} {hp : Hp} {r : List DOp} {us : List Nat} {g : Option (Nat × Bool)} {d : Nat}
/-- a call, beside which addresses stand that are one's own boxes -/
theorem X_callU {own : Bool} {md : Md} {f : Nat} {xs : List A} {ys : List V} {w : V} {hp' : Hp} (hx : xs.map (get tm) = ys) (hl : ys.any isLp = false) (hk : keepsB us tm hp hp' = true) (h : EvC F' own f ys hp (.ret w hp')) (n : EvD F' (evLs clr r ⟨upd tm d w, lo, hp'⟩ k) R) :
    EvD F' (evLs clr (⟨some d, g, us, .call own md f xs⟩ :: r) ⟨tm, lo, hp⟩ k) R := by
  have e : evLs clr (⟨some d, g, us, .call own md f xs⟩ :: r) ⟨tm, lo, hp⟩ k = callD own f (xs.map (get tm)) ⟨tm, lo, hp⟩ (fun v s => bif keepsB us tm hp s.hp then forceV (fun v => evLs clr r (put s (some d) v) k) v else .bad) (fun v s => k (.pan v s)) := rfl
  rw [e, hx]
  unfold callD
  rw [hl]
  refine EvD.call h ?_
  show EvD F' (bif keepsB us tm hp hp' then forceV (fun v => evLs clr r (put (St.setHp ⟨tm, lo, hp⟩ hp') (some d) v) k) w else .bad) R
  rw [hk]
  show EvD F' (forceV (fun v => evLs clr r (put (St.setHp ⟨tm, lo, hp⟩ hp') (some d) v) k) w) R
  rw [forceV_eq]
  exact n
theorem EvQ_callU {own : Bool} {md : Md} {f : Nat} {xs : List A} {ys : List V} {P : V → Hp → Prop} (hx : xs.map (get tm) = ys) (hl : ys.any isLp = false) (hk : ∀ hp', keepsB us tm hp hp' = true) (h : ∃ v hp', EvC F' own f ys hp (.ret v hp') ∧ P v hp')
    (n : ∀ v hp', P v hp' → EvQ F' (evLs clr r ⟨upd tm d v, lo, hp'⟩ k) Q) : EvQ F' (evLs clr (⟨some d, g, us, .call own md f xs⟩ :: r) ⟨tm, lo, hp⟩ k) Q := by
  obtain ⟨v, hp', h1, h2⟩ := h
  exact (n v hp' h2).lift fun R n => X_callU hx hl (hk hp') h1 n
end
end Ev
namespace Go.Proofs.Ytddohjlkjakdlaa
open Go hiding Fn
open Ev tab
theorem RefV.kp {hp hp' : Hp} {w : Nat} {v : V} {l : List En} {b : Nat} (h : RefV hp w v l b) (hn : hp.next ≤ hp'.next) (hl : hp'.lim = hp.lim) (hg : ∀ j, j = w ∨ idOf v = some j → hget hp' j = hget hp j) : RefV hp' w v l b :=
  ⟨by rw [hg w (.inl rfl)]; exact h.obj, h.o.get hn hl (fun id q => hg id (.inr q)), by rw [hl]; exact h.lim, by have := h.lt; omega, h.ok, h.tot, h.bud⟩
theorem StoV.kp {hp hp' : Hp} {w : Nat} {v : V} {l : List En} {b : Nat} (h : StoV hp w v l b) (hn : hp.next ≤ hp'.next) (hl : hp'.lim = hp.lim) (hg : ∀ j, j = w ∨ idOf v = some j → hget hp' j = hget hp j) : StoV hp' w v l b :=
  ⟨by rw [hg w (.inl rfl)]; exact h.obj, h.o.get hn hl (fun id q => hg id (.inr q)), by rw [hl]; exact h.lim, by have := h.lt; omega, h.ok, h.tot, h.bud⟩
/-- the program's store and the document's, apart, with one list -/
structure TwoJ (hp : Hp) (s w n : Nat) (v u : V) (L : List En) : Prop where
  a : StoV hp s v L n
  r : RefV hp w u L n
  ne : s ≠ w
  vw : idOf v ≠ some w
  us : idOf u ≠ some s
  vu : ∀ id, idOf v = some id → idOf u ≠ some id
theorem TwoJ.kp {hp hp' : Hp} {s w n : Nat} {v u : V} {L : List En} (h : TwoJ hp s w n v u L) (hn : hp.next ≤ hp'.next) (hl : hp'.lim = hp.lim) (hg : ∀ j, (j = s ∨ idOf v = some j) ∨ (j = w ∨ idOf u = some j) → hget hp' j = hget hp j) : TwoJ hp' s w n v u L :=
  ⟨h.a.kp hn hl fun j q => hg j (.inl q), h.r.kp hn hl fun j q => hg j (.inr q), h.ne, h.vw, h.us, h.vu⟩
theorem TwoJ.lt {hp : Hp} {s w n : Nat} {v u : V} {L : List En} (h : TwoJ hp s w n v u L) : ∀ j, (j = s ∨ idOf v = some j) ∨ (j = w ∨ idOf u = some j) → j < hp.next := by
  intro j q
  rcases q with (rfl | q) | (rfl | q)
  · exact h.a.lt
  · exact h.a.o.lt _ q
  · exact h.r.lt
  · exact h.r.o.lt _ q
theorem TwoJ.up {hp hp' : Hp} {s w n : Nat} {v u : V} {L : List En} (h : TwoJ hp s w n v u L) {m : Nat} (k : Up m hp hp') (hm : hp.next ≤ m) : TwoJ hp' s w n v u L :=
  h.kp k.next k.lim fun j q => k.get j (by have := h.lt j q; omega)
theorem TwoJ.mid {hp hp1 : Hp} {s w n : Nat} {v u v1 : V} {L : List En} (h : TwoJ hp s w n v u L) (f : Fr s hp v hp1 v1) : RefV hp1 w u L n :=
  h.r.kp f.next f.lim fun j q => f.get j (h.lt j (.inr q)) (by rcases q with rfl | q; exact h.ne.symm; rintro rfl; exact h.us q) (by rcases q with rfl | q; exact h.vw; exact fun q2 => h.vu j q2 q)
theorem TwoJ.step {hp hp1 hp2 : Hp} {s w n : Nat} {v u v1 u2 : V} {L L1 : List En} (h : TwoJ hp s w n v u L) (hS : StoV hp1 s v1 L1 n) (f1 : Fr s hp v hp1 v1) (hR : RefV hp2 w u2 L1 n) (f2 : Fr w hp1 u hp2 u2) : TwoJ hp2 s w n v1 u2 L1 := by
  have m1 := h.mid f1
  have vw1 : idOf v1 ≠ some w := fun q => by
    rcases f1.new w q with q | q
    · exact h.vw q
    · have := h.r.lt; omega
  have vu1 : ∀ id, idOf v1 = some id → idOf u ≠ some id := fun id q q2 => by
    rcases f1.new id q with q | q
    · exact h.vu id q q2
    · have := h.r.o.lt id q2; omega
  have hlt := hS.lt
  have hol := hS.o.lt
  refine ⟨hS.kp f2.next f2.lim fun j q => f2.get j ?_ ?_ ?_, hR, h.ne, vw1, fun q => ?_, fun id q q2 => ?_⟩
  · rcases q with rfl | q
    · exact hlt
    · exact hol j q
  · rcases q with rfl | q
    · exact h.ne
    · rintro rfl; exact vw1 q
  · rcases q with rfl | q
    · exact h.us
    · exact vu1 j q
  · rcases f2.new s q with q | q
    · exact h.us q
    · omega
  · rcases f2.new id q2 with q2 | q2
    · exact vu1 id q q2
    · have := hol id q; omega
attribute [local irreducible] EvP EvD EvL EvC evGds evLs C.run sK bK gK pK fK lpB stepD matchS
abbrev keysE (L : List En) : List (List Nat) := L.map fun e => keyS e.q
set_option maxHeartbeats 32000000 in
theorem pkeys_loop (hp0 : Hp) (s w n i : Nat) (v u : V) (L : List En) (l : List Ak) (hT : TwoJ hp0 s w n v u L) (hll : hp0.lim ≤ hp0.next) (lo : Lo) (hlo : shed [9, 10, 12, 14, 16] lo = fun _ => none) (tm : Tm)
    (hk : [1, 5, 7, 8, 18, 19].map (fun x => (x, tm x)) = [(1, .vs 20 (aks l)), (5, .pt s 0 0), (7, .pt w 0 0), (8, .it .i64 (Int.ofNat i)), (18, .ns), (19, .it .i64 (Int.ofNat 0))]) :
    ∃ r, EvL F [1, 5, 7, 8, 18, 19] [9, 10, 12, 14, 16] (lpB (d7.body.lps.getD 1 .skip)) ⟨tm, lo, hp0⟩ r ∧ (∃ kv, XtQ 3 [(1, .vs 20 (aks l)), (5, .pt s 0 0), (7, .pt w 0 0), (8, .it .i64 (Int.ofNat i)), (18, kv)] (fun lo hp => lo = (fun _ => none) ∧ Ow hp kv 1 (txs (keysE L)) ∧ Up hp0.next hp0 hp ∧ (∀ id, idOf kv = some id → hp0.next ≤ id)) r) := by
  have hlen := hT.r.len
  refine EvL.invQ (S := Nat × V) (fun y => [(1, .vs 20 (aks l)), (5, .pt s 0 0), (7, .pt w 0 0), (8, .it .i64 (Int.ofNat i)), (18, y.2), (19, .it .i64 (Int.ofNat y.1))])
    (fun y lo hp => shed [9, 10, 12, 14, 16] lo = (fun _ => none) ∧ y.1 ≤ L.length ∧ Ow hp y.2 1 (txs (keysE (L.take y.1))) ∧ Up hp0.next hp0 hp ∧ (∀ id, idOf y.2 = some id → hp0.next ≤ id)) (fun y => L.length - y.1) _ ?_ (0, .ns) tm lo hp0 ⟨hlo, Nat.zero_le _, .ns, .refl _ _, fun _ q => by cases q⟩ hk
  intro ⟨k, kv⟩ lo hp ⟨e1, e2, hO, hU, hid⟩
  simp only at e2 hO hid
  rw [e1]
  have hr := (hT.up hU (Nat.le_refl _)).r
  have hobj := hr.obj
  have hR := hr.o.sl.rd
  have vl := hr.o.lp
  have vc := hr.o.cells
  have vk := hr.o.keep
  have hnn := hr.o.len
  have hrl : (L.map rowEn).length = L.length := List.length_map _
  rw [hrl] at hnn
  have wl := hO.lp
  have wc := hO.cells
  have wk := hO.keep
  have hlm : hp.lim ≤ hp.next := by rw [hU.lim]; have := hU.next; omega
  by_cases hi : k < L.length
  · have hge := rows_getD hi
    have hE := hT.r.ok _ (mem_getD hi)
    have hk := rkey_ok (L.getD k e0).q hE.q.k1 hE.q.k2 hE.q.k3
    have c4 := rowRq_clo (L.getD k e0).q
    have htk := take_getD hi e0
    have htl : (txs (keysE (L.take k))).length = k := by rw [txs_length, List.length_map, List.length_take]; omega
    have hO' := hO.put (new := [[.st (keyS (L.getD k e0).q)]]) hlm
    have hU' := hU.oah (v := kv) (sz := 1) (rows := txs (keysE (L.take k)) ++ [[.st (keyS (L.getD k e0).q)]]) hU.next hid
    have hX : txs (keysE (L.take (k + 1))) = txs (keysE (L.take k)) ++ [[.st (keyS (L.getD k e0).q)]] := by rw [htk]; simp [txs, keysE]
    generalize L.getD k e0 = en at *
    generalize keyS en.q = K at *
    generalize txs (keysE (L.take k)) = rows at *
    repeat' (first | refine EvQ.run ?_ | refine EvQ.lift (fun _ zn => X.pcall (hk) X.cq rfl X.al rfl zn) ?_ | refine EvQ.lift (fun _ zn => X.pcallG (hk) rfl X.cq rfl X.al rfl zn) ?_ | refine EvQ.lift (fun _ zn => X.pcallC (hk) rfl X.cq rfl X.al rfl zn) ?_ | refine EvQ.lift (fun _ zn => X.pcallT (hk) (by decide) X.cq rfl X.al rfl zn) ?_ | refine EvQ.lift (fun _ zn => X.call rfl X.al (hk) zn) ?_ | (refine EvQ.pickB rfl rfl rfl ?_) | (refine EvQ.cond rfl (fun h => ?_) (fun h => ?_) <;> ((first | replace h := X.nm h | skip); try have hne := ne_len h)) | (refine EvQ.g1 rfl (fun h => ?_) (fun h => ?_) <;> ((first | replace h := X.nm h | skip); try have hne := ne_len h)) | (refine EvQ.pick rfl (fun _ => rfl) (fun _ => rfl) (fun h => ?_) (fun h => ?_) <;> ((first | replace h := X.nm h | skip); try have hne := ne_len h)) | refine EvQ.fin X.rs ?_ | refine EvQ.fin1 (fun _ => rfl) rfl ?_)
    refine EvQ.go (k + 1, _) X.kv ⟨X.lo, hi, by rw [hX]; exact hO', hU', fun id q => ?_⟩ (by show L.length - (k + 1) < L.length - k; omega)
    cases q; have := hU.next; omega
  · repeat' (first | refine EvQ.run ?_ | (refine EvQ.pickB rfl rfl rfl ?_) | (refine EvQ.cond rfl (fun h => ?_) (fun h => ?_) <;> ((first | replace h := X.nm h | skip); try have hne := ne_len h)) | (refine EvQ.g1 rfl (fun h => ?_) (fun h => ?_) <;> ((first | replace h := X.nm h | skip); try have hne := ne_len h)) | (refine EvQ.pick rfl (fun _ => rfl) (fun _ => rfl) (fun h => ?_) (fun h => ?_) <;> ((first | replace h := X.nm h | skip); try have hne := ne_len h)) | refine EvQ.fin X.rs ?_ | refine EvQ.fin1 (fun _ => rfl) rfl ?_)
    rw [List.take_of_length_le (by omega)] at hO
    exact EvQ.xt ⟨kv, .mk' X.kv ⟨rfl, hO, hU, hid⟩⟩
end Go.Proofs.Ytddohjlkjakdlaa
