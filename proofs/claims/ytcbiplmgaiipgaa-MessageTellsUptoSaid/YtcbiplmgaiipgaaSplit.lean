import Derived.Test.YtcbiplmgaiipgaaEvE
import Derived.Test.YtcbiplmgaiipgaaTrim
set_option linter.unusedVariables false
set_option linter.unusedSimpArgs false
set_option linter.unusedSectionVars false
-- lists split
namespace Go.Proofs.Ytcbiplmgaiipgaa
open Go hiding Fn
open Ev tab
attribute [local irreducible] EvD EvL EvC evGds evLs C.run sK bK gK pK fK lpB stepD

/-- where a quoted text ends -/
def quoGo : List Nat → Nat → Option Nat
  | [], _ => none
  | c :: r, i => if c = 92 then (match r with | [] => none | _ :: r' => quoGo r' (i + 2)) else if c = 34 then some (i + 1) else quoGo r (i + 1)
/-- an element put behind others, but for nothing -/
def putS (acc : List (List Nat)) (t : List Nat) : List (List Nat) := if trimS t = [] then acc else acc ++ [trimS t]
structure PutJ (a b c : Nat) (s : List Nat) (v : V) (f : Nat) (rows : List (List Nat)) (hp : Hp) (hp' : Hp) : Prop where
  un : ∃ v', hget hp' a = some ⟨1, false, [[.st s]]⟩ ∧ hget hp' c = some ⟨1, false, [[.it .i64 (Int.ofNat f)]]⟩ ∧ hget hp' b = some ⟨1, false, [[v']]⟩ ∧ Ow hp' v' 1 (txs rows) ∧ (idOf v' = idOf v ∨ ∀ id, idOf v' = some id → hp.next ≤ id) ∧
    hp.next ≤ hp'.next ∧ hp'.lim = hp.lim ∧ ∀ j, j ≠ b → idOf v ≠ some j → j < hp.next → hget hp' j = hget hp j
set_option maxHeartbeats 8000000 in
theorem put_ok {hp : Hp} {a b c : Nat} {s : List Nat} {v : V} {f to : Nat} {acc : List (List Nat)} (hs : s.length ≤ 1000000000) (ha : hget hp a = some ⟨1, false, [[.st s]]⟩) (hc : hget hp c = some ⟨1, false, [[.it .i64 (Int.ofNat f)]]⟩) (hb : hget hp b = some ⟨1, false, [[v]]⟩)
    (hO : Ow hp v 1 (txs acc)) (hn : acc.length ≤ 1000000000) (hlim : hp.lim ≤ b) (hln : hp.lim ≤ hp.next) (hab : a ≠ b) (hcb : c ≠ b) (han : a < hp.next) (hbn : b < hp.next) (hcn : c < hp.next) (hva : idOf v ≠ some a) (hvb : idOf v ≠ some b) (hvc : idOf v ≠ some c) (h1 : f ≤ to) (h2 : to ≤ s.length) :
    ∃ w hp', EvC F false 101 [.it .i64 (Int.ofNat to), .pt a 0 0, .pt c 0 0, .pt b 0 0] hp (.ret w hp') ∧ PutJ a b c s v f (putS acc ((s.drop f).take (to - f))) hp hp' := by
  refine EvC.ofQ (P := fun _ hp' => PutJ a b c s v f (putS acc ((s.drop f).take (to - f))) hp hp') d101 rfl rfl rfl ?_
  have htr := trim_ok ((s.drop f).take (to - f)) (by rw [List.length_take, List.length_drop]; omega)
  have hel := hO.lp
  repeat' (first | refine EvQ.run ?_ | refine EvQ.lift (fun _ zn => X.pcall (htr) X.cq rfl X.al rfl zn) ?_ | refine EvQ.lift (fun _ zn => X.pcallG (htr) rfl X.cq rfl X.al rfl zn) ?_ | refine EvQ.lift (fun _ zn => X.pcallC (htr) rfl X.cq rfl X.al rfl zn) ?_ | refine EvQ.lift (fun _ zn => X.pcallT (htr) (by decide) X.cq rfl X.al rfl zn) ?_ | refine EvQ.lift (fun _ zn => X.call rfl X.al (htr) zn) ?_ | (refine EvQ.pickB rfl rfl rfl ?_) | (refine EvQ.cond rfl (fun h => ?_) (fun h => ?_) <;> ((first | replace h := X.nm h | skip); try have hne := ne_len h)) | (refine EvQ.g1 rfl (fun h => ?_) (fun h => ?_) <;> ((first | replace h := X.nm h | skip); try have hne := ne_len h)) | (refine EvQ.pick rfl (fun _ => rfl) (fun _ => rfl) (fun h => ?_) (fun h => ?_) <;> ((first | replace h := X.nm h | skip); try have hne := ne_len h)) | refine EvQ.fin X.rs ?_ | refine EvQ.fin1 (fun _ => rfl) rfl ?_)
  · have ep : putS acc ((s.drop f).take (to - f)) = acc ++ [trimS ((s.drop f).take (to - f))] := by unfold putS; rw [if_neg (by assumption)]
    have hO' := hO.put (new := txs [trimS ((s.drop f).take (to - f))]) hln
    have hd : ∀ j, j ≠ b → idOf v ≠ some j → j < hp.next → hget (hset (oah hp v 1 (txs acc ++ txs [trimS ((s.drop f).take (to - f))])) b (some ⟨1, false, [[.hs hp.next 0 ((txs acc).length + 1)]]⟩)) j = hget hp j := fun j hj hv hn => by
      rw [hget_other hj, oah_get hv hn]
    refine ⟨_, _, rfl, ⟨_, (hd a hab hva han).trans ha, (hd c hcb hvc hcn).trans hc, hget_set _ _ _, ?_, .inr fun id e => ?_, ?_, ?_, hd⟩⟩
    · rw [ep, ← txs_append]
      exact hO'.get (Nat.le_refl _) rfl fun id e => by cases e; exact hget_other (by omega)
    · cases e; exact Nat.le_refl _
    · rw [hset_next, oah_next]; omega
    · rw [hset_lim, oah_lim]
  · have ep : putS acc ((s.drop f).take (to - f)) = acc := by unfold putS; rw [if_pos (by assumption)]
    rw [ep]
    exact ⟨_, _, rfl, ⟨v, ha, hc, hb, hO, .inl rfl, Nat.le_refl _, rfl, fun _ _ _ _ => rfl⟩⟩

def splGo : Nat → List Nat → Nat → Nat → List (List Nat) → Option (List (List Nat))
  | 0, _, _, _, _ => none
  | n + 1, s, i, f, acc =>
    if i < s.length then
      if s.getD i 0 = 44 then splGo n s (i + 1) (i + 1) (putS acc ((s.drop f).take (i - f)))
      else if s.getD i 0 = 34 then (match quoGo (s.drop (i + 1)) (i + 1) with | none => none | some j => splGo n s j f acc)
      else splGo n s (i + 1) f acc
    else some (putS acc ((s.drop f).take (s.length - f)))
def splS (s : List Nat) : Option (List (List Nat)) := splGo (s.length + 1) s 0 0 []
structure SplJ (s : List Nat) (hp0 : Hp) (n i f : Nat) (acc : List (List Nat)) (v : V) (hp : Hp) : Prop where
  go : splGo n s i f acc = splS s
  up : Up hp0.next hp0 hp
  nx : hp0.next + 3 ≤ hp.next
  a : hget hp hp0.next = some ⟨1, false, [[.st s]]⟩
  b : hget hp (hp0.next + 1) = some ⟨1, false, [[v]]⟩
  c : hget hp (hp0.next + 2) = some ⟨1, false, [[.it .i64 (Int.ofNat f)]]⟩
  o : Ow hp v 1 (txs acc)
  fresh : ∀ id, idOf v = some id → hp0.next + 3 ≤ id
  len : acc.length ≤ i
  le : f ≤ i ∧ i ≤ s.length ∧ s.length - i < n
structure SplP (s : List Nat) (hp0 : Hp) (w : V) (hp : Hp) : Prop where
  un : ∃ v, w = .tu [v, .bo (splS s).isSome] ∧ Ow hp v 1 (txs ((splS s).getD [])) ∧ (∀ id, idOf v = some id → hp0.next ≤ id) ∧ Up hp0.next hp0 hp
theorem SplJ.vne {s : List Nat} {hp0 hp : Hp} {n i f : Nat} {acc : List (List Nat)} {v : V} (J : SplJ s hp0 n i f acc v hp) {j : Nat} (hj : j < hp0.next + 3) : idOf v ≠ some j := fun e => by have := J.fresh j e; omega
/-- an element put: how the heap stands -/
theorem SplJ.put {own : Bool} {s : List Nat} {hp0 hp : Hp} {n i f to : Nat} {acc : List (List Nat)} {v : V} (J : SplJ s hp0 n i f acc v hp) (hs : s.length ≤ 1000000000) (hln : hp0.lim ≤ hp0.next) (h1 : f ≤ to) (h2 : to ≤ s.length) :
    ∃ w hp', EvC F false 101 [.it .i64 (Int.ofNat to), .pt hp0.next 0 0, .pt (hp0.next + 2) 0 0, .pt (hp0.next + 1) 0 0] hp (.ret w hp') ∧ PutJ hp0.next (hp0.next + 1) (hp0.next + 2) s v f (putS acc ((s.drop f).take (to - f))) hp hp' := by
  have a1 := J.up.lim
  have a2 := J.nx
  have a3 := J.len
  have a4 := J.le
  exact put_ok (by omega) J.a J.c J.b J.o (by omega) (by omega) (by omega) (by omega) (by omega) (by omega) (by omega) (by omega) (J.vne (by omega)) (J.vne (by omega)) (J.vne (by omega)) h1 h2
theorem PutJ.up {s : List Nat} {hp0 hp hp' : Hp} {n i f : Nat} {acc rows : List (List Nat)} {v : V} (J : SplJ s hp0 n i f acc v hp) (p : PutJ hp0.next (hp0.next + 1) (hp0.next + 2) s v f rows hp hp') : Up hp0.next hp0 hp' := by
  obtain ⟨v', pa, pc, pb, po, pf, pn, pl, pd⟩ := p.un
  have a2 := J.nx
  exact J.up.trans ⟨pn, pl, fun j hj => pd j (by omega) (J.vne (by omega)) (by omega)⟩
end Go.Proofs.Ytcbiplmgaiipgaa
