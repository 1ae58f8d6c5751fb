import Derived.Test.YtddohjlkjakdlaaEvE
import Derived.Test.YtddohjlkjakdlaaTrim
set_option linter.unusedVariables false
set_option linter.unusedSimpArgs false
set_option linter.unusedSectionVars false
set_option linter.unusedVariables false
set_option linter.unusedSimpArgs false
-- lists split
namespace Go.Proofs.Ytddohjlkjakdlaa
open Go hiding Fn
open Ev tab
attribute [local irreducible] EvD EvL EvC evGds evLs C.run sK bK gK pK fK lpB stepD

/-- where a quoted text ends -/
def quoGo : List Nat → Nat → Option Nat
  | [], _ => none
  | c :: r, i => if c = 92 then (match r with | [] => none | _ :: r' => quoGo r' (i + 2)) else if c = 34 then some (i + 1) else quoGo r (i + 1)
theorem quo_drop {s : List Nat} {i : Nat} (h : i < s.length) : quoGo (s.drop i) i = if s.getD i 0 = 92 then quoGo (s.drop (i + 2)) (i + 2) else if s.getD i 0 = 34 then some (i + 1) else quoGo (s.drop (i + 1)) (i + 1) := by
  rw [drop_getD h 0]
  conv => lhs; unfold quoGo
  have e : s.drop (i + 2) = (s.drop (i + 1)).drop 1 := by rw [List.drop_drop]
  rw [e]
  cases s.drop (i + 1) <;> rfl
theorem quoGo_le : ∀ (r : List Nat) (i j : Nat), quoGo r i = some j → i < j ∧ j ≤ i + r.length
  | [], _, _, h => by simp [quoGo] at h
  | c :: r, i, j, h => by
    unfold quoGo at h
    split at h
    · cases r with
      | nil => cases h
      | cons d r' =>
        have := quoGo_le r' (i + 2) j h
        simp only [List.length_cons]; omega
    · split at h
      · cases h; simp only [List.length_cons]; omega
      · have := quoGo_le r (i + 1) j h
        simp only [List.length_cons]; omega
set_option maxHeartbeats 8000000 in
theorem quoted_ok (s : List Nat) (a : Nat) (hl : s.length ≤ 1000000000) (ha : a ≤ 1000000000) : EvP F 71 c71 [.st s, .it .i64 (Int.ofNat a)] [.it .i64 (Int.ofNat ((quoGo (s.drop (a + 1)) (a + 1)).getD 0)), .bo (quoGo (s.drop (a + 1)) (a + 1)).isSome] := by
  refine EvP.ofQ d71 rfl rfl rfl ?_
  generalize ht : quoGo (s.drop (a + 1)) (a + 1) = t
  repeat' (first | refine EvQ.run ?_ | (refine EvQ.pickB rfl rfl rfl ?_) | (refine EvQ.cond rfl (fun h => ?_) (fun h => ?_) <;> ((first | replace h := X.nm h | skip); try have hne := ne_len h)) | (refine EvQ.g1 rfl (fun h => ?_) (fun h => ?_) <;> ((first | replace h := X.nm h | skip); try have hne := ne_len h)) | (refine EvQ.pick rfl (fun _ => rfl) (fun _ => rfl) (fun h => ?_) (fun h => ?_) <;> ((first | replace h := X.nm h | skip); try have hne := ne_len h)) | refine EvQ.fin X.rs ?_ | refine EvQ.fin1 (fun _ => rfl) rfl ?_)
  refine EvQ.loop (QL := fun r => (t = none ∧ XtQ 0 [] (fun _ _ => True) r) ∨ (∃ j, t = some j ∧ RtQ [(4, .it .i64 (Int.ofNat j)), (5, .bo true)] (fun _ _ => True) r)) ?_ ?_
  · refine EvL.invQ (S := Nat) (fun i => [(0, .st s), (6, .it .i64 (Int.ofNat i))]) (fun i _ _ => quoGo (s.drop i) i = t ∧ i ≤ s.length + 1000000002) (fun i => s.length - i) _ ?_ (a + 1) _ _ _ ⟨ht, by omega⟩ rfl
    intro i lo hp ⟨h1, h2⟩
    repeat' (first | refine EvQ.run ?_ | (refine EvQ.pickB rfl rfl rfl ?_) | (refine EvQ.cond rfl (fun h => ?_) (fun h => ?_) <;> ((first | replace h := X.nm h | skip); try have hne := ne_len h)) | (refine EvQ.g1 rfl (fun h => ?_) (fun h => ?_) <;> ((first | replace h := X.nm h | skip); try have hne := ne_len h)) | (refine EvQ.pick rfl (fun _ => rfl) (fun _ => rfl) (fun h => ?_) (fun h => ?_) <;> ((first | replace h := X.nm h | skip); try have hne := ne_len h)) | refine EvQ.fin X.rs ?_ | refine EvQ.fin1 (fun _ => rfl) rfl ?_)
    · have hq := quo_drop (by assumption) (s := s) (i := i)
      rw [if_pos (by assumption)] at hq
      exact EvQ.go (i + 2) X.kv ⟨hq ▸ h1, by omega⟩ (by omega)
    · have hq := quo_drop (by assumption) (s := s) (i := i)
      rw [if_neg (by assumption), if_pos (by assumption)] at hq
      exact EvQ.rt (.inr ⟨i + 1, by rw [← h1, hq], .mk' X.kv trivial⟩)
    · have hq := quo_drop (by assumption) (s := s) (i := i)
      rw [if_neg (by assumption), if_neg (by assumption)] at hq
      exact EvQ.go (i + 1) X.kv ⟨hq ▸ h1, by omega⟩ (by omega)
    · refine EvQ.xt (.inl ⟨?_, .mk' X.kv trivial⟩)
      rw [← h1, List.drop_of_length_le (by omega)]; rfl
  · rintro _ (⟨rfl, tm, lo, hp, rfl, -⟩ | ⟨j, rfl, tm, lo, hp, rfl, -⟩)
    · repeat' (first | refine EvQ.run ?_ | (refine EvQ.pickB rfl rfl rfl ?_) | (refine EvQ.cond rfl (fun h => ?_) (fun h => ?_) <;> ((first | replace h := X.nm h | skip); try have hne := ne_len h)) | (refine EvQ.g1 rfl (fun h => ?_) (fun h => ?_) <;> ((first | replace h := X.nm h | skip); try have hne := ne_len h)) | (refine EvQ.pick rfl (fun _ => rfl) (fun _ => rfl) (fun h => ?_) (fun h => ?_) <;> ((first | replace h := X.nm h | skip); try have hne := ne_len h)) | refine EvQ.fin X.rs ?_ | refine EvQ.fin1 (fun _ => rfl) rfl ?_)
      exact PQ.of (.s (clo_it _ _) (.s (clo_bo _) (.nil _)))
    · repeat' (first | refine EvQ.run ?_ | (refine EvQ.pickB rfl rfl rfl ?_) | (refine EvQ.cond rfl (fun h => ?_) (fun h => ?_) <;> ((first | replace h := X.nm h | skip); try have hne := ne_len h)) | (refine EvQ.g1 rfl (fun h => ?_) (fun h => ?_) <;> ((first | replace h := X.nm h | skip); try have hne := ne_len h)) | (refine EvQ.pick rfl (fun _ => rfl) (fun _ => rfl) (fun h => ?_) (fun h => ?_) <;> ((first | replace h := X.nm h | skip); try have hne := ne_len h)) | refine EvQ.fin X.rs ?_ | refine EvQ.fin1 (fun _ => rfl) rfl ?_)
      exact PQ.of (.s (clo_it _ _) (.s (clo_bo _) (.nil _)))

/-- an element put behind others, but for nothing -/
def putS (acc : List (List Nat)) (t : List Nat) : List (List Nat) := if trimS t = [] then acc else acc ++ [trimS t]
structure PutJ (a b c : Nat) (s : List Nat) (v : V) (f : Nat) (rows : List (List Nat)) (hp : Hp) (hp' : Hp) : Prop where
  un : ∃ v', hget hp' a = some ⟨1, false, [[.st s]]⟩ ∧ hget hp' c = some ⟨1, false, [[.it .i64 (Int.ofNat f)]]⟩ ∧ hget hp' b = some ⟨1, false, [[v']]⟩ ∧ Ow hp' v' 1 (txs rows) ∧ (idOf v' = idOf v ∨ ∀ id, idOf v' = some id → hp.next ≤ id) ∧
    hp.next ≤ hp'.next ∧ hp'.lim = hp.lim ∧ ∀ j, j ≠ b → idOf v ≠ some j → j < hp.next → hget hp' j = hget hp j
set_option maxHeartbeats 8000000 in
theorem put_ok {hp : Hp} {a b c : Nat} {s : List Nat} {v : V} {f to : Nat} {acc : List (List Nat)} (hs : s.length ≤ 1000000000) (ha : hget hp a = some ⟨1, false, [[.st s]]⟩) (hc : hget hp c = some ⟨1, false, [[.it .i64 (Int.ofNat f)]]⟩) (hb : hget hp b = some ⟨1, false, [[v]]⟩)
    (hO : Ow hp v 1 (txs acc)) (hn : acc.length ≤ 1000000000) (hlim : hp.lim ≤ b) (hln : hp.lim ≤ hp.next) (hab : a ≠ b) (hcb : c ≠ b) (han : a < hp.next) (hbn : b < hp.next) (hcn : c < hp.next) (hva : idOf v ≠ some a) (hvb : idOf v ≠ some b) (hvc : idOf v ≠ some c) (h1 : f ≤ to) (h2 : to ≤ s.length) :
    ∃ w hp', EvC F false 70 [.it .i64 (Int.ofNat to), .pt a 0 0, .pt c 0 0, .pt b 0 0] hp (.ret w hp') ∧ PutJ a b c s v f (putS acc ((s.drop f).take (to - f))) hp hp' := by
  refine EvC.ofQ (P := fun _ hp' => PutJ a b c s v f (putS acc ((s.drop f).take (to - f))) hp hp') d70 rfl rfl rfl ?_
  have htr := trim_ok ((s.drop f).take (to - f)) (by rw [List.length_take, List.length_drop]; omega)
  have hel := hO.lp
  repeat' (first | refine EvQ.run ?_ | refine EvQ.lift (fun _ zn => X.pcall (htr) X.cq rfl X.al rfl zn) ?_ | refine EvQ.lift (fun _ zn => X.pcallG (htr) rfl X.cq rfl X.al rfl zn) ?_ | refine EvQ.lift (fun _ zn => X.pcallC (htr) rfl X.cq rfl X.al rfl zn) ?_ | refine EvQ.lift (fun _ zn => X.pcallT (htr) (by decide) X.cq rfl X.al rfl zn) ?_ | refine EvQ.lift (fun _ zn => X.call rfl X.al (htr) zn) ?_ | (refine EvQ.pickB rfl rfl rfl ?_) | (refine EvQ.cond rfl (fun h => ?_) (fun h => ?_) <;> ((first | replace h := X.nm h | skip); try have hne := ne_len h)) | (refine EvQ.g1 rfl (fun h => ?_) (fun h => ?_) <;> ((first | replace h := X.nm h | skip); try have hne := ne_len h)) | (refine EvQ.pick rfl (fun _ => rfl) (fun _ => rfl) (fun h => ?_) (fun h => ?_) <;> ((first | replace h := X.nm h | skip); try have hne := ne_len h)) | refine EvQ.fin X.rs ?_ | refine EvQ.fin1 (fun _ => rfl) rfl ?_)
  · have ep : putS acc ((s.drop f).take (to - f)) = acc ++ [trimS ((s.drop f).take (to - f))] := by unfold putS; rw [if_neg (by assumption)]
    have hO' := hO.put (new := txs [trimS ((s.drop f).take (to - f))]) hln
    have hd : ∀ j, j ≠ b → idOf v ≠ some j → j < hp.next → hget (hset (oah hp v 1 (txs acc ++ txs [trimS ((s.drop f).take (to - f))])) b (some ⟨1, false, [[.hs hp.next 0 ((txs acc).length + 1)]]⟩)) j = hget hp j := fun j hj hv hn => by
      rw [hget_other hj, oah_get hv hn]
    refine ⟨_, _, rfl, ⟨_, (hd a hab hva han).trans ha, (hd c hcb hvc hcn).trans hc, hget_set _ _ _, ?_, .inr fun id e => ?_, ?_, ?_, hd⟩⟩
    · rw [ep, ← txs_append]
      exact hO'.get (Nat.le_refl _) rfl fun id e => by cases e; exact hget_other (by omega)
    · cases e; exact Nat.le_refl _
    · rw [hset_next, oah_next]; omega
    · rw [hset_lim, oah_lim]
  · have ep : putS acc ((s.drop f).take (to - f)) = acc := by unfold putS; rw [if_pos (by assumption)]
    rw [ep]
    exact ⟨_, _, rfl, ⟨v, ha, hc, hb, hO, .inl rfl, Nat.le_refl _, rfl, fun _ _ _ _ => rfl⟩⟩

def splGo : Nat → List Nat → Nat → Nat → List (List Nat) → Option (List (List Nat))
  | 0, _, _, _, _ => none
  | n + 1, s, i, f, acc =>
    if i < s.length then
      if s.getD i 0 = 44 then splGo n s (i + 1) (i + 1) (putS acc ((s.drop f).take (i - f)))
      else if s.getD i 0 = 34 then (match quoGo (s.drop (i + 1)) (i + 1) with | none => none | some j => splGo n s j f acc)
      else splGo n s (i + 1) f acc
    else some (putS acc ((s.drop f).take (s.length - f)))
def splS (s : List Nat) : Option (List (List Nat)) := splGo (s.length + 1) s 0 0 []
theorem putS_len (acc : List (List Nat)) (t : List Nat) : (putS acc t).length ≤ acc.length + 1 := by unfold putS; split <;> simp
theorem none_of {α : Type} {o : Option α} (h : o.isSome = false) : o = none := by cases o <;> first | rfl | cases h
theorem ns_id (id : Nat) : ¬ idOf .ns = some id := fun e => by cases e
theorem splGo_at {n : Nat} {s : List Nat} {i f : Nat} {acc : List (List Nat)} (h : i < s.length) (hn : s.length - i < n) : splGo n s i f acc =
    if s.getD i 0 = 44 then splGo (n - 1) s (i + 1) (i + 1) (putS acc ((s.drop f).take (i - f)))
    else if s.getD i 0 = 34 then (match quoGo (s.drop (i + 1)) (i + 1) with | none => none | some j => splGo (n - 1) s j f acc) else splGo (n - 1) s (i + 1) f acc := by
  cases n with
  | zero => omega
  | succ n => conv => lhs; unfold splGo
              rw [if_pos h]; rfl
theorem splGo_end {n : Nat} {s : List Nat} {i f : Nat} {acc : List (List Nat)} (h : ¬ i < s.length) (hn : 0 < n) : splGo n s i f acc = some (putS acc ((s.drop f).take (s.length - f))) := by
  cases n with
  | zero => omega
  | succ n => conv => lhs; unfold splGo
              rw [if_neg h]
structure SplJ (s : List Nat) (hp0 : Hp) (n i f : Nat) (acc : List (List Nat)) (v : V) (hp : Hp) : Prop where
  go : splGo n s i f acc = splS s
  up : Up hp0.next hp0 hp
  nx : hp0.next + 3 ≤ hp.next
  a : hget hp hp0.next = some ⟨1, false, [[.st s]]⟩
  b : hget hp (hp0.next + 1) = some ⟨1, false, [[v]]⟩
  c : hget hp (hp0.next + 2) = some ⟨1, false, [[.it .i64 (Int.ofNat f)]]⟩
  o : Ow hp v 1 (txs acc)
  fresh : ∀ id, idOf v = some id → hp0.next + 3 ≤ id
  len : acc.length ≤ i
  le : f ≤ i ∧ i ≤ s.length ∧ s.length - i < n
structure SplP (s : List Nat) (hp0 : Hp) (w : V) (hp : Hp) : Prop where
  un : ∃ v, w = .tu [v, .bo (splS s).isSome] ∧ Ow hp v 1 (txs ((splS s).getD [])) ∧ (∀ id, idOf v = some id → hp0.next ≤ id) ∧ Up hp0.next hp0 hp
theorem SplJ.vne {s : List Nat} {hp0 hp : Hp} {n i f : Nat} {acc : List (List Nat)} {v : V} (J : SplJ s hp0 n i f acc v hp) {j : Nat} (hj : j < hp0.next + 3) : idOf v ≠ some j := fun e => by have := J.fresh j e; omega
/-- an element put: how the heap stands -/
theorem SplJ.put {own : Bool} {s : List Nat} {hp0 hp : Hp} {n i f to : Nat} {acc : List (List Nat)} {v : V} (J : SplJ s hp0 n i f acc v hp) (hs : s.length ≤ 1000000000) (hln : hp0.lim ≤ hp0.next) (h1 : f ≤ to) (h2 : to ≤ s.length) :
    ∃ w hp', EvC F false 70 [.it .i64 (Int.ofNat to), .pt hp0.next 0 0, .pt (hp0.next + 2) 0 0, .pt (hp0.next + 1) 0 0] hp (.ret w hp') ∧ PutJ hp0.next (hp0.next + 1) (hp0.next + 2) s v f (putS acc ((s.drop f).take (to - f))) hp hp' := by
  have a1 := J.up.lim
  have a2 := J.nx
  have a3 := J.len
  have a4 := J.le
  exact put_ok (by omega) J.a J.c J.b J.o (by omega) (by omega) (by omega) (by omega) (by omega) (by omega) (by omega) (by omega) (J.vne (by omega)) (J.vne (by omega)) (J.vne (by omega)) h1 h2
theorem PutJ.up {s : List Nat} {hp0 hp hp' : Hp} {n i f : Nat} {acc rows : List (List Nat)} {v : V} (J : SplJ s hp0 n i f acc v hp) (p : PutJ hp0.next (hp0.next + 1) (hp0.next + 2) s v f rows hp hp') : Up hp0.next hp0 hp' := by
  obtain ⟨v', pa, pc, pb, po, pf, pn, pl, pd⟩ := p.un
  have a2 := J.nx
  exact J.up.trans ⟨pn, pl, fun j hj => pd j (by omega) (J.vne (by omega)) (by omega)⟩
theorem PutJ.spl {s : List Nat} {hp0 hp hp' : Hp} {n i f m k g : Nat} {acc rows : List (List Nat)} {v : V} (J : SplJ s hp0 n i f acc v hp) (p : PutJ hp0.next (hp0.next + 1) (hp0.next + 2) s v f rows hp hp')
    (hg : splGo m s k g rows = splS s) (hr : rows.length ≤ k) (hk : g ≤ k ∧ k ≤ s.length ∧ s.length - k < m) : ∃ v', SplJ s hp0 m k g rows v' (hset hp' (hp0.next + 2) (some ⟨1, false, [[.it .i64 (Int.ofNat g)]]⟩)) := by
  have hu := p.up J
  obtain ⟨v', pa, pc, pb, po, pf, pn, pl, pd⟩ := p.un
  have a2 := J.nx
  have hf : ∀ id, idOf v' = some id → hp0.next + 3 ≤ id := fun id e => by
    rcases pf with q | q
    · exact J.fresh id (q ▸ e)
    · have := q id e; omega
  refine ⟨v', hg, hu.trans (Up.set _ _ _ (by omega)), by rw [hset_next]; omega, ?_, ?_, hget_set _ _ _, ?_, hf, hr, hk⟩
  · rw [hget_other (by omega)]; exact pa
  · rw [hget_other (by omega)]; exact pb
  · exact po.get (Nat.le_refl _) rfl fun id e => hget_other (by have := hf id e; omega)
set_option maxHeartbeats 8000000 in
theorem split_ok {own : Bool} {hp0 : Hp} (s : List Nat) (hs : s.length ≤ 1000000000) (hln : hp0.lim ≤ hp0.next) : ∃ w hp, EvC F own 64 [.st s] hp0 (.ret w hp) ∧ SplP s hp0 w hp := by
  refine EvC.ofQ (P := SplP s hp0) d64 rfl rfl rfl ?_
  repeat' (first | refine EvQ.run ?_ | (refine EvQ.pickB rfl rfl rfl ?_) | (refine EvQ.cond rfl (fun h => ?_) (fun h => ?_) <;> ((first | replace h := X.nm h | skip); try have hne := ne_len h)) | (refine EvQ.g1 rfl (fun h => ?_) (fun h => ?_) <;> ((first | replace h := X.nm h | skip); try have hne := ne_len h)) | (refine EvQ.pick rfl (fun _ => rfl) (fun _ => rfl) (fun h => ?_) (fun h => ?_) <;> ((first | replace h := X.nm h | skip); try have hne := ne_len h)) | refine EvQ.fin X.rs ?_ | refine EvQ.fin1 (fun _ => rfl) rfl ?_)
  refine EvQ.loop (QL := fun r => (splS s = none ∧ RtQ [(2, .ns), (3, .bo false)] (fun _ hp => Up hp0.next hp0 hp) r) ∨
    (∃ n f acc v, XtQ 0 [(1, .pt hp0.next 0 0), (4, .pt (hp0.next + 1) 0 0), (6, .fn 70 [] [.pt hp0.next 0 0, .pt (hp0.next + 2) 0 0, .pt (hp0.next + 1) 0 0])] (fun _ hp => SplJ s hp0 n s.length f acc v hp) r)) ?_ ?_
  · refine EvL.invQ (S := Nat × Nat × Nat × List (List Nat) × V) (fun x => [(1, .pt hp0.next 0 0), (4, .pt (hp0.next + 1) 0 0), (5, .pt (hp0.next + 2) 0 0), (6, .fn 70 [] [.pt hp0.next 0 0, .pt (hp0.next + 2) 0 0, .pt (hp0.next + 1) 0 0]), (7, .it .i64 (Int.ofNat x.2.1))])
      (fun x _ hp => SplJ s hp0 x.1 x.2.1 x.2.2.1 x.2.2.2.1 x.2.2.2.2 hp) (fun x => s.length - x.2.1) _ ?_ (s.length + 1, 0, 0, [], .ns) _ _ _ ?_ X.kv
    · intro ⟨n, i, f, acc, v⟩ lo hp J
      simp only at J
      have ja := J.a
      have jb := J.b
      have jc := J.c
      have jl := J.le
      have jg := J.go
      have jn := J.len
      repeat' (first | refine EvQ.run ?_ | refine EvQ.lift (fun _ zn => X.pcall (quoted_ok s i (by omega) (by omega)) X.cq rfl X.al rfl zn) ?_ | refine EvQ.lift (fun _ zn => X.pcallG (quoted_ok s i (by omega) (by omega)) rfl X.cq rfl X.al rfl zn) ?_ | refine EvQ.lift (fun _ zn => X.pcallC (quoted_ok s i (by omega) (by omega)) rfl X.cq rfl X.al rfl zn) ?_ | refine EvQ.lift (fun _ zn => X.pcallT (quoted_ok s i (by omega) (by omega)) (by decide) X.cq rfl X.al rfl zn) ?_ | refine EvQ.lift (fun _ zn => X.call rfl X.al (quoted_ok s i (by omega) (by omega)) zn) ?_ | (refine EvQ.pickB rfl rfl rfl ?_) | (refine EvQ.cond rfl (fun h => ?_) (fun h => ?_) <;> ((first | replace h := X.nm h | skip); try have hne := ne_len h)) | (refine EvQ.g1 rfl (fun h => ?_) (fun h => ?_) <;> ((first | replace h := X.nm h | skip); try have hne := ne_len h)) | (refine EvQ.pick rfl (fun _ => rfl) (fun _ => rfl) (fun h => ?_) (fun h => ?_) <;> ((first | replace h := X.nm h | skip); try have hne := ne_len h)) | refine EvQ.fin X.rs ?_ | refine EvQ.fin1 (fun _ => rfl) rfl ?_)
      · have hi : i < s.length := by assumption
        rw [splGo_at hi (by omega), if_pos (by assumption)] at jg
        refine EvQ.calv rfl rfl rfl rfl (J.put (own := own) hs hln (to := i) (by omega) (by omega)) ?_
        intro w hp' p
        have hu := p.up J
        have hul := hu.lim
        obtain ⟨v', pa, pc, pb, po, pf, pn, pl, pd⟩ := p.un
        repeat' (first | refine EvQ.run ?_ | (refine EvQ.pickB rfl rfl rfl ?_) | (refine EvQ.cond rfl (fun h => ?_) (fun h => ?_) <;> ((first | replace h := X.nm h | skip); try have hne := ne_len h)) | (refine EvQ.g1 rfl (fun h => ?_) (fun h => ?_) <;> ((first | replace h := X.nm h | skip); try have hne := ne_len h)) | (refine EvQ.pick rfl (fun _ => rfl) (fun _ => rfl) (fun h => ?_) (fun h => ?_) <;> ((first | replace h := X.nm h | skip); try have hne := ne_len h)) | refine EvQ.fin X.rs ?_ | refine EvQ.fin1 (fun _ => rfl) rfl ?_)
        obtain ⟨v', J'⟩ := p.spl J jg (by have := putS_len acc ((s.drop f).take (i - f)); omega) (by omega)
        exact EvQ.go (n - 1, i + 1, i + 1, _, v') X.kv J' (by show s.length - (i + 1) < s.length - i; omega)
      · rw [splGo_at (by assumption) (by omega), if_neg (by assumption), if_pos (by assumption)] at jg
        refine EvQ.rt (.inl ⟨?_, .mk' X.kv J.up⟩)
        rw [← jg, none_of (o := quoGo (s.drop (i + 1)) (i + 1)) (by assumption)]
      · have hi : i < s.length := by assumption
        rw [splGo_at hi (by omega), if_neg (by assumption), if_pos (by assumption)] at jg
        obtain ⟨j, hj⟩ := Option.isSome_iff_exists.1 (by assumption)
        obtain ⟨q1, q2⟩ := quoGo_le _ _ _ hj
        rw [List.length_drop] at q2
        rw [hj] at jg
        refine EvQ.go (n - 1, j, f, acc, v) (by rw [hj]; exact X.kv) { J with go := jg, len := by show acc.length ≤ j; omega, le := by show f ≤ j ∧ j ≤ s.length ∧ s.length - j < n - 1; omega } (by show s.length - j < s.length - i; omega)
      · have hi : i < s.length := by assumption
        rw [splGo_at hi (by omega), if_neg (by assumption), if_neg (by assumption)] at jg
        exact EvQ.go (n - 1, i + 1, f, acc, v) X.kv { J with go := jg, len := by show acc.length ≤ i + 1; omega, le := by show f ≤ i + 1 ∧ i + 1 ≤ s.length ∧ s.length - (i + 1) < n - 1; omega } (by show s.length - (i + 1) < s.length - i; omega)
      · have he : i = s.length := by omega
        subst he
        exact EvQ.xt (.inr ⟨n, f, acc, v, .mk' X.kv J⟩)
    · refine ⟨rfl, ?_, ?_, ?_, ?_, ?_, .ns, fun id e => absurd e (ns_id id), Nat.le_refl _, by simp⟩
      · exact (Up.new _ _ (Nat.le_refl _)).trans ((Up.new _ _ (by simp only [hgs]; omega)).trans ((Up.new _ _ (by simp only [hgs]; omega)).trans (Up.set _ _ _ (by omega))))
      · simp only [hgs]; omega
      · exact X.hq
      · exact X.hq
      · exact X.hq
  · rintro _ (⟨hn, tm, lo, hp, rfl, hu⟩ | ⟨n, f, acc, v, tm, lo, hp, rfl, J⟩)
    · repeat' (first | refine EvQ.run ?_ | (refine EvQ.pickB rfl rfl rfl ?_) | (refine EvQ.cond rfl (fun h => ?_) (fun h => ?_) <;> ((first | replace h := X.nm h | skip); try have hne := ne_len h)) | (refine EvQ.g1 rfl (fun h => ?_) (fun h => ?_) <;> ((first | replace h := X.nm h | skip); try have hne := ne_len h)) | (refine EvQ.pick rfl (fun _ => rfl) (fun _ => rfl) (fun h => ?_) (fun h => ?_) <;> ((first | replace h := X.nm h | skip); try have hne := ne_len h)) | refine EvQ.fin X.rs ?_ | refine EvQ.fin1 (fun _ => rfl) rfl ?_)
      exact ⟨_, _, rfl, ⟨.ns, by rw [hn]; rfl, by rw [hn]; exact .ns, fun id e => absurd e (ns_id id), hu⟩⟩
    · have ja := J.a
      have jl := J.le
      have jg := J.go
      rw [splGo_end (by omega) (by omega)] at jg
      repeat' (first | refine EvQ.run ?_ | (refine EvQ.pickB rfl rfl rfl ?_) | (refine EvQ.cond rfl (fun h => ?_) (fun h => ?_) <;> ((first | replace h := X.nm h | skip); try have hne := ne_len h)) | (refine EvQ.g1 rfl (fun h => ?_) (fun h => ?_) <;> ((first | replace h := X.nm h | skip); try have hne := ne_len h)) | (refine EvQ.pick rfl (fun _ => rfl) (fun _ => rfl) (fun h => ?_) (fun h => ?_) <;> ((first | replace h := X.nm h | skip); try have hne := ne_len h)) | refine EvQ.fin X.rs ?_ | refine EvQ.fin1 (fun _ => rfl) rfl ?_)
      refine EvQ.calv rfl rfl rfl rfl (J.put (own := own) hs hln (to := s.length) (by omega) (by omega)) ?_
      intro w hp' p
      have hu := p.up J
      obtain ⟨v', pa, pc, pb, po, pf, pn, pl, pd⟩ := p.un
      have pol := po.lp
      repeat' (first | refine EvQ.run ?_ | (refine EvQ.pickB rfl rfl rfl ?_) | (refine EvQ.cond rfl (fun h => ?_) (fun h => ?_) <;> ((first | replace h := X.nm h | skip); try have hne := ne_len h)) | (refine EvQ.g1 rfl (fun h => ?_) (fun h => ?_) <;> ((first | replace h := X.nm h | skip); try have hne := ne_len h)) | (refine EvQ.pick rfl (fun _ => rfl) (fun _ => rfl) (fun h => ?_) (fun h => ?_) <;> ((first | replace h := X.nm h | skip); try have hne := ne_len h)) | refine EvQ.fin X.rs ?_ | refine EvQ.fin1 (fun _ => rfl) rfl ?_)
      refine ⟨_, _, rfl, ⟨v', by rw [← jg]; rfl, by rw [← jg]; exact po, fun id e => ?_, hu⟩⟩
      have jn := J.nx
      rcases pf with q | q
      · have := J.fresh id (q ▸ e); omega
      · have := q id e; omega
end Go.Proofs.Ytddohjlkjakdlaa
