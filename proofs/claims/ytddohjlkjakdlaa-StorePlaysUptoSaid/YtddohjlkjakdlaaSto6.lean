import Derived.Test.YtddohjlkjakdlaaEvE
import Derived.Test.YtddohjlkjakdlaaSto5
set_option linter.unusedVariables false
set_option linter.unusedSimpArgs false
set_option linter.unusedSectionVars false
set_option linter.unusedVariables false
set_option linter.unusedSimpArgs false
-- the store: Remove, Keys, what it tells of itself
namespace Go.Proofs.Ytddohjlkjakdlaa
open Go hiding Fn
open Ev tab
attribute [local irreducible] EvP EvD EvL EvC evGds evLs C.run sK bK gK pK fK lpB stepD
def keyB (k : List Nat) (e : En) : Bool := decide (keyS e.q = k)
set_option maxHeartbeats 16000000 in
theorem rem_loop (hp0 : Hp) (s : Nat) (v0 : V) (l : List En) (b : Nat) (key : List Nat) (h : StoV hp0 s v0 l b) (lo : Lo) (hlo : shed [] lo = fun _ => none) (tm : Tm)
    (hk : [0, 1, 5, 6].map (fun x => (x, tm x)) = [(0, .pt s 0 0), (1, .st key), (5, .it .i64 (Int.ofNat l.length)), (6, dnV l.length)]) :
    ∃ r, EvL F [0, 1, 5, 6] [] (lpB (d21.body.lps.getD 0 .skip)) ⟨tm, lo, hp0⟩ r ∧ XtQ 0 [(0, .pt s 0 0), (5, .it .i64 (Int.ofNat l.length))] (fun lo hp => ∃ v, StoV hp s v (siv (keyB key) l 0) b ∧ Fr s hp0 v0 hp v) r := by
  have hl0 := h.len
  refine EvL.invQ (S := Nat) (fun k => [(0, .pt s 0 0), (1, .st key), (5, .it .i64 (Int.ofNat l.length)), (6, dnV k)]) (fun k lo hp => shed [] lo = (fun _ => none) ∧ k ≤ l.length ∧ ∃ v, StoV hp s v (siv (keyB key) l k) b ∧ Fr s hp0 v0 hp v) (fun k => k) _ ?_ l.length tm lo hp0 ⟨hlo, Nat.le_refl _, v0, by rw [siv_all]; exact h, .refl _ _ _⟩ hk
  intro k lo hp ⟨e1, e2, v, hS, hF⟩
  rw [e1]
  cases k with
  | zero =>
    repeat' (first | refine EvQ.run ?_ | (refine EvQ.pickB rfl rfl rfl ?_) | (refine EvQ.cond rfl (fun h => ?_) (fun h => ?_) <;> ((first | replace h := X.nm h | skip); try have hne := ne_len h)) | (refine EvQ.g1 rfl (fun h => ?_) (fun h => ?_) <;> ((first | replace h := X.nm h | skip); try have hne := ne_len h)) | (refine EvQ.pick rfl (fun _ => rfl) (fun _ => rfl) (fun h => ?_) (fun h => ?_) <;> ((first | replace h := X.nm h | skip); try have hne := ne_len h)) | refine EvQ.fin X.rs ?_ | refine EvQ.fin1 (fun _ => rfl) rfl ?_)
    exact EvQ.xt (.mk' X.kv ⟨v, hS, hF⟩)
  | succ k =>
    have hk : k < l.length := e2
    have hg := siv_get (p := keyB key) hk
    have hlen := hS.len
    have hrl : ((siv (keyB key) l (k + 1)).map rowEn).length = (siv (keyB key) l (k + 1)).length := List.length_map _
    have hlt : k < (siv (keyB key) l (k + 1)).length := by
      rcases Nat.lt_or_ge k (siv (keyB key) l (k + 1)).length with q | q
      · exact q
      · rw [List.getElem?_eq_none q] at hg; cases hg
    have hge : ((siv (keyB key) l (k + 1)).map rowEn).getD k [] = rowEn (l.getD k e0) := by rw [List.getD, List.getElem?_map, hg]; rfl
    have hE := h.ok _ (mem_getD hk)
    have hf := key_ok (l.getD k e0).q hE.q.k1 hE.q.k2 hE.q.k3
    have c4 := rowRq_clo (l.getD k e0).q
    have hdn := dnV_sub k (by omega)
    have hhit := siv_hit (p := keyB key) hk
    have hmiss := siv_miss (p := keyB key) hk
    unfold keyB at hhit hmiss
    have dr := fun (own : Bool) => drop_ok (own := own) hp s v _ b k _ hS hg
    have hobj := hS.obj
    have hR := hS.o.sl.rd
    have vl := hS.o.lp
    have vc := hS.o.cells
    have vk := hS.o.keep
    generalize l.getD k e0 = en at *
    generalize keyS en.q = K at *
    have e5 : dnV (k + 1) = .it .i64 (Int.ofNat k) := rfl
    rw [e5]
    repeat' (first | refine EvQ.run ?_ | refine EvQ.lift (fun _ zn => X.pcall (hf) X.cq rfl X.al rfl zn) ?_ | refine EvQ.lift (fun _ zn => X.pcallG (hf) rfl X.cq rfl X.al rfl zn) ?_ | refine EvQ.lift (fun _ zn => X.pcallC (hf) rfl X.cq rfl X.al rfl zn) ?_ | refine EvQ.lift (fun _ zn => X.pcallT (hf) (by decide) X.cq rfl X.al rfl zn) ?_ | refine EvQ.lift (fun _ zn => X.call rfl X.al (hf) zn) ?_ | (refine EvQ.pickB rfl rfl rfl ?_) | (refine EvQ.cond rfl (fun h => ?_) (fun h => ?_) <;> ((first | replace h := X.nm h | skip); try have hne := ne_len h)) | (refine EvQ.g1 rfl (fun h => ?_) (fun h => ?_) <;> ((first | replace h := X.nm h | skip); try have hne := ne_len h)) | (refine EvQ.pick rfl (fun _ => rfl) (fun _ => rfl) (fun h => ?_) (fun h => ?_) <;> ((first | replace h := X.nm h | skip); try have hne := ne_len h)) | refine EvQ.fin X.rs ?_ | refine EvQ.fin1 (fun _ => rfl) rfl ?_)
    · refine EvQ.call rfl X.al (dr false) ?_
      rintro _ hp1 ⟨rfl, v1, h1, f1⟩
      have hhit := hhit (decide_eq_true (by assumption))
      repeat' (first | refine EvQ.run ?_ | (refine EvQ.pickB rfl rfl rfl ?_) | (refine EvQ.cond rfl (fun h => ?_) (fun h => ?_) <;> ((first | replace h := X.nm h | skip); try have hne := ne_len h)) | (refine EvQ.g1 rfl (fun h => ?_) (fun h => ?_) <;> ((first | replace h := X.nm h | skip); try have hne := ne_len h)) | (refine EvQ.pick rfl (fun _ => rfl) (fun _ => rfl) (fun h => ?_) (fun h => ?_) <;> ((first | replace h := X.nm h | skip); try have hne := ne_len h)) | refine EvQ.fin X.rs ?_ | refine EvQ.fin1 (fun _ => rfl) rfl ?_)
      exact EvQ.go k X.kv ⟨X.lo, by omega, v1, hhit ▸ h1, hF.trans f1⟩ (by omega)
    · have hmiss := hmiss (decide_eq_false (by assumption))
      exact EvQ.go k X.kv ⟨X.lo, by omega, v, hmiss ▸ hS, hF⟩ (by omega)
set_option maxHeartbeats 16000000 in
theorem rem_ok {own : Bool} (hp : Hp) (s : Nat) (v : V) (l : List En) (b : Nat) (key : List Nat) (h : StoV hp s v l b) :
    ∃ w hp', EvC F own 21 [.pt s 0 0, .st key] hp (.ret w hp') ∧ w = .it .i64 (Int.ofNat (l.length - (siv (keyB key) l 0).length)) ∧ ∃ v', StoV hp' s v' (siv (keyB key) l 0) b ∧ Fr s hp v hp' v' := by
  have hlen := h.len
  have hobj := h.obj
  have hR := h.o.sl.rd
  have vl := h.o.lp
  have vc := h.o.cells
  have vk := h.o.keep
  have hrl : (l.map rowEn).length = l.length := List.length_map _
  have hnn := h.o.len
  rw [hrl] at hnn
  have hdn := dnV_sub l.length (by omega)
  have hle : (siv (keyB key) l 0).length ≤ l.length := by rw [siv_zero]; exact List.length_filter_le _ _
  refine EvC.ofQ d21 rfl rfl rfl ?_
  repeat (first | refine EvQ.run ?_ | refine EvQ.fin X.rs ?_ | refine EvQ.fin1 (fun _ => rfl) rfl ?_)
  refine EvQ.loop (rem_loop hp s v l b key h _ ?_ _ ?_) ?_
  · exact X.lo
  · exact X.kv
  rintro _ ⟨tm, lo, hp1, rfl, v1, h1, f1⟩
  have hobj1 := h1.obj
  have hn1 := h1.o.len
  rw [List.length_map] at hn1
  have vl1 := h1.o.lp
  have vc1 := h1.o.cells
  have vk1 := h1.o.keep
  repeat (first | refine EvQ.run ?_ | refine EvQ.fin X.rs ?_ | refine EvQ.fin1 (fun _ => rfl) rfl ?_)
  exact ⟨_, _, rfl, rfl, v1, h1, f1⟩
theorem len_ok {own : Bool} (hp : Hp) (s : Nat) (v : V) (l : List En) (b : Nat) (h : StoV hp s v l b) : EvC F own 17 [.pt s 0 0] hp (.ret (.it .i64 (Int.ofNat l.length)) hp) := by
  have hobj1 : hget ⟨hp.next, hp.next, hp.tr⟩ s = some ⟨3, false, [[v, .it .i64 (Int.ofNat (totS l)), .it .i64 (Int.ofNat b)]]⟩ := h.obj
  have hnn := h.o.len
  rw [List.length_map] at hnn
  have vl := h.o.lp
  have vc := h.o.cells
  have vk := h.o.keep
  refine EvC.ofRoQ d17 rfl rfl rfl ?_ rfl
  repeat' (first | refine EvQ.run ?_ | (refine EvQ.pickB rfl rfl rfl ?_) | (refine EvQ.cond rfl (fun h => ?_) (fun h => ?_) <;> ((first | replace h := X.nm h | skip); try have hne := ne_len h)) | (refine EvQ.g1 rfl (fun h => ?_) (fun h => ?_) <;> ((first | replace h := X.nm h | skip); try have hne := ne_len h)) | (refine EvQ.pick rfl (fun _ => rfl) (fun _ => rfl) (fun h => ?_) (fun h => ?_) <;> ((first | replace h := X.nm h | skip); try have hne := ne_len h)) | refine EvQ.fin X.rs ?_ | refine EvQ.fin1 (fun _ => rfl) rfl ?_)
  exact ⟨_, rfl⟩
theorem size_ok {own : Bool} (hp : Hp) (s : Nat) (v : V) (l : List En) (b : Nat) (h : StoV hp s v l b) : EvC F own 12 [.pt s 0 0] hp (.ret (.it .i64 (Int.ofNat (totS l))) hp) := by
  have hobj1 : hget ⟨hp.next, hp.next, hp.tr⟩ s = some ⟨3, false, [[v, .it .i64 (Int.ofNat (totS l)), .it .i64 (Int.ofNat b)]]⟩ := h.obj
  refine EvC.ofRoQ d12 rfl rfl rfl ?_ rfl
  repeat' (first | refine EvQ.run ?_ | (refine EvQ.pickB rfl rfl rfl ?_) | (refine EvQ.cond rfl (fun h => ?_) (fun h => ?_) <;> ((first | replace h := X.nm h | skip); try have hne := ne_len h)) | (refine EvQ.g1 rfl (fun h => ?_) (fun h => ?_) <;> ((first | replace h := X.nm h | skip); try have hne := ne_len h)) | (refine EvQ.pick rfl (fun _ => rfl) (fun _ => rfl) (fun h => ?_) (fun h => ?_) <;> ((first | replace h := X.nm h | skip); try have hne := ne_len h)) | refine EvQ.fin X.rs ?_ | refine EvQ.fin1 (fun _ => rfl) rfl ?_)
  exact ⟨_, rfl⟩
theorem new_ok {own : Bool} (hp : Hp) (b : Nat) (hb : b ≤ 16777216) (hl : hp.lim ≤ hp.next) : ∃ w hp', EvC F own 9 [.it .i64 (Int.ofNat b)] hp (.ret w hp') ∧ w = .tu [.pt hp.next 0 0, .it .i64 (Int.ofNat 0)] ∧ StoV hp' hp.next .ns [] b ∧ hp' = hnew hp ⟨3, false, [[.ns, .it .i64 (Int.ofNat 0), .it .i64 (Int.ofNat b)]]⟩ := by
  refine EvC.ofQ d9 rfl rfl rfl ?_
  have q1 : ilt (Int.ofNat b) 0 = false := by simp [sd]
  have q2 : ilt 16777216 (Int.ofNat b) = false := by simp [sd]; omega
  repeat' (first | refine EvQ.run ?_ | (refine EvQ.pickB rfl rfl rfl ?_) | (refine EvQ.cond rfl (fun h => ?_) (fun h => ?_) <;> ((first | replace h := X.nm h | skip); try have hne := ne_len h)) | (refine EvQ.g1 rfl (fun h => ?_) (fun h => ?_) <;> ((first | replace h := X.nm h | skip); try have hne := ne_len h)) | (refine EvQ.pick rfl (fun _ => rfl) (fun _ => rfl) (fun h => ?_) (fun h => ?_) <;> ((first | replace h := X.nm h | skip); try have hne := ne_len h)) | refine EvQ.fin X.rs ?_ | refine EvQ.fin1 (fun _ => rfl) rfl ?_)
  exact ⟨_, _, rfl, rfl, ⟨hget_new _ _, .ns, hl, by show hp.next < hp.next + 1; omega, (fun _ h => (nomatch h)), Nat.zero_le _, hb⟩, rfl⟩
set_option maxHeartbeats 16000000 in
theorem keys_ok {own : Bool} (hp0 : Hp) (s : Nat) (v : V) (l : List En) (b : Nat) (h : StoV hp0 s v l b) (hll : hp0.lim ≤ hp0.next) :
    ∃ w hp', EvC F own 14 [.pt s 0 0] hp0 (.ret w hp') ∧ Ow hp' w 1 (txs (l.map fun e => keyS e.q)) ∧ Up hp0.next hp0 hp' ∧ (∀ id, idOf w = some id → hp0.next ≤ id) := by
  have hlen := h.len
  have hobj := h.obj
  have hrl : (l.map rowEn).length = l.length := List.length_map _
  have hnn := h.o.len
  rw [hrl] at hnn
  have vl := h.o.lp
  have vc := h.o.cells
  have vk := h.o.keep
  refine EvC.ofQ d14 rfl rfl rfl ?_
  repeat (first | refine EvQ.run ?_ | refine EvQ.fin X.rs ?_ | refine EvQ.fin1 (fun _ => rfl) rfl ?_)
  refine EvQ.loop (QL := fun r => ∃ w, XtQ 0 [(3, w)] (fun lo hp => Ow hp w 1 (txs (l.map fun e => keyS e.q)) ∧ Up hp0.next hp0 hp ∧ (∀ id, idOf w = some id → hp0.next ≤ id)) r) ?_ ?_
  · refine EvL.invQ (S := Nat × V) (fun x => [(3, x.2), (9, v), (10, .it .i64 (Int.ofNat l.length)), (11, .it .i64 (Int.ofNat x.1))])
      (fun x lo hp => shed [5] lo = (fun _ => none) ∧ x.1 ≤ l.length ∧ Ow hp x.2 1 (txs ((l.take x.1).map fun e => keyS e.q)) ∧ Up hp0.next hp0 hp ∧ (∀ id, idOf x.2 = some id → hp0.next ≤ id)) (fun x => l.length - x.1) _ ?_ (0, .ns) _ _ _ ⟨X.lo, Nat.zero_le _, .ns, .refl _ _, fun _ q => by cases q⟩ X.kv
    intro ⟨i, w⟩ lo hp ⟨e1, e2, hO, hU, hid⟩
    simp only at e2 hO hid
    rw [e1]
    have hR : Rd hp v 12 (l.map rowEn) := h.o.sl.rd.get hU.next (fun id bk q1 q2 => by rw [hU.get id (h.o.lt _ q1)]; exact q2)
    have wl := hO.lp
    have wc := hO.cells
    have wk := hO.keep
    have hn := hO.len
    have hlm : hp.lim ≤ hp.next := by rw [hU.lim]; have := hU.next; omega
    by_cases hi : i < l.length
    · have hge := rows_getD hi
      have hE := h.ok _ (mem_getD hi)
      have hk := key_ok (l.getD i e0).q hE.q.k1 hE.q.k2 hE.q.k3
      have c4 := rowRq_clo (l.getD i e0).q
      have htk := take_getD hi e0
      have htl : (txs ((l.take i).map fun e => keyS e.q)).length = i := by rw [txs_length, List.length_map, List.length_take]; omega
      generalize l.getD i e0 = en at *
      repeat (first | refine EvQ.run ?_ | refine EvQ.lift (fun _ zn => X.pcall (hk) X.cq rfl X.al rfl zn) ?_ | refine EvQ.lift (fun _ zn => X.pcallG (hk) rfl X.cq rfl X.al rfl zn) ?_ | refine EvQ.lift (fun _ zn => X.pcallC (hk) rfl X.cq rfl X.al rfl zn) ?_ | refine EvQ.lift (fun _ zn => X.pcallT (hk) (by decide) X.cq rfl X.al rfl zn) ?_ | refine EvQ.lift (fun _ zn => X.call rfl X.al (hk) zn) ?_ | refine EvQ.fin X.rs ?_ | refine EvQ.fin1 (fun _ => rfl) rfl ?_)
      have hp' := hO.put (new := [[.st (keyS en.q)]]) hlm
      refine EvQ.go (i + 1, _) X.kv ⟨X.lo, by show i + 1 ≤ _; omega, ?_, hU.oah hU.next hid, fun id q => by cases q; exact hU.next⟩ (by show l.length - (i + 1) < l.length - i; omega)
      show Ow _ _ 1 (txs ((l.take (i + 1)).map fun e => keyS e.q))
      rw [htk, List.map_append, ← txs_append]
      exact hp'
    · repeat' (first | refine EvQ.run ?_ | (refine EvQ.pickB rfl rfl rfl ?_) | (refine EvQ.cond rfl (fun h => ?_) (fun h => ?_) <;> ((first | replace h := X.nm h | skip); try have hne := ne_len h)) | (refine EvQ.g1 rfl (fun h => ?_) (fun h => ?_) <;> ((first | replace h := X.nm h | skip); try have hne := ne_len h)) | (refine EvQ.pick rfl (fun _ => rfl) (fun _ => rfl) (fun h => ?_) (fun h => ?_) <;> ((first | replace h := X.nm h | skip); try have hne := ne_len h)) | refine EvQ.fin X.rs ?_ | refine EvQ.fin1 (fun _ => rfl) rfl ?_)
      have e3 : l.take i = l := List.take_of_length_le (by omega)
      rw [e3] at hO
      exact EvQ.xt ⟨w, .mk' X.kv ⟨hO, hU, hid⟩⟩
  · rintro _ ⟨w, tm, lo, hp, rfl, hO, hU, hid⟩
    have wl := hO.lp
    repeat (first | refine EvQ.run ?_ | refine EvQ.fin X.rs ?_ | refine EvQ.fin1 (fun _ => rfl) rfl ?_)
    exact ⟨_, _, rfl, hO, hU, hid⟩
end Go.Proofs.Ytddohjlkjakdlaa
