import Derived.Test.YtddohjlkjakdlaaEvE
import Derived.Test.YtddohjlkjakdlaaPly3
set_option linter.unusedVariables false
set_option linter.unusedSimpArgs false
set_option linter.unusedSectionVars false
-- StorePlays: the document's store: Put, Get, Remove (EvHp EvOwn)
namespace Go.Proofs.Ytddohjlkjakdlaa
open Go hiding Fn
open Ev tab
attribute [local irreducible] EvP EvD EvL EvC evGds evLs C.run sK bK gK pK fK lpB stepD matchS
set_option maxHeartbeats 32000000 in
theorem rput_loop1 (hp0 : Hp) (s : Nat) (v0 : V) (l : List En) (b : Nat) (e : En) (h : RefV hp0 s v0 l b) (he : EOK e) (lo : Lo) (hlo : shed [] lo = LSp e) (tm : Tm)
    (hk : [0, 3, 5].map (fun x => (x, tm x)) = [(0, .pt s 0 0), (3, .lp 3 0), (5, dnV l.length)]) :
    ∃ r, EvL F [0, 3, 5] [] (lpB (d24.body.lps.getD 0 .skip)) ⟨tm, lo, hp0⟩ r ∧ XtQ 0 [(0, .pt s 0 0), (3, .lp 3 0)] (fun lo hp => lo = LSp e ∧ ∃ v, RefV hp s v (siv (fun x => fitB x e.q) l 0) b ∧ Fr s hp0 v0 hp v) r := by
  have hl0 := h.len
  refine EvL.invQ (S := Nat) (fun k => [(0, .pt s 0 0), (3, .lp 3 0), (5, dnV k)]) (fun k lo hp => shed [] lo = LSp e ∧ k ≤ l.length ∧ ∃ v, RefV hp s v (siv (fun x => fitB x e.q) l k) b ∧ Fr s hp0 v0 hp v) (fun k => k) _ ?_ l.length tm lo hp0 ⟨hlo, Nat.le_refl _, v0, by rw [siv_all]; exact h, .refl _ _ _⟩ hk
  intro k lo hp ⟨e1, e2, v, hS, hF⟩
  rw [e1]
  cases k with
  | zero =>
    repeat' (first | refine EvQ.run ?_ | (refine EvQ.pickB rfl rfl rfl ?_) | (refine EvQ.cond rfl (fun h => ?_) (fun h => ?_) <;> ((first | replace h := X.nm h | skip); try have hne := ne_len h)) | (refine EvQ.g1 rfl (fun h => ?_) (fun h => ?_) <;> ((first | replace h := X.nm h | skip); try have hne := ne_len h)) | (refine EvQ.pick rfl (fun _ => rfl) (fun _ => rfl) (fun h => ?_) (fun h => ?_) <;> ((first | replace h := X.nm h | skip); try have hne := ne_len h)) | refine EvQ.fin X.rs ?_ | refine EvQ.fin1 (fun _ => rfl) rfl ?_)
    exact EvQ.xt (.mk' X.kv ⟨rfl, v, hS, hF⟩)
  | succ k =>
    have hk : k < l.length := e2
    have hg := siv_get (p := fun x => fitB x e.q) hk
    have hlen := hS.len
    have hrl : ((siv (fun x => fitB x e.q) l (k + 1)).map rowEn).length = (siv (fun x => fitB x e.q) l (k + 1)).length := List.length_map _
    have hlt : k < (siv (fun x => fitB x e.q) l (k + 1)).length := by
      rcases Nat.lt_or_ge k (siv (fun x => fitB x e.q) l (k + 1)).length with q | q
      · exact q
      · rw [List.getElem?_eq_none q] at hg; cases hg
    have hge : ((siv (fun x => fitB x e.q) l (k + 1)).map rowEn).getD k [] = rowEn (l.getD k e0) := by rw [List.getD, List.getElem?_map, hg]; rfl
    have hE := h.ok _ (mem_getD hk)
    have k1 := rkey_ok (l.getD k e0).q hE.q.k1 hE.q.k2 hE.q.k3
    have k2 := rkey_ok e.q he.q.k1 he.q.k2 he.q.k3
    have m := rmatch_ok (l.getD k e0) e.q hE.q.f hE.s he.q.f hE.t
    have f1 := fit_1 (en := l.getD k e0) (q := e.q)
    have f2 := fit_2 (en := l.getD k e0) (q := e.q)
    have f3 := fit_3 (en := l.getD k e0) (q := e.q)
    have c3 := rowEn_clo (l.getD k e0)
    have c4 := rowRq_clo e.q
    have c5 := rowRq_clo (l.getD k e0).q
    have hdn := dnV_sub k (by omega)
    have hhit := siv_hit (p := fun x => fitB x e.q) hk
    have hmiss := siv_miss (p := fun x => fitB x e.q) hk
    have dr := fun (own : Bool) => rout_ok (own := own) hp s v _ b k hS hlt
    have hobj := hS.obj
    have hR := hS.o.sl.rd
    have vl := hS.o.lp
    have vc := hS.o.cells
    have vk := hS.o.keep
    generalize l.getD k e0 = en at *
    generalize siv (fun x => fitB x e.q) l (k + 1) = L at *
    generalize keyS en.q = K1 at *
    generalize keyS e.q = K2 at *
    generalize matchS en e.q = B at *
    have e5 : dnV (k + 1) = .it .i64 (Int.ofNat k) := rfl
    rw [e5]
    repeat' (first | refine EvQ.run ?_ | refine EvQ.lift (fun _ zn => X.pcall (k1) X.cq rfl X.al rfl zn) ?_ | refine EvQ.lift (fun _ zn => X.pcallG (k1) rfl X.cq rfl X.al rfl zn) ?_ | refine EvQ.lift (fun _ zn => X.pcallC (k1) rfl X.cq rfl X.al rfl zn) ?_ | refine EvQ.lift (fun _ zn => X.pcallT (k1) (by decide) X.cq rfl X.al rfl zn) ?_ | refine EvQ.lift (fun _ zn => X.call rfl X.al (k1) zn) ?_ | refine EvQ.lift (fun _ zn => X.pcall (k2) X.cq rfl X.al rfl zn) ?_ | refine EvQ.lift (fun _ zn => X.pcallG (k2) rfl X.cq rfl X.al rfl zn) ?_ | refine EvQ.lift (fun _ zn => X.pcallC (k2) rfl X.cq rfl X.al rfl zn) ?_ | refine EvQ.lift (fun _ zn => X.pcallT (k2) (by decide) X.cq rfl X.al rfl zn) ?_ | refine EvQ.lift (fun _ zn => X.call rfl X.al (k2) zn) ?_ | refine EvQ.lift (fun _ zn => X.pcall (m) X.cq rfl X.al rfl zn) ?_ | refine EvQ.lift (fun _ zn => X.pcallG (m) rfl X.cq rfl X.al rfl zn) ?_ | refine EvQ.lift (fun _ zn => X.pcallC (m) rfl X.cq rfl X.al rfl zn) ?_ | refine EvQ.lift (fun _ zn => X.pcallT (m) (by decide) X.cq rfl X.al rfl zn) ?_ | refine EvQ.lift (fun _ zn => X.call rfl X.al (m) zn) ?_ | (refine EvQ.pickB rfl rfl rfl ?_) | (refine EvQ.cond rfl (fun h => ?_) (fun h => ?_) <;> ((first | replace h := X.nm h | skip); try have hne := ne_len h)) | (refine EvQ.g1 rfl (fun h => ?_) (fun h => ?_) <;> ((first | replace h := X.nm h | skip); try have hne := ne_len h)) | (refine EvQ.pick rfl (fun _ => rfl) (fun _ => rfl) (fun h => ?_) (fun h => ?_) <;> ((first | replace h := X.nm h | skip); try have hne := ne_len h)) | refine EvQ.fin X.rs ?_ | refine EvQ.fin1 (fun _ => rfl) rfl ?_)
    all_goals
      first
        | (refine EvQ.go k X.kv ⟨X.lo, by omega, v, ?_, hF⟩ (by omega); rw [← hmiss (f3 (by assumption))]; exact hS)
        | (refine EvQ.go k X.kv ⟨X.lo, by omega, v, ?_, hF⟩ (by omega); rw [← hmiss (f2 (by assumption))]; exact hS)
        | skip
    refine EvQ.call rfl X.al (dr false) ?_
    rintro _ hp1 ⟨rfl, v1, h1, f1'⟩
    rw [hhit (f1 (by assumption) (by assumption))] at h1
    repeat' (first | refine EvQ.run ?_ | (refine EvQ.pickB rfl rfl rfl ?_) | (refine EvQ.cond rfl (fun h => ?_) (fun h => ?_) <;> ((first | replace h := X.nm h | skip); try have hne := ne_len h)) | (refine EvQ.g1 rfl (fun h => ?_) (fun h => ?_) <;> ((first | replace h := X.nm h | skip); try have hne := ne_len h)) | (refine EvQ.pick rfl (fun _ => rfl) (fun _ => rfl) (fun h => ?_) (fun h => ?_) <;> ((first | replace h := X.nm h | skip); try have hne := ne_len h)) | refine EvQ.fin X.rs ?_ | refine EvQ.fin1 (fun _ => rfl) rfl ?_)
    exact EvQ.go k X.kv ⟨X.lo, by omega, v1, h1, hF.trans f1'⟩ (by omega)
set_option maxHeartbeats 32000000 in
theorem rput_loop2 (hp0 : Hp) (s : Nat) (v0 : V) (l : List En) (b : Nat) (e : En) (he : EOK e) (hn : costS e ≤ b) (h : RefV hp0 s v0 l b) (lo : Lo) (hlo : shed [] lo = LSp e) (tm : Tm)
    (hk : [0, 3].map (fun x => (x, tm x)) = [(0, .pt s 0 0), (3, .lp 3 0)]) :
    ∃ r, EvL F [0, 3] [] (lpB (d24.body.lps.getD 1 .skip)) ⟨tm, lo, hp0⟩ r ∧ XtQ 2 [(0, .pt s 0 0), (3, .lp 3 0)] (fun lo hp => lo = LSp e ∧ ∃ v, RefV hp s v (cutS' (b - costS e) l) b ∧ Fr s hp0 v0 hp v) r := by
  refine EvL.invQ (S := List En) (fun _ => [(0, .pt s 0 0), (3, .lp 3 0)]) (fun L lo hp => shed [] lo = LSp e ∧ cutS' (b - costS e) L = cutS' (b - costS e) l ∧ ∃ v, RefV hp s v L b ∧ Fr s hp0 v0 hp v) (fun L => L.length) _ ?_ l tm lo hp0 ⟨hlo, rfl, v0, h, .refl _ _ _⟩ hk
  intro L lo hp ⟨e1, e2, v, hS, hF⟩
  rw [e1]
  have hlen := hS.len
  have hobj := hS.obj
  have hR := hS.o.sl.rd
  have vl := hS.o.lp
  have vc := hS.o.cells
  have vk := hS.o.keep
  have hbud := hS.bud
  have htot := hS.tot
  have hrl : (L.map rowEn).length = L.length := List.length_map _
  have hnn := hS.o.len
  rw [hrl] at hnn
  have sz := rsize_ok (own := false) hp s v L b hS
  have cs := rcost_ok e he
  have c3 := rowEn_clo e
  have hce := he.cost
  by_cases hc : b - costS e < totS L
  · have hpos : 0 < L.length := by
      cases L with
      | nil => simp [totS] at hc
      | cons a r => simp
    have dr := rout_ok (own := false) hp s v L b (L.length - 1) hS (by omega)
    have hg := cutS_go hc
    generalize costS e = C at *
    repeat' (first | refine EvQ.run ?_ | refine EvQ.lift (fun _ zn => X.pcall (sz) X.cq rfl X.al rfl zn) ?_ | refine EvQ.lift (fun _ zn => X.pcallG (sz) rfl X.cq rfl X.al rfl zn) ?_ | refine EvQ.lift (fun _ zn => X.pcallC (sz) rfl X.cq rfl X.al rfl zn) ?_ | refine EvQ.lift (fun _ zn => X.pcallT (sz) (by decide) X.cq rfl X.al rfl zn) ?_ | refine EvQ.lift (fun _ zn => X.call rfl X.al (sz) zn) ?_ | refine EvQ.lift (fun _ zn => X.pcall (cs) X.cq rfl X.al rfl zn) ?_ | refine EvQ.lift (fun _ zn => X.pcallG (cs) rfl X.cq rfl X.al rfl zn) ?_ | refine EvQ.lift (fun _ zn => X.pcallC (cs) rfl X.cq rfl X.al rfl zn) ?_ | refine EvQ.lift (fun _ zn => X.pcallT (cs) (by decide) X.cq rfl X.al rfl zn) ?_ | refine EvQ.lift (fun _ zn => X.call rfl X.al (cs) zn) ?_ | (refine EvQ.pickB rfl rfl rfl ?_) | (refine EvQ.cond rfl (fun h => ?_) (fun h => ?_) <;> ((first | replace h := X.nm h | skip); try have hne := ne_len h)) | (refine EvQ.g1 rfl (fun h => ?_) (fun h => ?_) <;> ((first | replace h := X.nm h | skip); try have hne := ne_len h)) | (refine EvQ.pick rfl (fun _ => rfl) (fun _ => rfl) (fun h => ?_) (fun h => ?_) <;> ((first | replace h := X.nm h | skip); try have hne := ne_len h)) | refine EvQ.fin X.rs ?_ | refine EvQ.fin1 (fun _ => rfl) rfl ?_)
    refine EvQ.call rfl X.al dr ?_
    rintro _ hp1 ⟨rfl, v1, h1, f1⟩
    repeat' (first | refine EvQ.run ?_ | (refine EvQ.pickB rfl rfl rfl ?_) | (refine EvQ.cond rfl (fun h => ?_) (fun h => ?_) <;> ((first | replace h := X.nm h | skip); try have hne := ne_len h)) | (refine EvQ.g1 rfl (fun h => ?_) (fun h => ?_) <;> ((first | replace h := X.nm h | skip); try have hne := ne_len h)) | (refine EvQ.pick rfl (fun _ => rfl) (fun _ => rfl) (fun h => ?_) (fun h => ?_) <;> ((first | replace h := X.nm h | skip); try have hne := ne_len h)) | refine EvQ.fin X.rs ?_ | refine EvQ.fin1 (fun _ => rfl) rfl ?_)
    refine EvQ.go (L.eraseIdx (L.length - 1)) X.kv ⟨X.lo, by rw [← hg]; exact e2, v1, h1, hF.trans f1⟩ ?_
    show (L.eraseIdx (L.length - 1)).length < L.length
    rw [List.length_eraseIdx_of_lt (by omega)]; omega
  · have he2 := cutS_end (m := b - costS e) (l := L) (by omega)
    generalize costS e = C at *
    repeat' (first | refine EvQ.run ?_ | refine EvQ.lift (fun _ zn => X.pcall (sz) X.cq rfl X.al rfl zn) ?_ | refine EvQ.lift (fun _ zn => X.pcallG (sz) rfl X.cq rfl X.al rfl zn) ?_ | refine EvQ.lift (fun _ zn => X.pcallC (sz) rfl X.cq rfl X.al rfl zn) ?_ | refine EvQ.lift (fun _ zn => X.pcallT (sz) (by decide) X.cq rfl X.al rfl zn) ?_ | refine EvQ.lift (fun _ zn => X.call rfl X.al (sz) zn) ?_ | refine EvQ.lift (fun _ zn => X.pcall (cs) X.cq rfl X.al rfl zn) ?_ | refine EvQ.lift (fun _ zn => X.pcallG (cs) rfl X.cq rfl X.al rfl zn) ?_ | refine EvQ.lift (fun _ zn => X.pcallC (cs) rfl X.cq rfl X.al rfl zn) ?_ | refine EvQ.lift (fun _ zn => X.pcallT (cs) (by decide) X.cq rfl X.al rfl zn) ?_ | refine EvQ.lift (fun _ zn => X.call rfl X.al (cs) zn) ?_ | (refine EvQ.pickB rfl rfl rfl ?_) | (refine EvQ.cond rfl (fun h => ?_) (fun h => ?_) <;> ((first | replace h := X.nm h | skip); try have hne := ne_len h)) | (refine EvQ.g1 rfl (fun h => ?_) (fun h => ?_) <;> ((first | replace h := X.nm h | skip); try have hne := ne_len h)) | (refine EvQ.pick rfl (fun _ => rfl) (fun _ => rfl) (fun h => ?_) (fun h => ?_) <;> ((first | replace h := X.nm h | skip); try have hne := ne_len h)) | refine EvQ.fin X.rs ?_ | refine EvQ.fin1 (fun _ => rfl) rfl ?_)
    rw [he2] at e2
    exact EvQ.xt (.mk' X.kv ⟨rfl, v, by rw [← e2]; exact hS, hF⟩)
/-- an entry is put ahead of the list: what the heap is then -/
def hpA (hp : Hp) (e : En) (l : List En) (s b : Nat) : Hp := hset (hnew (hset (hnew hp ⟨12, false, [rowEn e]⟩) hp.next none) ⟨12, false, [rowEn e] ++ l.map rowEn⟩) s (some ⟨2, false, [[.hs (hp.next + 1) 0 (1 + (l.map rowEn).length), .it .i64 (Int.ofNat b)]]⟩)
theorem ahead_ok {hp : Hp} {s : Nat} {v : V} {l : List En} {b : Nat} {e : En} (h : RefV hp s v l b) (he : EOK e) (hb : totS l + costS e ≤ b) : ∃ v', RefV (hpA hp e l s b) s v' (e :: l) b ∧ Fr s hp v (hpA hp e l s b) v' := by
  have hlt := h.lt
  have hlim := h.lim
  have e1 : 1 + (l.map rowEn).length = ((e :: l).map rowEn).length := by simp; omega
  refine ⟨.hs (hp.next + 1) 0 ((e :: l).map rowEn).length, ⟨?_, .inr ⟨hp.next + 1, rfl, ?_, ?_, ?_⟩, hlim, ?_, ?_, ?_, h.bud⟩, ⟨?_, rfl, fun j q1 q2 q3 => ?_, fun id q => .inr (by cases q; omega)⟩⟩
  · unfold hpA; rw [e1]; exact hget_set _ _ _
  · show hp.next + 1 < hp.next + 2; omega
  · show hp.lim ≤ _; omega
  · unfold hpA
    rw [hget_other (by omega)]
    exact hget_new (hset (hnew hp ⟨12, false, [rowEn e]⟩) hp.next none) _
  · show s < hp.next + 2; omega
  · intro x hx
    rcases List.mem_cons.1 hx with rfl | hx
    · exact he
    · exact h.ok x hx
  · show costS e + totS l ≤ b; omega
  · show hp.next ≤ hp.next + 2; omega
  · unfold hpA
    rw [hget_other q2, hget_old (by show j ≠ hp.next + 1; omega), hget_other (by omega), hget_old (by omega)]
end Go.Proofs.Ytddohjlkjakdlaa
