import Derived.Test.YtddohjlkjakdlaaEvE
import Derived.Test.YtddohjlkjakdlaaPly4
import Derived.Test.YtddohjlkjakdlaaSto6
set_option linter.unusedVariables false
set_option linter.unusedSimpArgs false
set_option linter.unusedSectionVars false
-- StorePlays: the document's store: Put, Get, Remove, whole (EvHp EvOwn)
namespace Go.Proofs.Ytddohjlkjakdlaa
open Go hiding Fn
open Ev tab
attribute [local irreducible] EvP EvD EvL EvC evGds evLs C.run sK bK gK pK fK lpB stepD matchS
set_option maxHeartbeats 32000000 in
theorem rput_ok {own : Bool} (hp : Hp) (s : Nat) (v : V) (l : List En) (b : Nat) (e : En) (h : RefV hp s v l b) (he : EOK e) :
    ∃ w hp', EvC F own 24 [.pt s 0 0, .ag (rowEn e)] hp (.ret w hp') ∧ w = .bo (putB b e) ∧ ∃ v', RefV hp' s v' (putL l b e) b ∧ Fr s hp v hp' v' := by
  have hlen := h.len
  have hobj := h.obj
  have hR := h.o.sl.rd
  have vl := h.o.lp
  have vc := h.o.cells
  have vk := h.o.keep
  have hrl : (l.map rowEn).length = l.length := List.length_map _
  have hnn := h.o.len
  rw [hrl] at hnn
  have hdn := dnV_sub l.length (by omega)
  have hc := rcost_ok e he
  have hcl := he.cost
  have hbud := h.bud
  have c3 := rowEn_clo e
  refine EvC.ofQ d24 rfl rfl rfl ?_
  repeat (first | refine EvQ.run ?_ | refine EvQ.fin X.rs ?_ | refine EvQ.fin1 (fun _ => rfl) rfl ?_)
  refine EvQ.loop (rput_loop1 hp s v l b e h he _ ?_ _ ?_) ?_
  · exact X.lo
  · exact X.kv
  rintro _ ⟨tm, lo, hp1, rfl, rfl, v1, h1, f1⟩
  have hobj1 := h1.obj
  repeat (first | refine EvQ.run ?_ | refine EvQ.lift (fun _ zn => X.pcall (hc) X.cq rfl X.al rfl zn) ?_ | refine EvQ.lift (fun _ zn => X.pcallG (hc) rfl X.cq rfl X.al rfl zn) ?_ | refine EvQ.lift (fun _ zn => X.pcallC (hc) rfl X.cq rfl X.al rfl zn) ?_ | refine EvQ.lift (fun _ zn => X.pcallT (hc) (by decide) X.cq rfl X.al rfl zn) ?_ | refine EvQ.lift (fun _ zn => X.call rfl X.al (hc) zn) ?_ | refine EvQ.fin X.rs ?_ | refine EvQ.fin1 (fun _ => rfl) rfl ?_)
  refine EvQ.cond rfl (fun q => ?_) (fun q => ?_)
  · have q : b < costS e := by simpa [sd] using q
    repeat (first | refine EvQ.run ?_ | refine EvQ.fin X.rs ?_ | refine EvQ.fin1 (fun _ => rfl) rfl ?_)
    refine ⟨_, _, rfl, ?_, v1, ?_, f1⟩
    · show V.bo false = _
      unfold putB; rw [decide_eq_true q]; rfl
    · unfold putL; rw [if_pos q]; exact h1
  · have q : costS e ≤ b := by simpa [sd] using q
    repeat (first | refine EvQ.run ?_ | refine EvQ.fin X.rs ?_ | refine EvQ.fin1 (fun _ => rfl) rfl ?_)
    refine EvQ.loop (rput_loop2 hp1 s v1 _ b e he q h1 _ ?_ _ ?_) ?_
    · exact X.lo
    · exact X.kv
    rintro _ ⟨tm, lo, hp2, rfl, rfl, v2, h2, f2⟩
    have ht := cutS_le (b - costS e) (siv (fun x => fitB x e.q) l 0)
    have hL : putL l b e = e :: cutS' (b - costS e) (siv (fun x => fitB x e.q) l 0) := by unfold putL; rw [if_neg (by omega)]
    have hB : putB b e = true := by unfold putB; rw [decide_eq_false (by omega)]; rfl
    rw [hL, hB]
    generalize cutS' (b - costS e) (siv (fun x => fitB x e.q) l 0) = L2 at *
    obtain ⟨v3, h3, f3⟩ := ahead_ok h2 he (by omega)
    have hlt2 := h2.lt
    have hlim2 := h2.lim
    have hS2 := h2.o.sl
    have hk2 : ∀ j, j < hp2.next → hget (hnew hp2 ⟨12, false, [rowEn e]⟩) j = hget hp2 j := fun j q => hget_old (by omega)
    have els2 := (hS2.get (hp' := hnew hp2 ⟨12, false, [rowEn e]⟩) (by rw [hnew_next]; omega) rfl (fun id bk e1 e2 => by rw [hk2 id (h2.o.lt id e1)]; exact e2)).els
    have g2 : hget (hnew hp2 ⟨12, false, [rowEn e]⟩) hp2.next = some ⟨12, false, [rowEn e]⟩ := hget_new _ _
    have hobj2' : hget (hnew hp2 ⟨12, false, [rowEn e]⟩) s = some ⟨2, false, [[v2, .it .i64 (Int.ofNat b)]]⟩ := (hk2 s hlt2).trans h2.obj
    have hobj2 := h2.obj
    have vl2 := h2.o.lp
    have vc2 := h2.o.cells
    have vk2 := h2.o.keep
    have hlen2 := h2.len
    have hrl2 : (L2.map rowEn).length = L2.length := List.length_map _
    repeat (first | refine EvQ.run ?_ | refine EvQ.fin X.rs ?_ | refine EvQ.fin1 (fun _ => rfl) rfl ?_)
    refine EvQ.lift (fun _ zn => X.apf (vy := v2) (id := hp2.next) (es := [rowEn e]) rfl rfl els2 g2 (by rw [bleD]; exact decide_eq_true (by show hp2.lim ≤ hp2.next; omega)) rfl rfl (by rw [bleD]; exact decide_eq_true (by rw [hrl2]; show (1 + L2.length) * 168 ≤ 140737488355328; omega)) rfl zn) ?_
    have hobj3 : hget (hnew (hset (hnew hp2 ⟨12, false, [rowEn e]⟩) hp2.next none) ⟨12, false, [rowEn e] ++ L2.map rowEn⟩) s = some ⟨2, false, [[v2, .it .i64 (Int.ofNat b)]]⟩ := (hget_old (by show s ≠ hp2.next + 1; omega)).trans ((hget_other (by omega)).trans hobj2')
    repeat (first | refine EvQ.run ?_ | refine EvQ.fin X.rs ?_ | refine EvQ.fin1 (fun _ => rfl) rfl ?_)
    exact ⟨_, hpA hp2 e L2 s b, rfl, rfl, v3, h3, (f1.trans f2).trans f3⟩
set_option maxHeartbeats 32000000 in
theorem rget_ok {own : Bool} (hp : Hp) (s : Nat) (v : V) (l : List En) (b : Nat) (q : Rq) (h : RefV hp s v l b) (hq : QOK q) :
    ∃ w hp', EvC F own 25 [.pt s 0 0, .ag (rowRq q)] hp (.ret w hp') ∧ w = hitV l (idxS l q) ∧ ∃ v', RefV hp' s v' (gotL l (idxS l q)) b ∧ Fr s hp v hp' v' := by
  have hf := rfind_ok (own := false) hp s v l b q h hq
  have hlen := h.len
  have hobj := h.obj
  have vl := h.o.lp
  have vc := h.o.cells
  have vk := h.o.keep
  have hR := h.o.sl.rd
  have hrl : (l.map rowEn).length = l.length := List.length_map _
  have c2 := rowRq_clo q
  refine EvC.ofQ d25 rfl rfl rfl ?_
  refine EvQ.run ?_
  first | refine EvQ.lift (fun _ zn => X.pcall (hf) X.cq rfl X.al rfl zn) ?_ | refine EvQ.lift (fun _ zn => X.pcallG (hf) rfl X.cq rfl X.al rfl zn) ?_ | refine EvQ.lift (fun _ zn => X.pcallC (hf) rfl X.cq rfl X.al rfl zn) ?_ | refine EvQ.lift (fun _ zn => X.pcallT (hf) (by decide) X.cq rfl X.al rfl zn) ?_ | refine EvQ.lift (fun _ zn => X.call rfl X.al (hf) zn) ?_
  try refine EvQ.run ?_
  cases ho : idxS l q with
  | none =>
    repeat' (first | refine EvQ.run ?_ | (refine EvQ.pickB rfl rfl rfl ?_) | (refine EvQ.cond rfl (fun h => ?_) (fun h => ?_) <;> ((first | replace h := X.nm h | skip); try have hne := ne_len h)) | (refine EvQ.g1 rfl (fun h => ?_) (fun h => ?_) <;> ((first | replace h := X.nm h | skip); try have hne := ne_len h)) | (refine EvQ.pick rfl (fun _ => rfl) (fun _ => rfl) (fun h => ?_) (fun h => ?_) <;> ((first | replace h := X.nm h | skip); try have hne := ne_len h)) | refine EvQ.fin X.rs ?_ | refine EvQ.fin1 (fun _ => rfl) rfl ?_)
    exact ⟨_, _, rfl, rfl, v, h, .refl _ _ _⟩
  | some i =>
    obtain ⟨hi, hfit⟩ := idxS_some ho
    have hge : (l.map rowEn).getD i [] = rowEn (l.getD i e0) := rows_getD hi
    have he := h.ok _ (mem_getD hi)
    have e1 : hitV l (some i) = .tu [.ag (rowEn (l.getD i e0)), .bo true] := rfl
    have e2 : gotL l (some i) = l.getD i e0 :: l.eraseIdx i := rfl
    have dr := rout_ok (own := false) hp s v l b i h hi
    have ht := totS_erase (getD_some hi)
    have htb := h.tot
    rw [e1, e2]
    generalize l.getD i e0 = e at *
    have c3 := rowEn_clo e
    repeat (first | refine EvQ.run ?_ | refine EvQ.fin X.rs ?_ | refine EvQ.fin1 (fun _ => rfl) rfl ?_)
    refine EvQ.call rfl X.al dr ?_
    rintro _ hp2 ⟨rfl, v2, h2, f2⟩
    generalize l.eraseIdx i = L2 at *
    obtain ⟨v3, h3, f3⟩ := ahead_ok h2 he (by omega)
    have hlt2 := h2.lt
    have hlim2 := h2.lim
    have hS2 := h2.o.sl
    have hk2 : ∀ j, j < hp2.next → hget (hnew hp2 ⟨12, false, [rowEn e]⟩) j = hget hp2 j := fun j q => hget_old (by omega)
    have els2 := (hS2.get (hp' := hnew hp2 ⟨12, false, [rowEn e]⟩) (by rw [hnew_next]; omega) rfl (fun id bk e1 e2 => by rw [hk2 id (h2.o.lt id e1)]; exact e2)).els
    have g2 : hget (hnew hp2 ⟨12, false, [rowEn e]⟩) hp2.next = some ⟨12, false, [rowEn e]⟩ := hget_new _ _
    have hobj2' : hget (hnew hp2 ⟨12, false, [rowEn e]⟩) s = some ⟨2, false, [[v2, .it .i64 (Int.ofNat b)]]⟩ := (hk2 s hlt2).trans h2.obj
    have hobj2 := h2.obj
    have vl2 := h2.o.lp
    have vc2 := h2.o.cells
    have vk2 := h2.o.keep
    have hlen2 := h2.len
    have hrl2 : (L2.map rowEn).length = L2.length := List.length_map _
    repeat (first | refine EvQ.run ?_ | refine EvQ.fin X.rs ?_ | refine EvQ.fin1 (fun _ => rfl) rfl ?_)
    refine EvQ.lift (fun _ zn => X.apf (vy := v2) (id := hp2.next) (es := [rowEn e]) rfl rfl els2 g2 (by rw [bleD]; exact decide_eq_true (by show hp2.lim ≤ hp2.next; omega)) rfl rfl (by rw [bleD]; exact decide_eq_true (by rw [hrl2]; show (1 + L2.length) * 168 ≤ 140737488355328; omega)) rfl zn) ?_
    have hobj3 : hget (hnew (hset (hnew hp2 ⟨12, false, [rowEn e]⟩) hp2.next none) ⟨12, false, [rowEn e] ++ L2.map rowEn⟩) s = some ⟨2, false, [[v2, .it .i64 (Int.ofNat b)]]⟩ := (hget_old (by show s ≠ hp2.next + 1; omega)).trans ((hget_other (by omega)).trans hobj2')
    repeat (first | refine EvQ.run ?_ | refine EvQ.fin X.rs ?_ | refine EvQ.fin1 (fun _ => rfl) rfl ?_)
    exact ⟨_, hpA hp2 e L2 s b, rfl, rfl, v3, h3, f2.trans f3⟩
set_option maxHeartbeats 32000000 in
theorem rrem_loop (hp0 : Hp) (s : Nat) (v0 : V) (l : List En) (b : Nat) (key : List Nat) (h : RefV hp0 s v0 l b) (lo : Lo) (hlo : shed [] lo = fun _ => none) (tm : Tm)
    (hk : [0, 1, 5, 6].map (fun x => (x, tm x)) = [(0, .pt s 0 0), (1, .st key), (5, .it .i64 (Int.ofNat 0)), (6, dnV l.length)]) :
    ∃ r, EvL F [0, 1, 5, 6] [] (lpB (d28.body.lps.getD 0 .skip)) ⟨tm, lo, hp0⟩ r ∧ XtQ 0 [(5, .it .i64 (Int.ofNat (l.length - (siv (keyB key) l 0).length)))] (fun lo hp => ∃ v, RefV hp s v (siv (keyB key) l 0) b ∧ Fr s hp0 v0 hp v) r := by
  have hl0 := h.len
  refine EvL.invQ (S := Nat × Nat) (fun y => [(0, .pt s 0 0), (1, .st key), (5, .it .i64 (Int.ofNat y.2)), (6, dnV y.1)]) (fun y lo hp => shed [] lo = (fun _ => none) ∧ y.1 ≤ l.length ∧ y.2 + (siv (keyB key) l y.1).length = l.length ∧ ∃ v, RefV hp s v (siv (keyB key) l y.1) b ∧ Fr s hp0 v0 hp v) (fun y => y.1) _ ?_ (l.length, 0) tm lo hp0 ⟨hlo, Nat.le_refl _, by rw [siv_all]; exact Nat.zero_add _, v0, by rw [siv_all]; exact h, .refl _ _ _⟩ hk
  intro ⟨k, n⟩ lo hp ⟨e1, e2, e3, v, hS, hF⟩
  simp only at e2 e3
  rw [e1]
  cases k with
  | zero =>
    repeat' (first | refine EvQ.run ?_ | (refine EvQ.pickB rfl rfl rfl ?_) | (refine EvQ.cond rfl (fun h => ?_) (fun h => ?_) <;> ((first | replace h := X.nm h | skip); try have hne := ne_len h)) | (refine EvQ.g1 rfl (fun h => ?_) (fun h => ?_) <;> ((first | replace h := X.nm h | skip); try have hne := ne_len h)) | (refine EvQ.pick rfl (fun _ => rfl) (fun _ => rfl) (fun h => ?_) (fun h => ?_) <;> ((first | replace h := X.nm h | skip); try have hne := ne_len h)) | refine EvQ.fin X.rs ?_ | refine EvQ.fin1 (fun _ => rfl) rfl ?_)
    refine EvQ.xt (.mk' (kvc ?_ rfl) ⟨v, hS, hF⟩)
    show V.it .i64 (Int.ofNat n) = _
    congr 2
    omega
  | succ k =>
    have hk : k < l.length := e2
    have hg := siv_get (p := keyB key) hk
    have hlen := hS.len
    have hrl : ((siv (keyB key) l (k + 1)).map rowEn).length = (siv (keyB key) l (k + 1)).length := List.length_map _
    have hlt : k < (siv (keyB key) l (k + 1)).length := by
      rcases Nat.lt_or_ge k (siv (keyB key) l (k + 1)).length with q | q
      · exact q
      · rw [List.getElem?_eq_none q] at hg; cases hg
    have hge : ((siv (keyB key) l (k + 1)).map rowEn).getD k [] = rowEn (l.getD k e0) := by rw [List.getD, List.getElem?_map, hg]; rfl
    have hE := h.ok _ (mem_getD hk)
    have hf := rkey_ok (l.getD k e0).q hE.q.k1 hE.q.k2 hE.q.k3
    have c4 := rowRq_clo (l.getD k e0).q
    have hdn := dnV_sub k (by omega)
    have hhit := siv_hit (p := keyB key) hk
    have hmiss := siv_miss (p := keyB key) hk
    have g1 : keyS (l.getD k e0).q = key → keyB key (l.getD k e0) = true := fun q => decide_eq_true q
    have g2 : ¬ keyS (l.getD k e0).q = key → keyB key (l.getD k e0) = false := fun q => decide_eq_false q
    have hle := List.length_eraseIdx_of_lt hlt
    have dr := fun (own : Bool) => rout_ok (own := own) hp s v _ b k hS hlt
    have hobj := hS.obj
    have hR := hS.o.sl.rd
    have vl := hS.o.lp
    have vc := hS.o.cells
    have vk := hS.o.keep
    generalize l.getD k e0 = en at *
    generalize hLL : siv (keyB key) l (k + 1) = L at *
    generalize keyS en.q = K at *
    have e5 : dnV (k + 1) = .it .i64 (Int.ofNat k) := rfl
    rw [e5]
    repeat' (first | refine EvQ.run ?_ | refine EvQ.lift (fun _ zn => X.pcall (hf) X.cq rfl X.al rfl zn) ?_ | refine EvQ.lift (fun _ zn => X.pcallG (hf) rfl X.cq rfl X.al rfl zn) ?_ | refine EvQ.lift (fun _ zn => X.pcallC (hf) rfl X.cq rfl X.al rfl zn) ?_ | refine EvQ.lift (fun _ zn => X.pcallT (hf) (by decide) X.cq rfl X.al rfl zn) ?_ | refine EvQ.lift (fun _ zn => X.call rfl X.al (hf) zn) ?_ | (refine EvQ.pickB rfl rfl rfl ?_) | (refine EvQ.cond rfl (fun h => ?_) (fun h => ?_) <;> ((first | replace h := X.nm h | skip); try have hne := ne_len h)) | (refine EvQ.g1 rfl (fun h => ?_) (fun h => ?_) <;> ((first | replace h := X.nm h | skip); try have hne := ne_len h)) | (refine EvQ.pick rfl (fun _ => rfl) (fun _ => rfl) (fun h => ?_) (fun h => ?_) <;> ((first | replace h := X.nm h | skip); try have hne := ne_len h)) | refine EvQ.fin X.rs ?_ | refine EvQ.fin1 (fun _ => rfl) rfl ?_)
    · refine EvQ.call rfl X.al (dr false) ?_
      rintro _ hp1 ⟨rfl, v1, h1, f1⟩
      have hhit := hhit (g1 (by assumption))
      repeat' (first | refine EvQ.run ?_ | (refine EvQ.pickB rfl rfl rfl ?_) | (refine EvQ.cond rfl (fun h => ?_) (fun h => ?_) <;> ((first | replace h := X.nm h | skip); try have hne := ne_len h)) | (refine EvQ.g1 rfl (fun h => ?_) (fun h => ?_) <;> ((first | replace h := X.nm h | skip); try have hne := ne_len h)) | (refine EvQ.pick rfl (fun _ => rfl) (fun _ => rfl) (fun h => ?_) (fun h => ?_) <;> ((first | replace h := X.nm h | skip); try have hne := ne_len h)) | refine EvQ.fin X.rs ?_ | refine EvQ.fin1 (fun _ => rfl) rfl ?_)
      rw [hhit] at h1 hle
      exact EvQ.go (k, n + 1) X.kv ⟨X.lo, by show k ≤ _; omega, by show n + 1 + (siv (keyB key) l k).length = _; omega, v1, h1, hF.trans f1⟩ (by show k < k + 1; omega)
    · have hmiss := hmiss (g2 (by assumption))
      exact EvQ.go (k, n) X.kv ⟨X.lo, by show k ≤ _; omega, by show n + (siv (keyB key) l k).length = _; rw [← hmiss]; exact e3, v, hmiss ▸ hS, hF⟩ (by show k < k + 1; omega)
set_option maxHeartbeats 32000000 in
theorem rrem_ok {own : Bool} (hp : Hp) (s : Nat) (v : V) (l : List En) (b : Nat) (key : List Nat) (h : RefV hp s v l b) :
    ∃ w hp', EvC F own 28 [.pt s 0 0, .st key] hp (.ret w hp') ∧ w = .it .i64 (Int.ofNat (l.length - (siv (keyB key) l 0).length)) ∧ ∃ v', RefV hp' s v' (siv (keyB key) l 0) b ∧ Fr s hp v hp' v' := by
  have hlen := h.len
  have hobj := h.obj
  have hR := h.o.sl.rd
  have vl := h.o.lp
  have vc := h.o.cells
  have vk := h.o.keep
  have hrl : (l.map rowEn).length = l.length := List.length_map _
  have hnn := h.o.len
  rw [hrl] at hnn
  have hdn := dnV_sub l.length (by omega)
  refine EvC.ofQ d28 rfl rfl rfl ?_
  repeat (first | refine EvQ.run ?_ | refine EvQ.fin X.rs ?_ | refine EvQ.fin1 (fun _ => rfl) rfl ?_)
  refine EvQ.loop (rrem_loop hp s v l b key h _ ?_ _ ?_) ?_
  · exact X.lo
  · exact X.kv
  rintro _ ⟨tm, lo, hp1, rfl, v1, h1, f1⟩
  repeat' (first | refine EvQ.run ?_ | (refine EvQ.pickB rfl rfl rfl ?_) | (refine EvQ.cond rfl (fun h => ?_) (fun h => ?_) <;> ((first | replace h := X.nm h | skip); try have hne := ne_len h)) | (refine EvQ.g1 rfl (fun h => ?_) (fun h => ?_) <;> ((first | replace h := X.nm h | skip); try have hne := ne_len h)) | (refine EvQ.pick rfl (fun _ => rfl) (fun _ => rfl) (fun h => ?_) (fun h => ?_) <;> ((first | replace h := X.nm h | skip); try have hne := ne_len h)) | refine EvQ.fin X.rs ?_ | refine EvQ.fin1 (fun _ => rfl) rfl ?_)
  exact ⟨_, _, rfl, rfl, v1, h1, f1⟩
end Go.Proofs.Ytddohjlkjakdlaa
