import Derived.Test.YtddohjlkjakdlaaEvE
import Derived.Test.YtddohjlkjakdlaaSto1
import Derived.Test.YtddohjlkjakdlaaEvF
set_option linter.unusedVariables false
set_option linter.unusedSimpArgs false
set_option linter.unusedSectionVars false
set_option linter.unusedVariables false
set_option linter.unusedSimpArgs false
-- the store itself: an entry goes, one is put first
namespace Go.Proofs.Ytddohjlkjakdlaa
open Go hiding Fn
open Ev tab
theorem hand_call {own : Bool} {f : Nat} {ps rs : List PT} {R : List V → Hp → Option (V × Hp)} {xs : List V} {hp h' : Hp} {v : V} (hF : F f = some (handFn ps rs R)) (hl : xs.length = ps.length) (hR : R xs hp = some (v, h')) (hv : isLp v = false) : EvC F own f xs hp (.ret v h') := by
  refine EvC.rw (fn := handFn ps rs R) (r := .ret ⟨fun _ => v, fun _ => none, h'⟩) hF rfl (by rw [beqD]; exact decide_eq_true hl) ?_ rfl
  have e0 : (List.range ps.length).map (argT xs) = xs := by rw [← hl]; exact argT_range xs
  have e : bodyD (handFn ps rs R) xs hp = notLpD v fun v => .done (.ret ⟨fun _ => v, fun _ => none, h'⟩) := by
    simp only [bodyD, handFn, e0, hR]
    rfl
  rw [e]
  have e2 : notLpD v (fun v => D.done (.ret ⟨fun _ => v, fun _ => none, h'⟩)) = .done (.ret ⟨fun _ => v, fun _ => none, h'⟩) := by
    cases v <;> first | rfl | (simp [isLp] at hv)
  rw [e2]
  exact .done _
theorem ow_rows {hp : Hp} {v : V} {rows : List (List V)} (hO : Ow hp v 12 rows) (hn : v ≠ .ns) : ownRows 12 v hp = some rows ∧ (∃ id, v = .hs id 0 rows.length) := by
  rcases hO with ⟨rfl, _⟩ | ⟨id, rfl, q1, q2, q3⟩
  · exact absurd rfl hn
  · refine ⟨?_, id, rfl⟩
    have h1 : Nat.blt id hp.lim = false := by rw [bltD]; simp; omega
    have h2 : Nat.ble (0 + rows.length) rows.length = true := by rw [bleD]; simp
    simp only [ownRows, q3, cond_false, h1, Nat.beq_refl, cond_true, h2, List.drop_zero, List.take_length]
theorem del_call {own : Bool} {hp : Hp} {v : V} {rows : List (List V)} {i : Nat} (hO : Ow hp v 12 rows) (hi : i < rows.length) (hb : rows.length ≤ 100000000) :
    EvC F own 51 [v, .it .i64 (Int.ofNat i), .it .i64 (Int.ofNat (i + 1))] hp (.ret (.hs hp.next 0 (rows.take i ++ rows.drop (i + 1)).length) (oah hp v 12 (rows.take i ++ rows.drop (i + 1)))) := by
  have hn : v ≠ .ns := by
    rintro rfl
    rcases hO with ⟨_, rfl⟩ | ⟨_, h, _⟩
    · simp at hi
    · cases h
  obtain ⟨h1, id, rfl⟩ := ow_rows hO hn
  refine hand_call (R := delR 12) rfl rfl ?_ rfl
  have h2 : Nat.blt i (i + 1) = true := by rw [bltD]; simp
  have h3 : Nat.ble (i + 1) rows.length = true := by rw [bleD]; exact decide_eq_true (by omega)
  have h4 : Nat.ble rows.length maxB = true := by rw [bleD]; exact decide_eq_true (by rw [show maxB = 140737488355328 from rfl]; omega)
  simp only [delR, h1, h2, h3, h4, cond_true]
  rfl
theorem ins_call {own : Bool} {hp : Hp} {v : V} {rows : List (List V)} {new : List V} {id2 : Nat} (hO : Ow hp v 12 rows) (h2 : hget hp id2 = some ⟨12, false, [new]⟩) (hne : idOf v ≠ some id2) (hb : rows.length ≤ 100000000) :
    EvC F own 52 [v, .it .i64 (Int.ofNat 0), .hs id2 0 1] hp (.ret (.hs hp.next 0 (new :: rows).length) (oah hp v 12 (new :: rows))) := by
  refine hand_call (R := insR 12 168) rfl rfl ?_ rfl
  have e1 : oneRow 12 (.hs id2 0 1) hp = some new := by
    simp only [oneRow, h2, cond_false, Nat.beq_refl, cond_true]; rfl
  rcases Classical.em (v = .ns) with rfl | hn
  · have : rows = [] := by
      rcases hO with ⟨_, rfl⟩ | ⟨_, h, _⟩
      · rfl
      · cases h
    subst this
    simp only [insR, e1]
    rfl
  · obtain ⟨h1, id, rfl⟩ := ow_rows hO hn
    have h3 : Nat.beq id id2 = false := by rw [beqD]; exact decide_eq_false fun e => hne (by rw [e]; rfl)
    have h4 : Nat.ble 0 rows.length = true := by rw [bleD]; simp
    have h5 : Nat.ble ((rows.length + 1) * 168) maxB = true := by rw [bleD]; exact decide_eq_true (by rw [show maxB = 140737488355328 from rfl]; omega)
    simp only [insR, e1, sameId, h3, cond_false, h1, h4, h5, cond_true]
    rfl
def totS : List En → Nat
  | [] => 0
  | e :: r => costS e + totS r
/-- a store: its object, its list, its budget -/
structure StoV (hp : Hp) (s : Nat) (v : V) (l : List En) (b : Nat) : Prop where
  obj : hget hp s = some ⟨3, false, [[v, .it .i64 (Int.ofNat (totS l)), .it .i64 (Int.ofNat b)]]⟩
  o : Ow hp v 12 (l.map rowEn)
  lim : hp.lim ≤ s
  lt : s < hp.next
  ok : ∀ e, e ∈ l → EOK e
  tot : totS l ≤ b
  bud : b ≤ 16777216
/-- what else there is stays -/
structure Fr (s : Nat) (hp : Hp) (v : V) (hp' : Hp) (v' : V) : Prop where
  next : hp.next ≤ hp'.next
  lim : hp'.lim = hp.lim
  get : ∀ j, j < hp.next → j ≠ s → idOf v ≠ some j → hget hp' j = hget hp j
  new : ∀ id, idOf v' = some id → idOf v = some id ∨ hp.next ≤ id
theorem Fr.refl (s : Nat) (hp : Hp) (v : V) : Fr s hp v hp v := ⟨Nat.le_refl _, rfl, fun _ _ _ _ => rfl, fun _ h => .inl h⟩
theorem Fr.trans {s : Nat} {a b c : Hp} {u v w : V} (x : Fr s a u b v) (y : Fr s b v c w) : Fr s a u c w :=
  ⟨Nat.le_trans x.next y.next, y.lim.trans x.lim, fun j h1 h2 h3 => by
    rw [y.get j (Nat.lt_of_lt_of_le h1 x.next) h2 (fun q => by
      rcases x.new j q with q | q
      · exact h3 q
      · omega), x.get j h1 h2 h3], fun id h => by
    rcases y.new id h with q | q
    · exact x.new id q
    · exact .inr (Nat.le_trans x.next q)⟩
theorem totS_len (l : List En) : 100 * l.length ≤ totS l := by
  induction l with
  | nil => simp
  | cons e l ih => simp only [List.length_cons, totS, costS]; omega
theorem StoV.len {hp : Hp} {s : Nat} {v : V} {l : List En} {b : Nat} (h : StoV hp s v l b) : l.length ≤ 167772 := by
  have := totS_len l; have := h.tot; have := h.bud; omega
theorem totS_erase : ∀ {l : List En} {i : Nat} {e : En}, l[i]? = some e → totS l = totS (l.eraseIdx i) + costS e
  | [], i, e, h => by simp at h
  | a :: l, 0, e, h => by
    simp only [List.getElem?_cons_zero, Option.some.injEq] at h; subst h
    simp only [List.eraseIdx_cons_zero, totS]; omega
  | a :: l, i + 1, e, h => by
    have := totS_erase (l := l) (i := i) (e := e) (by simpa using h)
    simp only [List.eraseIdx_cons_succ, totS]; omega
attribute [local irreducible] EvP EvD EvL EvC evGds evLs C.run sK bK gK pK fK lpB stepD
set_option maxHeartbeats 16000000 in
theorem drop_ok {own : Bool} (hp : Hp) (s : Nat) (v : V) (l : List En) (b i : Nat) (e : En) (h : StoV hp s v l b) (he : l[i]? = some e) :
    ∃ w hp', EvC F own 33 [.pt s 0 0, .it .i64 (Int.ofNat i)] hp (.ret w hp') ∧ w = .ag (rowEn e) ∧ ∃ v', StoV hp' s v' (l.eraseIdx i) b ∧ Fr s hp v hp' v' := by
  have hil : i < l.length := by
    rcases Nat.lt_or_ge i l.length with h | h
    · exact h
    · rw [List.getElem?_eq_none h] at he; cases he
  have hlen := h.len
  have hrl : (l.map rowEn).length = l.length := List.length_map _
  have hO := h.o
  have hobj := h.obj
  have hlim := h.lim
  have hlt := h.lt
  have htot := totS_erase he
  have hcb := h.tot
  have hbud := h.bud
  have hc := cost_ok e (h.ok e (List.mem_of_getElem? he))
  have c3 := rowEn_clo e
  have hR := hO.sl.rd
  have vl := hO.lp
  have vc := hO.cells
  have vk := hO.keep
  have hge : (l.map rowEn).getD i [] = rowEn e := by rw [List.getD, List.getElem?_map, he]; rfl
  refine EvC.ofQ d33 rfl rfl rfl ?_
  refine EvQ.run ?_
  first | refine EvQ.lift (fun _ zn => X.pcall (hc) X.cq rfl X.al rfl zn) ?_ | refine EvQ.lift (fun _ zn => X.pcallG (hc) rfl X.cq rfl X.al rfl zn) ?_ | refine EvQ.lift (fun _ zn => X.pcallC (hc) rfl X.cq rfl X.al rfl zn) ?_ | refine EvQ.lift (fun _ zn => X.pcallT (hc) (by decide) X.cq rfl X.al rfl zn) ?_ | refine EvQ.lift (fun _ zn => X.call rfl X.al (hc) zn) ?_
  try refine EvQ.run ?_
  have hne : ∀ id, idOf v = some id → id ≠ s := fun id q e2 => by
    rcases hO with ⟨rfl, _⟩ | ⟨id', rfl, _, _, q3⟩
    · cases q
    · cases q; subst e2; rw [hobj] at q3; cases q3
  have hO1 : Ow (hset hp s (some ⟨3, false, [[v, .it .i64 (Int.ofNat (totS l - costS e)), .it .i64 (Int.ofNat b)]]⟩)) v 12 (l.map rowEn) := hO.get (Nat.le_refl _) rfl (fun id q => hget_other (hne id q))
  have dc := del_call (own := true) hO1 (i := i) (by rw [hrl]; exact hil) (by omega)
  have hn1 : ((hset hp s (some ⟨3, false, [[v, .it .i64 (Int.ofNat (totS l - costS e)), .it .i64 (Int.ofNat b)]]⟩))).next = hp.next := rfl
  have hk1 : ∀ j, j ≠ s → hget (hset hp s (some ⟨3, false, [[v, .it .i64 (Int.ofNat (totS l - costS e)), .it .i64 (Int.ofNat b)]]⟩)) j = hget hp j := fun j q => hget_other q
  have er : (l.map rowEn).take i ++ (l.map rowEn).drop (i + 1) = (l.eraseIdx i).map rowEn := by
    rw [List.eraseIdx_eq_take_drop_succ, List.map_append, List.map_take, List.map_drop]
  rw [er] at dc
  have ht : totS l - costS e = totS (l.eraseIdx i) := by omega
  have hsn : idOf v ≠ some s := fun q => hne s q rfl
  have hg2 : hget (oah (hset hp s (some ⟨3, false, [[v, .it .i64 (Int.ofNat (totS l - costS e)), .it .i64 (Int.ofNat b)]]⟩)) v 12 ((l.eraseIdx i).map rowEn)) s = some ⟨3, false, [[v, .it .i64 (Int.ofNat (totS l - costS e)), .it .i64 (Int.ofNat b)]]⟩ := (oah_get hsn (by rw [hn1]; omega)).trans (hget_set _ _ _)
  have hl2 : ((oah (hset hp s (some ⟨3, false, [[v, .it .i64 (Int.ofNat (totS l - costS e)), .it .i64 (Int.ofNat b)]]⟩)) v 12 ((l.eraseIdx i).map rowEn))).lim ≤ s := by rw [oah_lim]; exact hlim
  have hn2 : ((oah (hset hp s (some ⟨3, false, [[v, .it .i64 (Int.ofNat (totS l - costS e)), .it .i64 (Int.ofNat b)]]⟩)) v 12 ((l.eraseIdx i).map rowEn))).next = hp.next + 1 := oah_next
  have hll2 : ((oah (hset hp s (some ⟨3, false, [[v, .it .i64 (Int.ofNat (totS l - costS e)), .it .i64 (Int.ofNat b)]]⟩)) v 12 ((l.eraseIdx i).map rowEn))).lim = hp.lim := oah_lim
  have hk2 : ∀ j, j < hp.next → j ≠ s → idOf v ≠ some j → hget (oah (hset hp s (some ⟨3, false, [[v, .it .i64 (Int.ofNat (totS l - costS e)), .it .i64 (Int.ofNat b)]]⟩)) v 12 ((l.eraseIdx i).map rowEn)) j = hget hp j := fun j q1 q2 q3 => (oah_get (hp := (hset hp s (some ⟨3, false, [[v, .it .i64 (Int.ofNat (totS l - costS e)), .it .i64 (Int.ofNat b)]]⟩))) q3 q1).trans (hk1 j q2)
  have hw2 : hget (oah (hset hp s (some ⟨3, false, [[v, .it .i64 (Int.ofNat (totS l - costS e)), .it .i64 (Int.ofNat b)]]⟩)) v 12 ((l.eraseIdx i).map rowEn)) hp.next = some ⟨12, false, (l.eraseIdx i).map rowEn⟩ := oah_new
  first | refine EvQ.lift (fun _ zn => X.pcall (dc) X.cq rfl X.al rfl zn) ?_ | refine EvQ.lift (fun _ zn => X.pcallG (dc) rfl X.cq rfl X.al rfl zn) ?_ | refine EvQ.lift (fun _ zn => X.pcallC (dc) rfl X.cq rfl X.al rfl zn) ?_ | refine EvQ.lift (fun _ zn => X.pcallT (dc) (by decide) X.cq rfl X.al rfl zn) ?_ | refine EvQ.lift (fun _ zn => X.call rfl X.al (dc) zn) ?_
  try refine EvQ.run ?_
  generalize (oah (hset hp s (some ⟨3, false, [[v, .it .i64 (Int.ofNat (totS l - costS e)), .it .i64 (Int.ofNat b)]]⟩)) v 12 ((l.eraseIdx i).map rowEn)) = hp2 at *
  refine EvQ.fin1 (fun _ => rfl) rfl ?_
  refine ⟨_, _, rfl, rfl, .hs hp.next 0 ((l.eraseIdx i).map rowEn).length, ⟨by rw [← ht]; exact hget_set _ _ _, .inr ⟨hp.next, rfl, by show _ < hp2.next; omega, by show hp2.lim ≤ _; omega, ?_⟩, hl2, by show _ < hp2.next; omega, fun x hx => h.ok x (List.mem_of_mem_eraseIdx hx), by omega, hbud⟩,
    ⟨by show hp.next ≤ hp2.next; omega, hll2, fun j q1 q2 q3 => ?_, fun id q => .inr (by cases q; omega)⟩⟩
  · show hget (hset hp2 s _) hp.next = _
    rw [hget_other (by omega)]; exact hw2
  · show hget (hset hp2 s _) j = _
    rw [hget_other q2, hk2 j q1 q2 q3]
set_option maxHeartbeats 16000000 in
theorem sput_ok {own : Bool} (hp : Hp) (s : Nat) (v : V) (l : List En) (b : Nat) (e : En) (h : StoV hp s v l b) (he : EOK e) (hb : totS l + costS e ≤ b) :
    ∃ w hp', EvC F own 34 [.pt s 0 0, .ag (rowEn e)] hp (.ret w hp') ∧ w = .tu [] ∧ ∃ v', StoV hp' s v' (e :: l) b ∧ Fr s hp v hp' v' := by
  have hlen := h.len
  have hrl : (l.map rowEn).length = l.length := List.length_map _
  have hO := h.o
  have hobj := h.obj
  have hlim := h.lim
  have hlt := h.lt
  have hbud := h.bud
  have hc := cost_ok e he
  have c3 := rowEn_clo e
  have hR := hO.sl.rd
  have vl := hO.lp
  have vc := hO.cells
  have vk := hO.keep
  have hne : ∀ id, idOf v = some id → id ≠ s := fun id q e2 => by
    rcases hO with ⟨rfl, _⟩ | ⟨id', rfl, _, _, q3⟩
    · cases q
    · cases q; subst e2; rw [hobj] at q3; cases q3
  refine EvC.ofQ d34 rfl rfl rfl ?_
  refine EvQ.run ?_
  have hsn : idOf v ≠ some s := fun q => hne s q rfl
  have hA : hget (hnew hp ⟨12, false, [rowEn e]⟩) hp.next = some ⟨12, false, [rowEn e]⟩ := hget_new _ _
  have ic := ins_call (own := true) (hO.nw ⟨12, false, [rowEn e]⟩) hA (fun q => by have := hO.lt _ q; omega) (by omega)
  have hg2 : hget (oah (hnew hp ⟨12, false, [rowEn e]⟩) v 12 (rowEn e :: l.map rowEn)) s = some ⟨3, false, [[v, .it .i64 (Int.ofNat (totS l)), .it .i64 (Int.ofNat b)]]⟩ := (oah_get hsn (by rw [hnew_next]; omega)).trans ((hget_old (by omega)).trans hobj)
  have hl2 : ((oah (hnew hp ⟨12, false, [rowEn e]⟩) v 12 (rowEn e :: l.map rowEn))).lim ≤ s := by rw [oah_lim]; exact hlim
  have hn2 : ((oah (hnew hp ⟨12, false, [rowEn e]⟩) v 12 (rowEn e :: l.map rowEn))).next = hp.next + 2 := oah_next
  have hll2 : ((oah (hnew hp ⟨12, false, [rowEn e]⟩) v 12 (rowEn e :: l.map rowEn))).lim = hp.lim := oah_lim
  have hk2 : ∀ j, j < hp.next → j ≠ s → idOf v ≠ some j → hget (oah (hnew hp ⟨12, false, [rowEn e]⟩) v 12 (rowEn e :: l.map rowEn)) j = hget hp j := fun j q1 q2 q3 => (oah_get (hp := (hnew hp ⟨12, false, [rowEn e]⟩)) q3 (by rw [hnew_next]; omega)).trans (hget_old (by omega))
  have hw2 : hget (oah (hnew hp ⟨12, false, [rowEn e]⟩) v 12 (rowEn e :: l.map rowEn)) (hp.next + 1) = some ⟨12, false, rowEn e :: l.map rowEn⟩ := oah_new (hp := (hnew hp ⟨12, false, [rowEn e]⟩))
  first | refine EvQ.lift (fun _ zn => X.pcall (ic) X.cq rfl X.al rfl zn) ?_ | refine EvQ.lift (fun _ zn => X.pcallG (ic) rfl X.cq rfl X.al rfl zn) ?_ | refine EvQ.lift (fun _ zn => X.pcallC (ic) rfl X.cq rfl X.al rfl zn) ?_ | refine EvQ.lift (fun _ zn => X.pcallT (ic) (by decide) X.cq rfl X.al rfl zn) ?_ | refine EvQ.lift (fun _ zn => X.call rfl X.al (ic) zn) ?_
  try refine EvQ.run ?_
  generalize (oah (hnew hp ⟨12, false, [rowEn e]⟩) v 12 (rowEn e :: l.map rowEn)) = hp2 at *
  first | refine EvQ.lift (fun _ zn => X.pcall (hc) X.cq rfl X.al rfl zn) ?_ | refine EvQ.lift (fun _ zn => X.pcallG (hc) rfl X.cq rfl X.al rfl zn) ?_ | refine EvQ.lift (fun _ zn => X.pcallC (hc) rfl X.cq rfl X.al rfl zn) ?_ | refine EvQ.lift (fun _ zn => X.pcallT (hc) (by decide) X.cq rfl X.al rfl zn) ?_ | refine EvQ.lift (fun _ zn => X.call rfl X.al (hc) zn) ?_
  try refine EvQ.run ?_
  refine EvQ.fin (fun _ => rfl) ?_
  refine ⟨_, _, rfl, rfl, .hs (hp.next + 1) 0 (rowEn e :: l.map rowEn).length, ⟨?_, .inr ⟨hp.next + 1, rfl, by show _ < hp2.next; omega, by show hp2.lim ≤ _; omega, ?_⟩, hl2, by show _ < hp2.next; omega, fun x hx => ?_, by show costS e + totS l ≤ b; omega, hbud⟩,
    ⟨by show hp.next ≤ hp2.next; omega, hll2, fun j q1 q2 q3 => ?_, fun id q => .inr (by cases q; omega)⟩⟩
  · show hget (hset (hset hp2 s _) s _) s = _
    rw [hget_set]
    have e2 : totS (e :: l) = totS l + costS e := by show costS e + totS l = _; omega
    rw [e2]; rfl
  · show hget (hset (hset hp2 s _) s _) (hp.next + 1) = _
    rw [hget_other (by omega), hget_other (by omega)]; exact hw2
  · rcases List.mem_cons.1 hx with rfl | hx
    · exact he
    · exact h.ok x hx
  · show hget (hset (hset hp2 s _) s _) j = _
    rw [hget_other q2, hget_other q2, hk2 j q1 q2 q3]
end Go.Proofs.Ytddohjlkjakdlaa
