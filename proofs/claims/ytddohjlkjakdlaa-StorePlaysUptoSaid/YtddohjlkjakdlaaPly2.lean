import Derived.Test.YtddohjlkjakdlaaEvE
import Derived.Test.YtddohjlkjakdlaaPly1
set_option linter.unusedVariables false
set_option linter.unusedSimpArgs false
set_option linter.unusedSectionVars false
-- StorePlays: the document's store: an entry goes, one is found (EvHp EvOwn)
namespace Go.Proofs.Ytddohjlkjakdlaa
open Go hiding Fn
open Ev tab
/-- the document's store: its object, its list, its budget -/
structure RefV (hp : Hp) (w : Nat) (v : V) (l : List En) (b : Nat) : Prop where
  obj : hget hp w = some ⟨2, false, [[v, .it .i64 (Int.ofNat b)]]⟩
  o : Ow hp v 12 (l.map rowEn)
  lim : hp.lim ≤ w
  lt : w < hp.next
  ok : ∀ e, e ∈ l → EOK e
  tot : totS l ≤ b
  bud : b ≤ 16777216
theorem RefV.len {hp : Hp} {s : Nat} {v : V} {l : List En} {b : Nat} (h : RefV hp s v l b) : l.length ≤ 167772 := by
  have := totS_len l; have := h.tot; have := h.bud; omega
theorem RefV.ne {hp : Hp} {s : Nat} {v : V} {l : List En} {b : Nat} (h : RefV hp s v l b) : ∀ id, idOf v = some id → id ≠ s := fun id q e2 => by
  rcases h.o with ⟨rfl, _⟩ | ⟨id', rfl, _, _, q3⟩
  · cases q
  · cases q; subst e2; rw [h.obj] at q3; cases q3
theorem freshH_two {tm : Tm} {a b id w i o : Nat} {v : V} (h1 : tm a = .pt w i o) (h2 : tm b = v) (h3 : w ≠ id) (h4 : v = .ns ∨ ∃ j k n, v = .hs j k n ∧ j ≠ id) : freshH [a, b] tm id = true := by
  have e1 : Nat.beq w id = false := by rw [beqD]; exact decide_eq_false h3
  unfold freshH
  rw [h1]
  simp only [e1, cond_false]
  unfold freshH
  rw [h2]
  rcases h4 with rfl | ⟨j, k, n, rfl, h5⟩
  · rfl
  · have e2 : Nat.beq j id = false := by rw [beqD]; exact decide_eq_false h5
    simp only [e2, cond_false]; rfl
attribute [local irreducible] EvP EvD EvL EvC evGds evLs C.run sK bK gK pK fK lpB stepD matchS
set_option maxHeartbeats 16000000 in
theorem rout_ok {own : Bool} (hp : Hp) (w : Nat) (v : V) (l : List En) (b i : Nat) (h : RefV hp w v l b) (hi : i < l.length) :
    ∃ x hp', EvC F own 42 [.pt w 0 0, .it .i64 (Int.ofNat i)] hp (.ret x hp') ∧ x = .tu [] ∧ ∃ v', RefV hp' w v' (l.eraseIdx i) b ∧ Fr w hp v hp' v' := by
  have hlen := h.len
  have hrl : (l.map rowEn).length = l.length := List.length_map _
  have hO := h.o
  have hobj := h.obj
  have hlim := h.lim
  have hlt := h.lt
  have hS := hO.sl
  have hR := hO.sl.rd
  have vl := hO.lp
  have vc := hO.cells
  have vk := hO.keep
  have hn := hO.len
  have hne := h.ne
  have hs1 := (hS.slv (a := 0) (b := i) (Nat.zero_le _) (by rw [hrl]; omega)).2
  have hs2 := (hS.slv (a := i + 1) (b := (l.map rowEn).length) (by rw [hrl]; omega) (Nat.le_refl _)).2
  have r1 : ((l.map rowEn).drop 0).take (i - 0) = (l.take i).map rowEn := by rw [List.drop_zero, Nat.sub_zero, List.map_take]
  have r2 : ((l.map rowEn).drop (i + 1)).take ((l.map rowEn).length - (i + 1)) = (l.drop (i + 1)).map rowEn := by
    rw [← List.length_drop, List.take_length, List.map_drop]
  rw [r1] at hs1
  rw [r2] at hs2
  have q1 : ((l.take i).map rowEn).length = i := by rw [List.length_map, List.length_take]; omega
  have q2 : ((l.drop (i + 1)).map rowEn).length = l.length - (i + 1) := by rw [List.length_map, List.length_drop]
  have hlv := hO.lt
  have hk1 : ∀ j, j < hp.next → hget (hnew hp ⟨12, false, []⟩) j = hget hp j := fun j q => hget_old (by omega)
  have hk2 : ∀ j, j < hp.next → hget (hnew (hset (hnew hp ⟨12, false, []⟩) hp.next none) ⟨12, false, [] ++ (l.take i).map rowEn⟩) j = hget hp j := fun j q => (hget_old (by show j ≠ hp.next + 1; omega)).trans ((hget_other (by omega)).trans (hk1 j q))
  have els1 := (hs1.get (hp' := hnew hp ⟨12, false, []⟩) (by rw [hnew_next]; omega) rfl (fun id bk e1 e2 => by rw [hk1 id (hs1.lt id e1)]; exact e2)).els
  have els2 := (hs2.get (hp' := hnew (hset (hnew hp ⟨12, false, []⟩) hp.next none) ⟨12, false, [] ++ (l.take i).map rowEn⟩) (by show hp.next ≤ hp.next + 1 + 1; omega) rfl (fun id bk e1 e2 => by rw [hk2 id (hs2.lt id e1)]; exact e2)).els
  have hv : v = .ns ∨ ∃ j k n, v = .hs j k n ∧ j ≠ hp.next := by
    rcases hO with ⟨rfl, _⟩ | ⟨id, rfl, q, _, _⟩
    · exact .inl rfl
    · exact .inr ⟨id, _, _, rfl, by omega⟩
  have g1 : hget (hnew hp ⟨12, false, []⟩) hp.next = some ⟨12, false, []⟩ := hget_new _ _
  have g2 : hget (hnew (hset (hnew hp ⟨12, false, []⟩) hp.next none) ⟨12, false, [] ++ (l.take i).map rowEn⟩) (hp.next + 1) = some ⟨12, false, [] ++ (l.take i).map rowEn⟩ := hget_new (hset (hnew hp ⟨12, false, []⟩) hp.next none) _
  have er : ([] ++ (l.take i).map rowEn) ++ (l.drop (i + 1)).map rowEn = (l.eraseIdx i).map rowEn := by
    rw [List.nil_append, List.eraseIdx_eq_take_drop_succ, List.map_append]
  refine EvC.ofQ d42 rfl rfl rfl ?_
  refine EvQ.run ?_
  refine EvQ.lift (fun _ zn => X.slcS (v := v) (a := 0) (b := i) rfl hS rfl ⟨_, rfl⟩ (Nat.zero_le _) (by rw [hrl]; omega) zn) ?_
  refine EvQ.run ?_
  refine EvQ.lift (fun _ zn => X.slcS (v := v) (a := i + 1) (b := (l.map rowEn).length) rfl hS ⟨_, rfl⟩ rfl (by rw [hrl]; omega) (Nat.le_refl _) zn) ?_
  refine EvQ.run ?_
  refine EvQ.lift (fun _ zn => X.apf (vy := slv v 0 i) (id := hp.next) (es := []) rfl rfl els1 g1 (by rw [bleD]; exact decide_eq_true (by show hp.lim ≤ hp.next; omega)) (freshH_two rfl rfl (by omega) hv) rfl (by rw [bleD]; exact decide_eq_true (by rw [q1]; show (0 + i) * 168 ≤ 140737488355328; omega)) rfl zn) ?_
  refine EvQ.run ?_
  refine EvQ.lift (fun _ zn => X.apf (vy := slv v (i + 1) (l.map rowEn).length) (id := hp.next + 1) (es := [] ++ (l.take i).map rowEn) rfl rfl els2 g2 (by rw [bleD]; exact decide_eq_true (by show hp.lim ≤ hp.next + 1; omega)) rfl (by rw [List.nil_append]; exact (Nat.zero_add _).symm) (by rw [bleD]; exact decide_eq_true (by rw [q1, q2]; show (0 + i + (l.length - (i + 1))) * 168 ≤ 140737488355328; omega)) rfl zn) ?_
  rw [er]
  have hobj3 : hget (hnew (hset (hnew (hset (hnew hp ⟨12, false, []⟩) hp.next none) ⟨12, false, [] ++ (l.take i).map rowEn⟩) (hp.next + 1) none) ⟨12, false, (l.eraseIdx i).map rowEn⟩) w = some ⟨2, false, [[v, .it .i64 (Int.ofNat b)]]⟩ :=
    (hget_old (by show w ≠ hp.next + 1 + 1; omega)).trans ((hget_other (by omega)).trans ((hk2 w hlt).trans hobj))
  have e9 : ([] : List (List V)).length + ((l.take i).map rowEn).length + ((l.drop (i + 1)).map rowEn).length = ((l.eraseIdx i).map rowEn).length := by
    rw [← er]; simp only [List.length_append]
  rw [e9]
  have ht := totS_erase (getD_some hi)
  have hn3 : (hnew (hset (hnew (hset (hnew hp ⟨12, false, []⟩) hp.next none) ⟨12, false, [] ++ (l.take i).map rowEn⟩) (hp.next + 1) none) ⟨12, false, (l.eraseIdx i).map rowEn⟩).next = hp.next + 3 := rfl
  have hl3 : (hnew (hset (hnew (hset (hnew hp ⟨12, false, []⟩) hp.next none) ⟨12, false, [] ++ (l.take i).map rowEn⟩) (hp.next + 1) none) ⟨12, false, (l.eraseIdx i).map rowEn⟩).lim = hp.lim := rfl
  have hw3 : hget (hnew (hset (hnew (hset (hnew hp ⟨12, false, []⟩) hp.next none) ⟨12, false, [] ++ (l.take i).map rowEn⟩) (hp.next + 1) none) ⟨12, false, (l.eraseIdx i).map rowEn⟩) (hp.next + 2) = some ⟨12, false, (l.eraseIdx i).map rowEn⟩ := hget_new (hset (hnew (hset (hnew hp ⟨12, false, []⟩) hp.next none) ⟨12, false, [] ++ (l.take i).map rowEn⟩) (hp.next + 1) none) _
  have hk3 : ∀ j, j < hp.next → hget (hnew (hset (hnew (hset (hnew hp ⟨12, false, []⟩) hp.next none) ⟨12, false, [] ++ (l.take i).map rowEn⟩) (hp.next + 1) none) ⟨12, false, (l.eraseIdx i).map rowEn⟩) j = hget hp j := fun j q =>
    (hget_old (by show j ≠ hp.next + 1 + 1; omega)).trans ((hget_other (by omega)).trans (hk2 j q))
  generalize hnew (hset (hnew (hset (hnew hp ⟨12, false, []⟩) hp.next none) ⟨12, false, [] ++ (l.take i).map rowEn⟩) (hp.next + 1) none) ⟨12, false, (l.eraseIdx i).map rowEn⟩ = hp3 at *
  refine EvQ.run ?_
  refine EvQ.fin (fun _ => rfl) ?_
  refine ⟨_, _, rfl, rfl, .hs (hp.next + 2) 0 ((l.eraseIdx i).map rowEn).length, ⟨hget_set _ _ _, .inr ⟨hp.next + 2, rfl, by show _ < hp3.next; omega, by show hp3.lim ≤ _; omega, ?_⟩, by show hp3.lim ≤ _; omega, by show _ < hp3.next; omega, fun x hx => h.ok x (List.mem_of_mem_eraseIdx hx), by have := h.tot; omega, h.bud⟩,
    ⟨by show hp.next ≤ hp3.next; omega, hl3, fun j q1 q2 q3 => ?_, fun id q => .inr (by cases q; omega)⟩⟩
  · show hget (hset hp3 w _) (hp.next + 2) = _
    rw [hget_other (by omega)]; exact hw3
  · show hget (hset hp3 w _) j = _
    rw [hget_other q2, hk3 j q1]
end Go.Proofs.Ytddohjlkjakdlaa
