import Derived.Test.YtddohjlkjakdlaaEvE
import Derived.Test.YtddohjlkjakdlaaRemL
set_option linter.unusedVariables false
set_option linter.unusedSimpArgs false
-- StoreOldest's plain law: pages of one size
namespace Go.Proofs.Ytddohjlkjakdlaa
open Go hiding Fn
open Ev tab
/-- plain pages of one cost, each of a key of its own -/
structure PG (l : List En) : Prop where
  pl : PL l
  c : ∀ e, e ∈ l → costS e = 109
theorem PG.nil : PG [] := ⟨.nil, fun e h => (nomatch h)⟩
theorem PG.sub {l m : List En} (h : PG l) (s : m.Sublist l) : PG m := ⟨h.pl.sub s, fun e he => h.c e (s.subset he)⟩
theorem PG.tot : ∀ {l : List En}, (∀ e, e ∈ l → costS e = 109) → totS l = 109 * l.length
  | [], _ => rfl
  | e :: r, h => by
    have h1 := h e List.mem_cons_self
    have h2 := PG.tot (l := r) fun x hx => h x (List.mem_cons_of_mem _ hx)
    simp only [totS, List.length_cons]; omega
theorem cut_pages (m : Nat) : ∀ (k : Nat) (l : List En), l.length ≤ k → (∀ e, e ∈ l → costS e = 109) → cutGo (109 * m) k l = l.take m
  | 0, l, h, _ => by
    have : l = [] := List.length_eq_zero_iff.1 (by omega)
    subst this; simp [cutGo]
  | k + 1, l, h, hc => by
    unfold cutGo
    rw [PG.tot hc]
    by_cases q : m < l.length
    · rw [if_pos (by omega)]
      have hlen : (l.eraseIdx (l.length - 1)).length = l.length - 1 := by rw [List.length_eraseIdx_of_lt (by omega)]
      rw [cut_pages m k _ (by omega) fun e he => hc e (List.mem_of_mem_eraseIdx he), List.eraseIdx_eq_take_drop_succ, List.drop_of_length_le (by omega), List.append_nil, List.take_take, Nat.min_eq_left (by omega)]
    · rw [if_neg (by omega), List.take_of_length_le (by omega)]
/-- the keys, one touched: at most so many -/
def nextK (n : Nat) (K : List (List Nat)) (key : List Nat) : List (List Nat) := (key :: K.filter (fun x => !decide (x = key))).take n
theorem fil_all {K : List (List Nat)} {key : List Nat} (h : key ∉ K) : K.filter (fun x => !decide (x = key)) = K :=
  List.filter_eq_self.2 fun x hx => by simp only [Bool.not_eq_true', decide_eq_false_iff_not]; rintro rfl; exact h hx
theorem erase_fil : ∀ {K : List (List Nat)} {i : Nat} {key : List Nat}, K.Nodup → K[i]? = some key → K.eraseIdx i = K.filter (fun x => !decide (x = key))
  | [], i, key, _, h => by simp at h
  | a :: r, 0, key, hn, h => by
    simp only [List.getElem?_cons_zero, Option.some.injEq] at h; subst h
    rw [List.eraseIdx_cons_zero, List.filter_cons_of_neg (by simp), fil_all (List.nodup_cons.1 hn).1]
  | a :: r, i + 1, key, hn, h => by
    obtain ⟨h1, h2⟩ := List.nodup_cons.1 hn
    have h : r[i]? = some key := by simpa using h
    have : a ≠ key := by rintro rfl; exact h1 (List.mem_of_getElem? h)
    rw [List.eraseIdx_cons_succ, List.filter_cons_of_pos (by simpa using this), erase_fil h2 h]
theorem keys_get {L : List En} {i : Nat} (h : i < L.length) : (keysL L)[i]? = some (keyS (L.getD i e0).q) := by
  unfold keysL
  rw [List.getElem?_map, getD_some h]; rfl
theorem keys_len (L : List En) : (keysL L).length = L.length := List.length_map _
theorem keys_erase (L : List En) (i : Nat) : keysL (L.eraseIdx i) = (keysL L).eraseIdx i := by
  unfold keysL
  rw [List.eraseIdx_eq_take_drop_succ, List.eraseIdx_eq_take_drop_succ, List.map_append, List.map_take, List.map_drop]
theorem idx_none (q : Rq) : ∀ (l : List En) (i : Nat), idxGo q i l = none → ∀ e, e ∈ l → fitB e q = false
  | [], _, _, e, h => by cases h
  | a :: r, i, h, e, he => by
    unfold idxGo at h
    split at h
    · cases h
    · rename_i hf
      rcases List.mem_cons.1 he with rfl | he
      · simpa using hf
      · exact idx_none q r (i + 1) h e he
/-- what a touch does to the pages -/
theorem touch_hit {n : Nat} {L : List En} {q : Rq} {i : Nat} (h : PG L) (hn : L.length ≤ n) (hi : idxS L q = some i) : PG (gotL L (some i)) ∧ keysL (gotL L (some i)) = nextK n (keysL L) (keyS q) ∧ keyS q ∈ keysL L ∧ (gotL L (some i)).length ≤ n := by
  obtain ⟨h1, h2⟩ := idxS_some hi
  rw [fit_plain _ _ (h.pl.p _ (mem_getD h1)), decide_eq_true_eq] at h2
  have hg := keys_get h1
  rw [h2] at hg
  have hm : keyS q ∈ keysL L := List.mem_of_getElem? hg
  have e1 : keysL (gotL L (some i)) = keyS q :: (keysL L).filter (fun x => !decide (x = keyS q)) := by
    show keyS (L.getD i e0).q :: keysL (L.eraseIdx i) = _
    rw [h2, keys_erase, erase_fil h.pl.n hg]
  have hlen : (L.eraseIdx i).length = L.length - 1 := List.length_eraseIdx_of_lt h1
  have e2 : (gotL L (some i)).length = L.length := by show (L.eraseIdx i).length + 1 = _; omega
  have e3 : (keyS q :: (keysL L).filter (fun x => !decide (x = keyS q))).length = L.length := by rw [← e1, keys_len, e2]
  refine ⟨⟨⟨fun e he => ?_, ?_⟩, fun e he => ?_⟩, ?_, hm, by omega⟩
  · rcases List.mem_cons.1 he with rfl | he
    · exact h.pl.p _ (mem_getD h1)
    · exact h.pl.p e (List.mem_of_mem_eraseIdx he)
  · rw [e1]
    exact List.nodup_cons.2 ⟨fun hx => by have := (List.mem_filter.1 hx).2; simp at this, h.pl.n.filter _⟩
  · rcases List.mem_cons.1 he with rfl | he
    · exact h.c _ (mem_getD h1)
    · exact h.c e (List.mem_of_mem_eraseIdx he)
  · rw [e1]; unfold nextK; rw [List.take_of_length_le (by omega)]
theorem touch_miss {n : Nat} {L : List En} {p : En} (h : PG L) (hp : Plain p) (hc : costS p = 109) (h0 : 0 < n) (hi : idxS L p.q = none) : PG (putL L (n * 109) p) ∧ keysL (putL L (n * 109) p) = nextK n (keysL L) (keyS p.q) ∧ keyS p.q ∉ keysL L ∧ (putL L (n * 109) p).length ≤ n := by
  have hno : keyS p.q ∉ keysL L := fun hm => by
    obtain ⟨e, he, hk⟩ := List.mem_map.1 hm
    have := idx_none p.q L 0 hi e he
    rw [fit_plain _ _ (h.pl.p _ he), decide_eq_true hk] at this
    cases this
  have hs : siv (fun x => fitB x p.q) L 0 = L := by
    rw [siv_zero]
    exact List.filter_eq_self.2 fun e he => by rw [idx_none p.q L 0 hi e he]; rfl
  have e1 : putL L (n * 109) p = p :: L.take (n - 1) := by
    unfold putL
    rw [if_neg (by omega), hs, hc]
    congr 1
    have : n * 109 - 109 = 109 * (n - 1) := by omega
    rw [this]
    exact cut_pages (n - 1) _ _ (Nat.le_refl _) h.c
  have e2 : keysL (putL L (n * 109) p) = nextK n (keysL L) (keyS p.q) := by
    rw [e1]; unfold nextK
    rw [fil_all hno]
    obtain ⟨m, rfl⟩ : ∃ m, n = m + 1 := ⟨n - 1, by omega⟩
    show keyS p.q :: keysL (L.take m) = keyS p.q :: (keysL L).take m
    unfold keysL
    rw [List.map_take]
  refine ⟨⟨h.pl.put hp (by omega), fun e he => ?_⟩, e2, hno, ?_⟩
  · rw [e1] at he
    rcases List.mem_cons.1 he with rfl | he
    · exact hc
    · exact h.c e (List.mem_of_mem_take he)
  · rw [e1, List.length_cons, List.length_take]; omega
end Go.Proofs.Ytddohjlkjakdlaa
