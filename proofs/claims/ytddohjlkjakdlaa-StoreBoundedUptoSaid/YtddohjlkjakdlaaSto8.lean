import Derived.Test.YtddohjlkjakdlaaEvE
import Derived.Test.YtddohjlkjakdlaaSto7
import Derived.Test.YtddohjlkjakdlaaWith
import Derived.Test.YtddohjlkjakdlaaEvE
set_option linter.unusedVariables false
set_option linter.unusedSimpArgs false
-- what the store's laws share
namespace Go.Proofs.Ytddohjlkjakdlaa
open Go hiding Fn
open Ev tab
theorem storeruns_go : ∀ N M, run (callF F (N + 3000) (M + 100)) (N + 3000) (bodyD c3 [] h0) = Rt (.bo true) (hpOf (run (callF F 3000 100) 3000 (bodyD c3 [] h0))) := by intro N M; kernel_rfl
theorem storeruns_ok : EvP F 3 c3 [] [.bo true] := .closed 3000 100 rfl rfl rfl rfl storeruns_go
/-- numbers, as a slice's elements -/
def iv (l : List Int) : List (List V) := l.map fun n => [.it .i64 n]
theorem iv_length (l : List Int) : (iv l).length = l.length := by simp [iv]
theorem iv_getD {l : List Int} {i : Nat} (h : i < l.length) : (iv l).getD i [] = [.it .i64 (l.getD i 0)] := by simp [iv, List.getD, h]
theorem ints_of {es : List (List V)} (h : ShE [.it .i64] es) : ∃ l : List Int, es = iv l ∧ sizE es = l.length := by
  induction es with
  | nil => exact ⟨[], rfl, by simp [sizE]⟩
  | cons e es ih =>
    cases h with
    | cons a r =>
      obtain ⟨l, rfl, h3⟩ := ih r
      cases a with
      | cons b c =>
        cases c
        cases b with
        | it k n hw => exact ⟨n :: l, rfl, by simp only [sizE, sizL, siz, h3, List.length_cons]; omega⟩
theorem StoV.up {hp hp' : Hp} {s : Nat} {v : V} {l : List En} {b n : Nat} (h : StoV hp s v l b) (u : Up n hp hp') (hn : hp.next ≤ n) : StoV hp' s v l b :=
  ⟨by rw [u.get s (by have := h.lt; omega)]; exact h.obj, h.o.up u (fun id q => by have := h.o.lt id q; omega), by rw [u.lim]; exact h.lim, by have := u.next; have := h.lt; omega, h.ok, h.tot, h.bud⟩
theorem Rd.up {hp hp' : Hp} {v : V} {sz n : Nat} {rows : List (List V)} (h : Rd hp v sz rows) (u : Up n hp hp') (hv : ∀ id, idOf v = some id → id < n) : Rd hp' v sz rows :=
  h.get u.next fun id b hid hb => by rw [u.get id (hv id hid)]; exact hb
/-- entries without fields -/
def Plain (e : En) : Prop := e.q.fs = [] ∧ e.s.fs = []
theorem match_plain (e : En) (q : Rq) (h : e.s.fs = []) : matchS e q = true := by
  unfold matchS
  rw [h, starsS_zero (l := []) rfl]
  rfl
theorem fit_plain (e : En) (q : Rq) (h : Plain e) : fitB e q = decide (keyS e.q = keyS q) := by
  unfold fitB; rw [match_plain e q h.2, Bool.and_true]
theorem plain_page (a : List Nat) (n : Nat) : Plain (pageE a n) := ⟨rfl, rfl⟩
theorem jok_nil : JOK [] := ⟨Nat.zero_le _, fun f hf => by cases hf⟩
theorem tok_nil : TOK [] := fun f hf => by cases hf
theorem page_eok (m n : Nat) (hn : n ≤ 1000) : EOK (pageE [m] n) := ⟨⟨jok_nil, by simp [pageE], by simp [pageE], by simp [pageE]⟩, jok_nil, tok_nil, by simp only [pageE, List.length_replicate]; omega⟩
theorem page_cost (m n : Nat) : costS (pageE [m] n) = 109 + n := by
  simp only [costS, pageE, keyS, sumS, List.length_append, List.length_cons, List.length_nil, List.length_replicate]
  try omega
theorem page_key (m n : Nat) : keyS (pageE [m] n).q = [104, 116, 116, 112, 58, 47, 47, m, 47] := rfl
def keysL (l : List En) : List (List Nat) := l.map fun e => keyS e.q
/-- plain entries, each of a key of its own -/
structure PL (l : List En) : Prop where
  p : ∀ e, e ∈ l → Plain e
  n : (keysL l).Nodup
theorem PL.nil : PL [] := ⟨fun e h => (nomatch h), .nil⟩
theorem PL.sub {l m : List En} (h : PL l) (s : m.Sublist l) : PL m := ⟨fun e he => h.p e (s.subset he), h.n.sublist (s.map _)⟩
theorem cutGo_sub (m : Nat) : ∀ (k : Nat) (l : List En), (cutGo m k l).Sublist l
  | 0, l => .refl _
  | k + 1, l => by
    unfold cutGo
    split
    · exact (cutGo_sub m k _).trans (List.eraseIdx_sublist _ _)
    · exact .refl _
theorem cutS_sub (m : Nat) (l : List En) : (cutS' m l).Sublist l := cutGo_sub m _ _
theorem siv_fit {l : List En} {q : Rq} (h : PL l) : siv (fun x => fitB x q) l 0 = l.filter (fun e => !decide (keyS e.q = keyS q)) := by
  rw [siv_zero]
  exact List.filter_congr fun e he => by rw [fit_plain e q (h.p e he)]
theorem PL.put {l : List En} {b : Nat} {e : En} (h : PL l) (he : Plain e) (hb : costS e ≤ b) : PL (putL l b e) := by
  unfold putL
  rw [if_neg (by omega), siv_fit h]
  have hs : (cutS' (b - costS e) (l.filter (fun x => !decide (keyS x.q = keyS e.q)))).Sublist (l.filter (fun x => !decide (keyS x.q = keyS e.q))) := cutS_sub _ _
  have h2 := h.sub (hs.trans List.filter_sublist)
  refine ⟨fun x hx => ?_, ?_⟩
  · rcases List.mem_cons.1 hx with rfl | hx
    · exact he
    · exact h2.p x hx
  · show (keyS e.q :: keysL _).Nodup
    refine List.nodup_cons.2 ⟨fun hm => ?_, h2.n⟩
    obtain ⟨x, hx, hk⟩ := List.mem_map.1 hm
    have := (List.mem_filter.1 (hs.subset hx)).2
    rw [decide_eq_true hk] at this; cases this
/-- how many entries there are of a key -/
theorem keys_siv (l : List En) (k : List Nat) : keysL (siv (keyB k) l 0) = (keysL l).filter (fun x => !decide (x = k)) := by
  rw [siv_zero]
  unfold keysL
  rw [List.filter_map]; rfl
theorem filter_two {α : Type} (p : α → Bool) : ∀ l : List α, l.length = (l.filter p).length + (l.filter fun x => !p x).length
  | [] => rfl
  | a :: r => by
    have := filter_two p r
    cases h : p a <;> simp [h] <;> omega
theorem siv_len (l : List En) (k : List Nat) : l.length - (siv (keyB k) l 0).length = ((keysL l).filter (fun x => decide (x = k))).length := by
  have h1 : (siv (keyB k) l 0).length = ((keysL l).filter (fun x => !decide (x = k))).length := by rw [← keys_siv]; simp [keysL]
  have h2 := filter_two (fun x => decide (x = k)) (keysL l)
  have h3 : (keysL l).length = l.length := by simp [keysL]
  rw [h1]; omega
theorem siv_twice (l : List En) (k : List Nat) : siv (keyB k) (siv (keyB k) l 0) 0 = siv (keyB k) l 0 := by
  rw [siv_zero, siv_zero, List.filter_filter]
  simp
theorem nodup_one {α : Type} [DecidableEq α] {l : List α} (h : l.Nodup) (k : α) : (l.filter (fun x => decide (x = k))).length ≤ 1 := by
  induction l with
  | nil => simp
  | cons a r ih =>
    obtain ⟨h1, h2⟩ := List.nodup_cons.1 h
    by_cases q : a = k
    · subst q
      rw [List.filter_cons_of_pos (by simp)]
      have : r.filter (fun x => decide (x = a)) = [] := List.filter_eq_nil_iff.2 fun x hx => by
        simp only [decide_eq_true_eq]; rintro rfl; exact h1 hx
      rw [this]; simp
    · rw [List.filter_cons_of_neg (by simpa using q)]
      exact ih h2
end Go.Proofs.Ytddohjlkjakdlaa
