import Derived.Test.YtpncefcicfhibaaGreatDoorEvE
import Derived.Test.YtpncefcicfhibaaGreatDoorPin2
set_option linter.unusedVariables false
set_option linter.unusedSimpArgs false
-- a PING, heard (EvHp EvOwn)
namespace Go.Proofs.YtpncefcicfhibaaGreatDoor
open Go hiding Fn
open Ev tab
attribute [local irreducible] EvP EvD EvL EvC evGds evLs C.run sK bK gK pK fK lpB stepD
/-- bytes closed: their block is written no more; all else stays -/
theorem close_by2 {hp : Hp} {v : V} {l : List Int} (h : By hp v l) : ∃ hp', Ez hp hp' ∧ (∀ j, idOf v ≠ some j → hget hp' j = hget hp j) ∧ ∀ n, l.length + 5 ≤ n → closeC n (.sl [.one]) v hp = some (.vs 1 (bs l), hp') := by
  rcases h with ⟨rfl, rfl⟩ | rfl | ⟨id, i, fr, rows, rfl, q1, q2, q3, q4, q5⟩
  · refine ⟨hp, .refl _, fun j _ => rfl, fun n hn => ?_⟩
    cases n with
    | zero => omega
    | succ n => rfl
  · refine ⟨hp, .refl _, fun j _ => rfl, fun n hn => ?_⟩
    cases n with
    | zero => omega
    | succ n => exact clo_vs [.one] _ n hp
  · refine ⟨_, .freeze q3 (by decide), fun j hj => hget_other (fun e => hj (by rw [e]; rfl)), fun n hn => ?_⟩
    have e : ((bs rows).drop i).take l.length = bs l := by rw [bs_drop, bs_take, q5]
    have := closeC_hs (ts := [.one]) (len := l.length) q3 q2 rfl (by rw [bs_length]; exact q4) (by rw [e]; exact bs_clo l) (n := n) (by simp; omega)
    rw [e] at this
    exact this
theorem close_fr {hp hp1 : Hp} {a b c : Int} {pv : V} {p : List Int} (h : ∀ n, p.length + 5 ≤ n → closeC n (.sl [.one]) pv hp = some (.vs 1 (bs p), hp1)) : ∀ n, p.length + 10 ≤ n →
    closeCs n [.one, .one, .one, .sl [.one]] [.it .i64 a, .it .i64 b, .it .i64 c, pv] hp = some (fr a b c p, hp1) := by
  intro n hn
  obtain ⟨m, rfl⟩ : ∃ m, n = m + 1 + 1 + 1 + 1 + 1 := ⟨n - 5, by omega⟩
  have i1 : ∀ (k : Nat) (x : Int) (hp : Hp), closeC (k + 1) .one (.it .i64 x) hp = some (.it .i64 x, hp) := fun _ _ _ => rfl
  simp only [closeCs, i1, h (m + 1) (by omega)]
  rfl
/-- what stays beside the connection and its queue -/
structure Kq (qv : V) (hp hp' : Hp) : Prop where
  next : hp.next ≤ hp'.next
  lim : hp'.lim = hp.lim
  nil : Nil hp → Nil hp'
  get : ∀ j x, 1 ≤ j → idOf qv ≠ some j → hget hp j = some x → hget hp' j = some x
theorem gav_id {hp : Hp} {v : V} {n m : Nat} : ∀ id, idOf (gav hp v n m) = some id → hp.next ≤ id := by
  intro id e
  unfold gav at e
  split at e
  · split at e <;> cases e
    exact Nat.le_refl _
  · cases e; exact Nat.le_refl _
theorem ow_set {hp : Hp} {v : V} {sz j : Nat} {rows : List (List V)} {b : Option Bk} (h : Ow hp v sz rows) (hj : ∀ id, idOf v = some id → id ≠ j) : Ow (hset hp j b) v sz rows :=
  h.get (Nat.le_refl _) rfl fun id e => hget_other (hj id e)
set_option maxHeartbeats 16000000 in
theorem answer_ok {hp : Hp} {c : CnV} {ty fl s : Int} {p q : List Int} (hc : CnO hp c) (hq : Ow hp c.q 1 (bs q)) (hq0 : ∀ id, idOf c.q = some id → 2 ≤ id) (hlim : hp.lim = 0) (h2 : 2 ≤ hp.next) (hN : Nil hp) (hl : q.length + 9 + p.length ≤ 262144) (hr : rightB ty fl s p.length = true) :
    ∃ w hp', EvC F false 71 [.pt 0 0 0, .ag (fr ty fl s p)] hp (.ret w hp') ∧ (w = .bo true ∧ ∃ q', CnO hp' ⟨c.pw, q', c.out, c.inn, c.ways, c.last, c.mute, c.ev⟩ ∧ Ow hp' q' 1 (bs (q ++ (h9 ty fl s p.length ++ p))) ∧ (∀ id, idOf q' = some id → hp.next ≤ id) ∧ Kq c.q hp hp') := by
  have hcR : hget hp 0 = some ⟨26, false, [rowC c]⟩ := hc
  have ql := hq.lp
  have qc := hq.cells
  have qk := hq.keep
  have qn := hq.len
  rw [bs_length] at qn
  have pt := (put_ok [] ty fl s p (by simp; omega)).toP
  have e : putL [] ty fl s p = h9 ty fl s p.length ++ p := by unfold putL; rw [hr]; simp
  rw [e] at pt
  have hfl : (h9 ty fl s p.length ++ p).length = 9 + p.length := by simp [h9]; omega
  generalize h9 ty fl s p.length ++ p = fb at *
  have fbl := bs_length fb
  have qbl := bs_length q
  have clo := fr_clo ty fl s p
  have hlm : hp.lim ≤ hp.next := by omega
  have hO := hq.gput (new := bs fb) hlm
  have wl := hO.lp
  have wc := hO.cells
  have wk := hO.keep
  have hge : hget (gah hp c.q 1 (bs q) (bs fb)) 0 = some ⟨26, false, [rowC c]⟩ := by rw [gah_get (fun e => by have := hq0 0 e; omega) (by omega)]; exact hcR
  have hgl : (gah hp c.q 1 (bs q) (bs fb)).lim = 0 := by rw [gah_lim]; exact hlim
  unfold fr at *
  refine EvC.ofQ d71 rfl rfl rfl ?_
  repeat (first | refine EvQ.run ?_ | refine EvQ.lift (fun _ zn => X.pcall (pt) X.cq rfl X.al rfl zn) ?_ | refine EvQ.lift (fun _ zn => X.pcallG (pt) rfl X.cq rfl X.al rfl zn) ?_ | refine EvQ.lift (fun _ zn => X.pcallC (pt) rfl X.cq rfl X.al rfl zn) ?_ | refine EvQ.lift (fun _ zn => X.pcallT (pt) (by decide) X.cq rfl X.al rfl zn) ?_ | refine EvQ.lift (fun _ zn => X.call rfl X.al (pt) zn) ?_ | refine EvQ.fin X.rs ?_ | refine EvQ.fin1 (fun _ => rfl) rfl ?_)
  refine ⟨_, _, rfl, rfl, gav hp c.q (bs q).length (bs fb).length, hget_set _ _ _, ?_, gav_id, ?_⟩
  · rw [← bs_append]
    exact ow_set hO fun id e => by have := gav_id id e; omega
  · exact ⟨by rw [hset_next]; exact gah_next, by rw [hset_lim]; exact gah_lim, fun n => (gah_nil n).set (Nat.lt_of_lt_of_le (by omega) gah_next) _, fun j x h1 hj hx => by
      have hjn : j < hp.next := Nat.lt_of_not_le fun hle => by rw [hN j hle] at hx; cases hx
      rw [hget_other (by omega), gah_get hj hjn]; exact hx⟩
end Go.Proofs.YtpncefcicfhibaaGreatDoor
