import Derived.Test.YtpncefcicfhibaaGreatDoorEvE
import Derived.Test.YtpncefcicfhibaaGreatDoorRdD
set_option linter.unusedVariables false
set_option linter.unusedSimpArgs false
set_option linter.unusedSectionVars false
set_option linter.unusedVariables false
set_option linter.unusedSimpArgs false
-- (EvHp)
namespace Go.Proofs.YtpncefcicfhibaaGreatDoor
open Go hiding Fn
open Ev tab
attribute [local irreducible] EvP EvD EvL EvC evGds evLs C.run sK bK gK pK fK lpB stepD

/-- what Feed tells -/
def feedA (most : Int) (l : List Int) : List Frm × List Int × Bool := feedM most (l.length + 1) l

theorem apv2_id {hp : Hp} {l m : List Int} : ∀ id, idOf (apv2 hp l m) = some id → hp.next ≤ id := by
  intro id e
  unfold apv2 at e
  split at e
  · unfold apv at e
    split at e <;> cases e
    exact Nat.le_refl _
  · cases e; omega
set_option maxHeartbeats 4000000 in
theorem feed_ok {hp : Hp} {Q : Nat} {most : Int} {bv v : V} {buf b : List Int} (hg : RdO hp Q most [] bv 0 0) (hB : By hp bv buf) (hV : By hp v b) (hby : Bytes (buf ++ b)) (hl : buf.length + b.length ≤ 40000000) (hlim : hp.lim ≤ Q) (hQ : Q < hp.next) (hN : Nil hp) :
    ∃ out bv' hp', EvC F false 42 [.pt Q 0 0, v] hp (.ret (.tu [out, .ag [.it .i64 (badS (feedA most (buf ++ b)).2.2), .it .i64 (badC (feedA most (buf ++ b)).2.2), .it .i64 0]]) hp') ∧
      FrV hp' hp.next out (feedA most (buf ++ b)).1 ∧ RdO hp' Q most [] bv' (badS (feedA most (buf ++ b)).2.2) (badC (feedA most (buf ++ b)).2.2) ∧ By hp' bv' (feedA most (buf ++ b)).2.1 ∧ Ex hp hp' Q ∧ Nil hp' ∧ ∀ id, idOf bv' = some id → hp.next ≤ id := by
  have hgo := hg
  have hg : hget hp Q = some ⟨6, false, [rowR most [] bv 0 0]⟩ := hg
  have hlp := hB.lp
  have hvl := hV.lp
  have hQs : ∀ b, hget hp Q = some b → b.sz ≠ 1 := fun b hb => by rw [hg] at hb; cases hb; exact (by decide : (6 : Nat) ≠ 1)
  have hgA : hget (aph2 hp buf b) Q = some ⟨6, false, [rowR most [] bv 0 0]⟩ := aph2_get hN hg
  have hV' : By (aph hp buf) v b := hV.mono (aph_ex hN _ Q) hQs
  have hgA0 := aph_get hN buf hg
  have hcB : By (aph2 hp buf b) (apv2 hp buf b) (buf ++ b) := apv2_by (by omega)
  let hpE : Hp := hset (aph2 hp buf b) Q (some ⟨6, false, [rowR most [] (apv2 hp buf b) 0 0]⟩)
  have hEE : Ex hp hpE Q := (aph2_ex hN Q).trans (Ex.set _ _ _)
  have hQE : Q < hpE.next := Nat.lt_of_lt_of_le hQ hEE.next
  have hNE : Nil hpE := (aph2_nil hN).set (Nat.lt_of_lt_of_le hQ aph2_next) _
  have hBE : By hpE (apv2 hp buf b) (buf ++ b) := hcB.mono (Ex.set _ _ Q) (fun b hb => by rw [hgA] at hb; cases hb; exact (by decide : (6 : Nat) ≠ 1))
  obtain ⟨tm', lo', hp', out, bv', h, a1, a2, a3, a4, a5, a6⟩ := feed_loop (z0 := hp.next) (hpE := hpE) hQE hNE ((buf ++ b).length + 1) (buf ++ b) (apv2 hp buf b) .ns [] (tmOf [(0, .pt Q 0 0), (5, .lp 5 0), (6, .ns)]) (lset (fun _ => none) 5 [.it .i64 0, .it .i64 0, .it .i64 0]) hpE
    (Ex.refl _ _) (by omega) (by simp; omega) hby (hget_set _ _ _) hBE apv2_id (.inl ⟨rfl, rfl⟩) (by simp; omega) (by rw [hEE.lim]; exact hlim) hQE hNE rfl rfl
  refine ⟨out, bv', hp', ?_, ?_, a2, a3, hEE.trans a4, a5, a6⟩
  · have hol := a1.lp
    have a2' : hget hp' Q = some ⟨6, false, [rowR most [] bv' (badS (feedM most ((buf ++ b).length + 1) (buf ++ b)).2.2) (badC (feedM most ((buf ++ b).length + 1) (buf ++ b)).2.2)]⟩ := a2
    refine EvC.ofRw d42 rfl rfl rfl ?_
    refine X.fn ?_
    refine X.run ?_
    refine X.call (ys := [.pt Q 0 0, v]) rfl (by show (isLp _ || (isLp v || false)) = false; rw [hvl]; rfl) (begin_ok hgo hV) ?_
    refine X.run ?_
    refine X.apE (v := bv) X.w rfl hB (by simp; omega) ?_
    refine X.run ?_
    refine X.apE2 rfl rfl hV' (by omega) rfl (by omega) ?_
    refine X.run ?_
    refine X.stB (w := apv2 hp buf b) rfl hcB.cells hcB.keep X.w hgA (by rw [aph2_lim]; exact hlim) rfl (Nat.le_of_ble_eq_true rfl) rfl ?_
    refine X.run ?_
    refine X.loop (h.congr rfl rfl rfl) ?_
    refine X.run ?_
    exact X.fin_tc rfl rfl hol rfl rfl rfl rfl
  · rcases a1 with ⟨q, r⟩ | ⟨id, rows, q, q0, q1, q2, q3, q4⟩
    · exact .inl ⟨q, r⟩
    · exact .inr ⟨id, rows, q, Nat.le_trans hEE.next q0, q1, q2, q3, q4.le hEE.next⟩
/-- one frame, whole, its stream's highest bit whatever it is -/
theorem feed_one (most ty fl s x : Int) (p : List Int) (hx : x % 128 = s / 16777216) (hs : 0 ≤ s ∧ s ≤ 2147483647) (hp : p.length ≤ 16777215) :
    feedA most ([(p.length : Int) / 65536 % 256, (p.length : Int) / 256 % 256, (p.length : Int) % 256, ty, fl, x, s / 65536 % 256, s / 256 % 256, s % 256] ++ p) =
      if most < p.length then ([], [], true) else ([(ty, fl, s, p)], [], false) := by
  have hn : nOf ([(p.length : Int) / 65536 % 256, (p.length : Int) / 256 % 256, (p.length : Int) % 256, ty, fl, x, s / 65536 % 256, s / 256 % 256, s % 256] ++ p) = p.length := by
    show (p.length : Int) / 65536 % 256 * 65536 + (p.length : Int) / 256 % 256 * 256 + (p.length : Int) % 256 = p.length
    omega
  have hso : sOf ([(p.length : Int) / 65536 % 256, (p.length : Int) / 256 % 256, (p.length : Int) % 256, ty, fl, x, s / 65536 % 256, s / 256 % 256, s % 256] ++ p) = s := by
    show x % 128 * 16777216 + s / 65536 % 256 * 65536 + s / 256 % 256 * 256 + s % 256 = s
    rw [hx]; omega
  have hl : ([(p.length : Int) / 65536 % 256, (p.length : Int) / 256 % 256, (p.length : Int) % 256, ty, fl, x, s / 65536 % 256, s / 256 % 256, s % 256] ++ p).length = p.length + 9 := by simp
  unfold feedA
  rw [hl]
  unfold feedM
  rw [hl, hn, hso]
  rw [if_neg (by omega)]
  by_cases hm : most < p.length
  · rw [if_pos hm, if_pos hm]
  · rw [if_neg hm, if_neg hm, if_neg (by omega)]
    have e1 : (([(p.length : Int) / 65536 % 256, (p.length : Int) / 256 % 256, (p.length : Int) % 256, ty, fl, x, s / 65536 % 256, s / 256 % 256, s % 256] ++ p).drop (9 + (p.length : Int).toNat)) = [] := by
      apply List.drop_eq_nil_of_le; rw [hl]; omega
    have e2 : (([(p.length : Int) / 65536 % 256, (p.length : Int) / 256 % 256, (p.length : Int) % 256, ty, fl, x, s / 65536 % 256, s / 256 % 256, s % 256] ++ p).drop 9).take (p.length : Int).toNat = p := by
      show p.take (p.length : Int).toNat = p
      apply List.take_of_length_le; omega
    rw [e1, e2]
    have e3 : feedM most (p.length + 9) [] = ([], [], false) := by
      show feedM most ((p.length + 8) + 1) [] = _
      unfold feedM; rfl
    rw [e3]
    rfl

theorem feed_put (most ty fl s : Int) (p : List Int) (hr : rightB ty fl s p.length = true) : feedA most (h9 ty fl s p.length ++ p) = if most < p.length then ([], [], true) else ([(ty, fl, s, p)], [], false) := by
  simp only [rightB, decide_eq_true_eq] at hr
  have e1 : ty % 256 = ty := by omega
  have e2 : fl % 256 = fl := by omega
  have := feed_one most ty fl s (s / 16777216 % 256) p (by omega) (by omega) (by omega)
  unfold h9
  rw [e1, e2]
  exact this
theorem h9_bytes (ty fl s : Int) (n : Nat) : Bytes (h9 ty fl s n) := by
  intro x hx
  simp only [h9, List.mem_cons, List.not_mem_nil, or_false] at hx
  rcases hx with rfl | rfl | rfl | rfl | rfl | rfl | rfl | rfl | rfl <;> omega
end Go.Proofs.YtpncefcicfhibaaGreatDoor
