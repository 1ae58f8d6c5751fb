import Derived.Test.YtndodhmfdjcjgaaGreatDoorEvE
import Derived.Test.YtndodhmfdjcjgaaGreatDoorRdF
set_option linter.unusedSectionVars false
set_option linter.unusedVariables false
set_option linter.unusedSimpArgs false
-- the reader with a preface, fed (EvHp EvOwn)
namespace Go.Proofs.YtndodhmfdjcjgaaGreatDoor
open Go hiding Fn
open Ev tab
attribute [local irreducible] EvP EvD EvL EvC evGds evLs C.run sK bK gK pK fK lpB stepD
set_option maxHeartbeats 4000000 in
theorem feed_loopG {Q z0 : Nat} {most : Int} {pre : List Nat} {hpE : Hp} (hQE : Q < hpE.next) (hNE : Nil hpE) : ∀ (n : Nat) (buf : List Int) (bv : V) (out : V) (fs : List Frm) (tm : Tm) (lo : Lo) (hp : Hp), Ex hpE hp Q -> buf.length < n -> buf.length <= 100000000 -> Bytes buf -> RdO hp Q most pre bv 0 0 -> By hp bv buf -> (∀ id, idOf bv = some id -> z0 <= id) -> FrV hp hpE.next out fs -> fs.length + buf.length <= 100000000 ->
  hp.lim <= Q -> Q < hp.next -> Nil hp -> lo 5 = some [.it .i64 0, .it .i64 0, .it .i64 0] ->
  [0, 5, 6].map (fun s => (s, tm s)) = [(0, .pt Q 0 0), (5, .lp 5 0), (6, out)] ->
  ∃ tm' lo' hp' out' bv', EvL F [0, 5, 6] [7] (lpB L42) ⟨tm, lo, hp⟩ (.exit 0 ⟨upd (upd (upd tm' 0 (.pt Q 0 0)) 5 (.lp 5 0)) 6 out', lset lo' 5 [.it .i64 0, .it .i64 0, .it .i64 0], hp'⟩) /\
   FrV hp' hpE.next out' (fs ++ (feedM most n buf).1) /\ RdO hp' Q most pre bv' (badS (feedM most n buf).2.2) (badC (feedM most n buf).2.2) /\ By hp' bv' (feedM most n buf).2.1 /\ Ex hpE hp' Q /\ Nil hp' /\ ∀ id, idOf bv' = some id -> z0 <= id := by
 intro n
 induction n with
 | zero => intro buf bv out fs tm lo hp _ h; omega
 | succ n ih =>
  intro buf bv out fs tm lo hp hE hn hl hby hg hB hbz hF hfl hlim hQ hN h5 hk
  have hgo := hg
  have hg : hget hp Q = some ⟨6, false, [rowR most pre bv 0 0]⟩ := hg
  have hlp := hF.lp
  have h0b := hby.get 0
  have h1b := hby.get 1
  have h2b := hby.get 2
  have hQs : ∀ b, hget hp Q = some b -> b.sz ≠ 1 := fun b hb => by rw [hg] at hb; cases hb; exact (by decide : (6 : Nat) ≠ 1)
  have h5' : shed [7] lo 5 = some [.it .i64 0, .it .i64 0, .it .i64 0] := h5
  have stop : ∀ hp' r, EvC F false 25 [.pt Q 0 0] hp (.ret (.tu [.ag [.it .i64 0, .it .i64 0, .it .i64 0, .ns], .bo false]) hp') -> hp' = r ->
    ∃ tm' lo', EvL F [0, 5, 6] [7] (lpB L42) ⟨tm, lo, hp⟩ (.exit 0 ⟨upd (upd (upd tm' 0 (.pt Q 0 0)) 5 (.lp 5 0)) 6 out, lset lo' 5 [.it .i64 0, .it .i64 0, .it .i64 0], r⟩) := by
   intro hp' r hc e
   subst e
   have go : ∃ tm' lo', tm' 0 = .pt Q 0 0 /\ tm' 5 = .lp 5 0 /\ tm' 6 = out /\ lo' 5 = some [.it .i64 0, .it .i64 0, .it .i64 0] /\ EvL F [0, 5, 6] [7] (lpB L42) ⟨tm, lo, hp⟩ (.exit 0 ⟨tm', lo', hp'⟩) := by
    iterate 2 apply Exists.intro
    refine ⟨?_, ?_, ?_, ?_, EvL.stop _ hk ?_ (fun s h => by cases h)⟩
    rotate_left 4
    ·refine X.run ?_
     refine X.call rfl rfl hc ?_
     refine X.run ?_
     exact EvD.done _
    ·rfl
    ·rfl
    ·rfl
    ·exact h5
   obtain ⟨tm', lo', e0, e5, e6, el, h⟩ := go
   refine ⟨tm', lo', ?_⟩
   rw [upd_self e0, upd_self e5, upd_self e6, lset_self el]
   exact h
  by_cases hs : buf.length < 9
  ·obtain ⟨tm', lo', h⟩ := stop hp hp (next_short hgo hB hs) rfl
   have ef : feedM most (n + 1) buf = ([], buf, false) := by simp [feedM, hs]
   rw [ef]
   exact ⟨tm', lo', hp, out, bv, h, by simpa using hF, hgo, hB, hE, hN, hbz⟩
  have hs : 9 <= buf.length := by omega
  by_cases hl1 : most < nOf buf
  ·have hc := next_long hgo hB hs hby hlim hl1
   obtain ⟨tm', lo', h⟩ := stop _ _ hc rfl
   have ef : feedM most (n + 1) buf = ([], [], true) := by simp [feedM, hl1]; omega
   rw [ef]
   have e1 : Ex hp (hset (hset hp Q (some ⟨6, false, [rowR most pre bv 2 6]⟩)) Q (some ⟨6, false, [rowR most pre .ns 2 6]⟩)) Q := (Ex.set _ _ _).trans (Ex.set _ _ _)
   refine ⟨tm', lo', _, out, .ns, h, ?_, hget_set _ _ _, .ns _, hE.trans e1, (hN.set hQ _).set hQ _, fun id e => by cases e⟩
   rw [List.append_nil]
   rcases hF with ⟨rfl, rfl⟩ | ⟨id, rows, rfl, q0, q1, q2, q3, q4⟩
   ·exact .inl ⟨rfl, rfl⟩
   ·refine .inr ⟨id, rows, rfl, q0, q1, q2, e1.get id _ (by omega) q3, q4.mono e1 hQs⟩
  by_cases hp1 : (buf.length : Int) < 9 + nOf buf
  ·obtain ⟨tm', lo', h⟩ := stop hp hp (next_part hgo hB hs hby (by omega) hp1) rfl
   have ef : feedM most (n + 1) buf = ([], buf, false) := by simp [feedM, hl1, hp1]
   rw [ef]
   exact ⟨tm', lo', hp, out, bv, h, by simpa using hF, hgo, hB, hE, hN, hbz⟩
  obtain ⟨m, hm⟩ := Int.eq_ofNat_of_zero_le (a := nOf buf) (by unfold nOf; omega)
  have ef : feedM most (n + 1) buf = ((buf[3]?.getD 0, buf[4]?.getD 0, sOf buf, (buf.drop 9).take m) :: (feedM most n (buf.drop (9 + m))).1, (feedM most n (buf.drop (9 + m))).2) := by
   have : ¬ buf.length < 9 := by omega
   simp only [feedM, this, if_false, hl1, hp1]
   rw [hm]; rfl
  obtain ⟨pv, bv', hp1', hc, hpv, hbv, hR1, hex1, hN1, hfz, hbi⟩ := next_frame hgo hB hs hby hlim hQ hN (by omega) hm (by omega)
  have hR1' : hget hp1' Q = some ⟨6, false, [rowR most pre bv' 0 0]⟩ := hR1
  have hQ1 : Q < hp1'.next := Nat.lt_of_lt_of_le hQ hex1.next
  have hlim1 : hp1'.lim <= Q := by rw [hex1.lim]; exact hlim
  have hpk := hpv.keep
  have hpl := hpv.lp
  let row : List V := [.it .i64 (buf[3]?.getD 0), .it .i64 (buf[4]?.getD 0), .it .i64 (sOf buf), pv]
  have hall : row.all V.keep = true := by simp only [row, List.all_cons, List.all_nil, hpk]; rfl
  have hEls : Els (hnew hp1' ⟨4, false, [row]⟩) 4 (.hs hp1'.next 0 1) [row] := Els.hs (hget_new _ _) (by simp)
  have hfr : FrR hp1' hpE.next [row] [(buf[3]?.getD 0, buf[4]?.getD 0, sOf buf, (buf.drop 9).take m)] := .cons hpv (fun id e => Nat.le_trans hE.next (hfz id e)) .nil
  have hby' : Bytes (buf.drop (9 + m)) := hby.drop _
  rw [ef]
  rcases hF with ⟨rfl, rfl⟩ | ⟨id, rows, rfl, q0, q1, q2, q3, q4⟩
  ·have step : ∃ tm' lo', tm' 0 = .pt Q 0 0 /\ tm' 5 = .lp 5 0 /\ tm' 6 = .hs (hp1'.next + 1) 0 1 /\ lo' 5 = some [.it .i64 0, .it .i64 0, .it .i64 0] /\
     ∀ r, EvL F [0, 5, 6] [7] (lpB L42) ⟨tm', lo', hnew (hnew hp1' ⟨4, false, [row]⟩) ⟨4, false, [row]⟩⟩ r -> EvL F [0, 5, 6] [7] (lpB L42) ⟨tm, lo, hp⟩ r := by
    iterate 2 apply Exists.intro
    refine ⟨?_, ?_, ?_, ?_, fun r h => EvL.go _ hk ?_ h⟩
    rotate_left 4
    ·refine X.run ?_
     refine X.call rfl rfl hc ?_
     refine X.run ?_
     refine X.stl (v := .ag row) rfl rfl rfl rfl hall rfl rfl rfl ?_
     refine X.run ?_
     refine X.bsl (es' := [row]) (fill1 (row := row) rfl hall) rfl ?_
     refine X.apn X.w rfl hEls (by simp) rfl (id' := hp1'.next + 1) rfl ?_
     refine X.run ?_
     exact EvD.done _
    ·rfl
    ·rfl
    ·rfl
    ·exact h5
   obtain ⟨tm', lo', e0, e5, e6, el, go⟩ := step
   have x1 : Ex1 hp1' (hnew (hnew hp1' ⟨4, false, [row]⟩) ⟨4, false, [row]⟩) := (Ex1.new hN1 _).trans (Ex1.new (hN1.new _) _)
   have hE3 : Ex hpE (hnew (hnew hp1' ⟨4, false, [row]⟩) ⟨4, false, [row]⟩) Q := ((hE.trans hex1).trans (Ex.new _ _ _ hN1)).trans (Ex.new _ _ _ (hN1.new _))
   have hN3 : Nil (hnew (hnew hp1' ⟨4, false, [row]⟩) ⟨4, false, [row]⟩) := (hN1.new _).new _
   have hEn := (hE.trans hex1).next
   obtain ⟨tm2, lo2, hp2, out2, bv2, a1, a2, a3, a4, a5, a6, a7⟩ := ih (buf.drop (9 + m)) bv' (.hs (hp1'.next + 1) 0 1) [(buf[3]?.getD 0, buf[4]?.getD 0, sOf buf, (buf.drop 9).take m)] tm' lo' _ hE3 (by simp; omega) (by simp; omega) hby'
    (by show hget _ Q = _; rw [hget_old (by rw [hnew_next]; omega), hget_old (by omega)]; exact hR1') (hbv.mono1 x1) (fun id e => hbz id (hbi id e))
    (.inr ⟨hp1'.next + 1, [row], rfl, by omega, by rw [hnew_next, hnew_next]; omega, by rw [hnew_lim, hnew_lim]; omega, hget_new _ _, hfr.mono1 x1⟩)
    (by simp; omega) (by rw [hnew_lim, hnew_lim]; exact hlim1) (by rw [hnew_next, hnew_next]; omega) hN3 el (by simp [e0, e5, e6])
   exact ⟨tm2, lo2, hp2, out2, bv2, go _ a1, by simpa using a2, a3, a4, a5, a6, a7⟩
  ·have q3' : hget hp1' id = some ⟨4, false, rows⟩ := hex1.get id _ (by omega) q3
   have hid1 : id < hp1'.next := Nat.lt_of_lt_of_le q1 hex1.next
   have hrl := q4.length
   have q3'' : hget (hnew hp1' ⟨4, false, [row]⟩) id = some ⟨4, false, rows⟩ := by rw [hget_old (by omega)]; exact q3'
   have step : ∃ tm' lo', tm' 0 = .pt Q 0 0 /\ tm' 5 = .lp 5 0 /\ tm' 6 = .hs (hp1'.next + 1) 0 (fs.length + 1) /\ lo' 5 = some [.it .i64 0, .it .i64 0, .it .i64 0] /\
     ∀ r, EvL F [0, 5, 6] [7] (lpB L42) ⟨tm', lo', hnew (hset (hnew hp1' ⟨4, false, [row]⟩) id none) ⟨4, false, rows ++ [row]⟩⟩ r -> EvL F [0, 5, 6] [7] (lpB L42) ⟨tm, lo, hp⟩ r := by
    iterate 2 apply Exists.intro
    refine ⟨?_, ?_, ?_, ?_, fun r h => EvL.go _ hk ?_ h⟩
    rotate_left 4
    ·refine X.run ?_
     refine X.call rfl rfl hc ?_
     refine X.run ?_
     refine X.stl (v := .ag row) rfl rfl rfl rfl hall rfl rfl rfl ?_
     refine X.run ?_
     refine X.bsl (es' := [row]) (fill1 (row := row) rfl hall) rfl ?_
     refine X.apf X.w rfl hEls q3'' (by rw [bleD, hnew_lim, hex1.lim]; exact decide_eq_true q2) rfl hrl (by rw [bleD]; exact decide_eq_true (by simp [maxB]; omega)) (id' := hp1'.next + 1) rfl ?_
     refine X.run ?_
     exact EvD.done _
    ·rfl
    ·rfl
    ·rfl
    ·exact h5
   obtain ⟨tm', lo', e0, e5, e6, el, go⟩ := step
   have n2 : Nil (hset (hnew hp1' ⟨4, false, [row]⟩) id none) := (hN1.new _).set (by rw [hnew_next]; omega) _
   have x1 : Ex1 hp1' (hnew (hset (hnew hp1' ⟨4, false, [row]⟩) id none) ⟨4, false, rows ++ [row]⟩) :=
    ((Ex1.new hN1 _).trans (Ex1.kill (fun x hx => by rw [q3''] at hx; cases hx; exact (by decide : (4 : Nat) ≠ 1)))).trans (Ex1.new n2 _)
   have hE3 : Ex hpE (hnew (hset (hnew hp1' ⟨4, false, [row]⟩) id none) ⟨4, false, rows ++ [row]⟩) Q := (Ex.kill ((hE.trans hex1).trans (Ex.new _ _ _ hN1)) hNE q0).trans (Ex.new _ _ _ n2)
   have x0 : Ex1 hp hp1' := hex1.to1 hQs
   obtain ⟨tm2, lo2, hp2, out2, bv2, a1, a2, a3, a4, a5, a6, a7⟩ := ih (buf.drop (9 + m)) bv' (.hs (hp1'.next + 1) 0 (fs.length + 1)) (fs ++ [(buf[3]?.getD 0, buf[4]?.getD 0, sOf buf, (buf.drop 9).take m)]) tm' lo' _ hE3 (by simp; omega) (by simp; omega) hby'
    (by show hget _ Q = _; rw [hget_old (by rw [hset_next, hnew_next]; omega), hget_other (by omega), hget_old (by omega)]; exact hR1') (hbv.mono1 x1) (fun id e => hbz id (hbi id e))
    (.inr ⟨hp1'.next + 1, rows ++ [row], by simp, by omega, by rw [hnew_next, hset_next, hnew_next]; omega, by rw [hnew_lim, hset_lim, hnew_lim]; omega, hget_new (hset (hnew hp1' ⟨4, false, [row]⟩) id none) _, (q4.mono1 (x0.trans x1)).append (hfr.mono1 x1)⟩)
    (by simp; omega) (by rw [hnew_lim, hset_lim, hnew_lim]; exact hlim1) (by rw [hnew_next, hset_next, hnew_next]; omega) (n2.new _) el (by simp [e0, e5, e6])
   exact ⟨tm2, lo2, hp2, out2, bv2, go _ a1, by simpa using a2, a3, a4, a5, a6, a7⟩
set_option maxHeartbeats 4000000 in
theorem feed_tail {hpS hp : Hp} {Q : Nat} {most : Int} {bvS bv v0 v : V} {preS pre : List Nat} {buf b : List Int} (hgS : RdO hpS Q most preS bvS 0 0) (hv0 : isLp v0 = false) (hbeg : EvC F false 24 [.pt Q 0 0, v0] hpS (.ret v hp)) (hg : RdO hp Q most pre bv 0 0) (hB : By hp bv buf) (hV : By hp v b) (hby : Bytes (buf ++ b)) (hl : buf.length + b.length <= 40000000) (hlim : hp.lim <= Q) (hQ : Q < hp.next) (hN : Nil hp) :
  ∃ out bv' hp', EvC F false 14 [.pt Q 0 0, v0] hpS (.ret (.tu [out, .ag [.it .i64 (badS (feedA most (buf ++ b)).2.2), .it .i64 (badC (feedA most (buf ++ b)).2.2), .it .i64 0]]) hp') /\
   FrV hp' hp.next out (feedA most (buf ++ b)).1 /\ RdO hp' Q most pre bv' (badS (feedA most (buf ++ b)).2.2) (badC (feedA most (buf ++ b)).2.2) /\ By hp' bv' (feedA most (buf ++ b)).2.1 /\ Ex hp hp' Q /\ Nil hp' /\ ∀ id, idOf bv' = some id -> hp.next <= id := by
 have hgo := hg
 have hgSR : hget hpS Q = some ⟨6, false, [rowR most preS bvS 0 0]⟩ := hgS
 have hg : hget hp Q = some ⟨6, false, [rowR most pre bv 0 0]⟩ := hg
 have hlp := hB.lp
 have hvl := hV.lp
 have hQs : ∀ b, hget hp Q = some b -> b.sz ≠ 1 := fun b hb => by rw [hg] at hb; cases hb; exact (by decide : (6 : Nat) ≠ 1)
 have hgA : hget (aph2 hp buf b) Q = some ⟨6, false, [rowR most pre bv 0 0]⟩ := aph2_get hN hg
 have hV' : By (aph hp buf) v b := hV.mono (aph_ex hN _ Q) hQs
 have hgA0 := aph_get hN buf hg
 have hcB : By (aph2 hp buf b) (apv2 hp buf b) (buf ++ b) := apv2_by (by omega)
 let hpE : Hp := hset (aph2 hp buf b) Q (some ⟨6, false, [rowR most pre (apv2 hp buf b) 0 0]⟩)
 have hEE : Ex hp hpE Q := (aph2_ex hN Q).trans (Ex.set _ _ _)
 have hQE : Q < hpE.next := Nat.lt_of_lt_of_le hQ hEE.next
 have hNE : Nil hpE := (aph2_nil hN).set (Nat.lt_of_lt_of_le hQ aph2_next) _
 have hBE : By hpE (apv2 hp buf b) (buf ++ b) := hcB.mono (Ex.set _ _ Q) (fun b hb => by rw [hgA] at hb; cases hb; exact (by decide : (6 : Nat) ≠ 1))
 obtain ⟨tm', lo', hp', out, bv', h, a1, a2, a3, a4, a5, a6⟩ := feed_loopG (z0 := hp.next) (hpE := hpE) hQE hNE ((buf ++ b).length + 1) (buf ++ b) (apv2 hp buf b) .ns [] (tmOf [(0, .pt Q 0 0), (5, .lp 5 0), (6, .ns)]) (lset (fun _ => none) 5 [.it .i64 0, .it .i64 0, .it .i64 0]) hpE
  (Ex.refl _ _) (by omega) (by simp; omega) hby (hget_set _ _ _) hBE apv2_id (.inl ⟨rfl, rfl⟩) (by simp; omega) (by rw [hEE.lim]; exact hlim) hQE hNE rfl rfl
 refine ⟨out, bv', hp', ?_, ?_, a2, a3, hEE.trans a4, a5, a6⟩
 ·have hol := a1.lp
  have a2' : hget hp' Q = some ⟨6, false, [rowR most pre bv' (badS (feedM most ((buf ++ b).length + 1) (buf ++ b)).2.2) (badC (feedM most ((buf ++ b).length + 1) (buf ++ b)).2.2)]⟩ := a2
  refine EvC.ofRw d14 rfl rfl rfl ?_
  refine X.fn ?_
  refine X.run ?_
  refine X.call (ys := [.pt Q 0 0, v0]) rfl (by show (isLp _ || (isLp v0 || false)) = false; rw [hv0]; rfl) hbeg ?_
  refine X.run ?_
  refine X.apE (v := bv) X.w rfl hB (by simp; omega) ?_
  refine X.run ?_
  refine X.apE2 rfl rfl hV' (by omega) rfl (by omega) ?_
  refine X.run ?_
  refine X.stB (w := apv2 hp buf b) rfl hcB.cells hcB.keep X.w hgA (by rw [aph2_lim]; exact hlim) rfl (Nat.le_of_ble_eq_true rfl) rfl ?_
  refine X.run ?_
  refine X.loop (h.congr rfl rfl rfl) ?_
  refine X.run ?_
  exact X.fin_tc rfl rfl hol rfl rfl rfl rfl
 ·rcases a1 with ⟨q, r⟩ | ⟨id, rows, q, q0, q1, q2, q3, q4⟩
  ·exact .inl ⟨q, r⟩
  ·exact .inr ⟨id, rows, q, Nat.le_trans hEE.next q0, q1, q2, q3, q4.le hEE.next⟩
/-- what a reader tells: the frames, what is left of the preface, of the bytes, the error's code -/
def feedG (most : Int) (pre : List Nat) (buf b : List Int) : List Frm × List Nat × List Int × Int :=
 let s := strip pre b
 if s.2.2 then ([], s.1, [], 1) else
  let f := feedA most (buf ++ s.2.1)
  (f.1, s.1, f.2.1, badC f.2.2)
def scope (c : Int) : Int := if c = 0 then 0 else 2
theorem scope_badC (e : Bool) : scope (badC e) = badS e := by cases e <;> rfl
set_option maxHeartbeats 8000000 in
theorem feed_gen {hp : Hp} {Q : Nat} {most : Int} {bv v : V} {buf b : List Int} {pre : List Nat} (hg : RdO hp Q most pre bv 0 0) (hB : By hp bv buf) (hV : By hp v b) (hb : Bytes buf) (hby : Bytes b) (hl : buf.length + b.length <= 40000000) (hpl : pre.length <= 1000) (hlim : hp.lim <= Q) (hQ : Q < hp.next) (hN : Nil hp) :
  ∃ out bv' hp', EvC F false 14 [.pt Q 0 0, v] hp (.ret (.tu [out, .ag [.it .i64 (scope (feedG most pre buf b).2.2.2), .it .i64 (feedG most pre buf b).2.2.2, .it .i64 0]]) hp') /\
   FrV hp' hp.next out (feedG most pre buf b).1 /\ RdO hp' Q most (feedG most pre buf b).2.1 bv' (scope (feedG most pre buf b).2.2.2) (feedG most pre buf b).2.2.2 /\ By hp' bv' (feedG most pre buf b).2.2.1 /\ Ex hp hp' Q /\ Nil hp' := by
 obtain ⟨v1, hp1, hbeg, hE1, hn1, hN1, hl1, hcase⟩ := begin_gen hg hV hlim hQ hN (by omega) hpl
 have hlim1 : hp1.lim <= Q := by rw [hE1.lim]; exact hlim
 have hQs : ∀ b, hget hp Q = some b -> b.sz ≠ 1 := fun b hb => by rw [hg] at hb; cases hb; exact (by decide : (6 : Nat) ≠ 1)
 have hgR : hget hp Q = some ⟨6, false, [rowR most pre bv 0 0]⟩ := hg
 have hvl := hV.lp
 rcases hcase with ⟨hs, rfl, hR⟩ | ⟨hs, hB1, hR⟩
 ·have hR' : hget hp1 Q = some ⟨6, false, [rowR most (strip pre b).1 .ns 2 1]⟩ := hR
  have ef : feedG most pre buf b = ([], (strip pre b).1, [], 1) := by simp only [feedG, hs, if_true]
  rw [ef]
  refine ⟨.ns, .ns, hset hp1 Q (some ⟨6, false, [rowR most (strip pre b).1 .ns 2 1]⟩), ?_, .inl ⟨rfl, rfl⟩, hget_set _ _ _, .ns _, hE1.trans (Ex.set _ _ _), hN1.set (by omega) _⟩
  have main : ∃ w hp', EvC F false 14 [.pt Q 0 0, v] hp (.ret w hp') /\ (w = .tu [.ns, .ag [.it .i64 2, .it .i64 1, .it .i64 0]] /\ hp' = hset hp1 Q (some ⟨6, false, [rowR most (strip pre b).1 .ns 2 1]⟩)) := by
   refine EvC.ofQ d14 rfl rfl rfl ?_
   repeat (first | refine EvQ.run ?_ | refine EvQ.fin X.rs ?_ | refine EvQ.fin1 (fun _ => rfl) rfl ?_)
   refine EvQ.lift (fun _ zn => X.call rfl X.al hbeg zn) ?_
   repeat (first | refine EvQ.run ?_ | refine EvQ.fin X.rs ?_ | refine EvQ.fin1 (fun _ => rfl) rfl ?_)
   refine EvQ.loop (QL := XtQ 0 [(0, .pt Q 0 0), (5, .lp 5 0), (6, .ns)] (fun lo hp' => lo = lset (fun _ => none) 5 [.it .i64 0, .it .i64 0, .it .i64 0] /\ hp' = hset hp1 Q (some ⟨6, false, [rowR most (strip pre b).1 .ns 2 1]⟩))) ?_ ?_
   ·refine EvL.invQ (S := Unit) (fun _ => [(0, .pt Q 0 0), (5, .lp 5 0), (6, .ns)]) (fun _ lo hp' => shed [7] lo = lset (fun _ => none) 5 [.it .i64 0, .it .i64 0, .it .i64 0] /\ hp' = hset hp1 Q (some ⟨6, false, [rowR most (strip pre b).1 .ns 2 1]⟩)) (fun _ => 0) _ ?_ () _ _ _ ⟨X.lo, rfl⟩ X.kv
    rintro _ lo hp' ⟨e1, rfl⟩
    rw [e1]
    repeat (first | refine EvQ.run ?_ | refine EvQ.fin X.rs ?_ | refine EvQ.fin1 (fun _ => rfl) rfl ?_)
    exact EvQ.xt (.mk' X.kv ⟨X.lo, rfl⟩)
   ·rintro _ ⟨tm, lo, hp', rfl, rfl, rfl⟩
    repeat (first | refine EvQ.run ?_ | refine EvQ.fin X.rs ?_ | refine EvQ.fin1 (fun _ => rfl) rfl ?_)
    exact ⟨_, _, rfl, rfl, rfl⟩
  obtain ⟨w, hp', m1, rfl, rfl⟩ := main
  exact m1
 ·have hbs : Bytes (strip pre b).2.1 := strip_bytes pre hby
  have hsl := strip_len pre b
  obtain ⟨out, bv', hp', q1, q2, q3, q4, q5, q6, q7⟩ := feed_tail hg hvl hbeg hR (hB.mono hE1 hQs) hB1 (hb.append hbs) (by omega) hlim1 (by omega) hN1
  have ef : feedG most pre buf b = ((feedA most (buf ++ (strip pre b).2.1)).1, (strip pre b).1, (feedA most (buf ++ (strip pre b).2.1)).2.1, badC (feedA most (buf ++ (strip pre b).2.1)).2.2) := by simp only [feedG, hs]; rfl
  rw [ef]
  simp only [scope_badC]
  exact ⟨out, bv', hp', q1, by rw [hn1] at q2; exact q2, q3, q4, hE1.trans q5, q6⟩
end Go.Proofs.YtndodhmfdjcjgaaGreatDoor
