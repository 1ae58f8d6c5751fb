import Derived.Test.YtpncefcicfhibaaGreatDoorEvE
import Derived.Test.YtpncefcicfhibaaGreatDoorRdC
set_option linter.unusedVariables false
set_option linter.unusedSimpArgs false
set_option linter.unusedSectionVars false
set_option linter.unusedVariables false
set_option linter.unusedSimpArgs false
-- (EvHp)
namespace Go.Proofs.YtpncefcicfhibaaGreatDoor
open Go hiding Fn
open Ev tab
attribute [local irreducible] EvP EvD EvL EvC evGds evLs C.run sK bK gK pK fK lpB stepD

def L62 : C := d62.body.lps.getD 0 .skip

/-- no preface: nothing is taken -/
theorem begin_ok {hp : Hp} {Q : Nat} {most sc co : Int} {bv v : V} {b : List Int} (hg : RdO hp Q most [] bv sc co) (hB : By hp v b) : EvC F false 62 [.pt Q 0 0, v] hp (.ret v hp) := by
  have hg : hget hp Q = some ⟨6, false, [rowR most [] bv sc co]⟩ := hg
  have hlen := hB.len
  have hlp := hB.lp
  have loop : ∃ tm lo, EvL F [0, 1] [] (lpB L62) ⟨tmOf [(0, .pt Q 0 0), (1, v)], fun _ => none, hp⟩ (.exit 0 ⟨upd tm 1 v, lo, hp⟩) := by
    have go : ∃ tm lo, tm 1 = v ∧ EvL F [0, 1] [] (lpB L62) ⟨tmOf [(0, .pt Q 0 0), (1, v)], fun _ => none, hp⟩ (.exit 0 ⟨tm, lo, hp⟩) := by
      by_cases hb : b = []
      · subst hb
        iterate 2 apply Exists.intro
        refine ⟨?_, EvL.stop [(0, .pt Q 0 0), (1, v)] rfl ?_ (fun s h => by cases h)⟩
        rotate_left
        · refine X.run ?_
          exact EvD.done _
        · rfl
      · have hb' : 0 < b.length := List.length_pos_iff.2 hb
        iterate 2 apply Exists.intro
        refine ⟨?_, EvL.stop [(0, .pt Q 0 0), (1, v)] rfl ?_ (fun s h => by cases h)⟩
        rotate_left
        · refine X.run ?_
          exact EvD.done _
        · rfl
    obtain ⟨tm, lo, e, h⟩ := go
    exact ⟨tm, lo, by rw [upd_self e]; exact h⟩
  obtain ⟨tm, lo, h⟩ := loop
  refine EvC.ofRw d62 rfl rfl rfl ?_
  refine X.fn ?_
  refine X.run ?_
  refine X.loop (h.congr rfl rfl rfl) ?_
  refine X.run ?_
  exact X.fin_t rfl rfl hlp rfl

/-- a frame: type, flags, stream, payload -/
abbrev Frm := Int × Int × Int × List Int
/-- rows of frames in memory -/
inductive FrR (hp : Hp) (z : Nat) : List (List V) → List Frm → Prop
  | nil : FrR hp z [] []
  | cons {ty fl s : Int} {p : List Int} {pv : V} {rows : List (List V)} {fs : List Frm} (h : By hp pv p) (hz : ∀ id, idOf pv = some id → z ≤ id) (r : FrR hp z rows fs) : FrR hp z ([.it .i64 ty, .it .i64 fl, .it .i64 s, pv] :: rows) ((ty, fl, s, p) :: fs)
theorem FrR.length {hp : Hp} {z : Nat} {rows : List (List V)} {fs : List Frm} (h : FrR hp z rows fs) : rows.length = fs.length := by
  induction h with
  | nil => rfl
  | cons h hz r ih => simp [ih]
theorem FrR.mono {hp hp' : Hp} {Q z : Nat} {rows : List (List V)} {fs : List Frm} (h : FrR hp z rows fs) (e : Ex hp hp' Q) (hQ : ∀ b, hget hp Q = some b → b.sz ≠ 1) : FrR hp' z rows fs := by
  induction h with
  | nil => exact .nil
  | cons h hz r ih => exact .cons (h.mono e hQ) hz ih
theorem FrR.mono1 {hp hp' : Hp} {z : Nat} {rows : List (List V)} {fs : List Frm} (h : FrR hp z rows fs) (e : Ex1 hp hp') : FrR hp' z rows fs := by
  induction h with
  | nil => exact .nil
  | cons h hz r ih => exact .cons (h.mono1 e) hz ih
theorem FrR.append {hp : Hp} {z : Nat} {a b : List (List V)} {x y : List Frm} (h : FrR hp z a x) (h' : FrR hp z b y) : FrR hp z (a ++ b) (x ++ y) := by
  induction h with
  | nil => exact h'
  | cons h hz r ih => exact .cons h hz ih
theorem FrR.le {hp : Hp} {z z' : Nat} {rows : List (List V)} {fs : List Frm} (h : FrR hp z rows fs) (q : z' ≤ z) : FrR hp z' rows fs := by
  induction h with
  | nil => exact .nil
  | cons h hz r ih => exact .cons h (fun id e => Nat.le_trans q (hz id e)) ih
/-- a slice of frames of one's own, made behind a number -/
def FrV (hp : Hp) (z : Nat) (v : V) (fs : List Frm) : Prop :=
  (v = .ns ∧ fs = []) ∨ ∃ id rows, v = .hs id 0 fs.length ∧ z ≤ id ∧ id < hp.next ∧ hp.lim ≤ id ∧ hget hp id = some ⟨4, false, rows⟩ ∧ FrR hp z rows fs
theorem FrV.lp {hp : Hp} {z : Nat} {v : V} {fs : List Frm} (h : FrV hp z v fs) : isLp v = false := by rcases h with ⟨rfl, _⟩ | ⟨_, _, rfl, _⟩ <;> rfl
/-- what a reader without preface tells -/
def feedM (most : Int) : Nat → List Int → List Frm × List Int × Bool
  | 0, b => ([], b, false)
  | n + 1, b =>
    if b.length < 9 then ([], b, false) else if most < nOf b then ([], [], true) else if (b.length : Int) < 9 + nOf b then ([], b, false) else
      let x := feedM most n (b.drop (9 + (nOf b).toNat))
      ((b[3]?.getD 0, b[4]?.getD 0, sOf b, (b.drop 9).take (nOf b).toNat) :: x.1, x.2)

def L42 : C := d42.body.lps.getD 0 .skip
def badC (e : Bool) : Int := if e then 6 else 0
def badS (e : Bool) : Int := if e then 2 else 0

set_option maxHeartbeats 4000000 in
theorem feed_loop {Q z0 : Nat} {most : Int} {hpE : Hp} (hQE : Q < hpE.next) (hNE : Nil hpE) : ∀ (n : Nat) (buf : List Int) (bv : V) (out : V) (fs : List Frm) (tm : Tm) (lo : Lo) (hp : Hp), Ex hpE hp Q → buf.length < n → buf.length ≤ 100000000 → Bytes buf → RdO hp Q most [] bv 0 0 → By hp bv buf → (∀ id, idOf bv = some id → z0 ≤ id) → FrV hp hpE.next out fs → fs.length + buf.length ≤ 100000000 →
    hp.lim ≤ Q → Q < hp.next → Nil hp → lo 5 = some [.it .i64 0, .it .i64 0, .it .i64 0] →
    [0, 5, 6].map (fun s => (s, tm s)) = [(0, .pt Q 0 0), (5, .lp 5 0), (6, out)] →
    ∃ tm' lo' hp' out' bv', EvL F [0, 5, 6] [7] (lpB L42) ⟨tm, lo, hp⟩ (.exit 0 ⟨upd (upd (upd tm' 0 (.pt Q 0 0)) 5 (.lp 5 0)) 6 out', lset lo' 5 [.it .i64 0, .it .i64 0, .it .i64 0], hp'⟩) ∧
      FrV hp' hpE.next out' (fs ++ (feedM most n buf).1) ∧ RdO hp' Q most [] bv' (badS (feedM most n buf).2.2) (badC (feedM most n buf).2.2) ∧ By hp' bv' (feedM most n buf).2.1 ∧ Ex hpE hp' Q ∧ Nil hp' ∧ ∀ id, idOf bv' = some id → z0 ≤ id := by
  intro n
  induction n with
  | zero => intro buf bv out fs tm lo hp _ h; omega
  | succ n ih =>
    intro buf bv out fs tm lo hp hE hn hl hby hg hB hbz hF hfl hlim hQ hN h5 hk
    have hgo := hg
    have hg : hget hp Q = some ⟨6, false, [rowR most [] bv 0 0]⟩ := hg
    have hlp := hF.lp
    have h0b := hby.get 0
    have h1b := hby.get 1
    have h2b := hby.get 2
    have hQs : ∀ b, hget hp Q = some b → b.sz ≠ 1 := fun b hb => by rw [hg] at hb; cases hb; exact (by decide : (6 : Nat) ≠ 1)
    have h5' : shed [7] lo 5 = some [.it .i64 0, .it .i64 0, .it .i64 0] := h5
    have stop : ∀ hp' r, EvC F false 63 [.pt Q 0 0] hp (.ret (.tu [.ag [.it .i64 0, .it .i64 0, .it .i64 0, .ns], .bo false]) hp') → hp' = r →
        ∃ tm' lo', EvL F [0, 5, 6] [7] (lpB L42) ⟨tm, lo, hp⟩ (.exit 0 ⟨upd (upd (upd tm' 0 (.pt Q 0 0)) 5 (.lp 5 0)) 6 out, lset lo' 5 [.it .i64 0, .it .i64 0, .it .i64 0], r⟩) := by
      intro hp' r hc e
      subst e
      have go : ∃ tm' lo', tm' 0 = .pt Q 0 0 ∧ tm' 5 = .lp 5 0 ∧ tm' 6 = out ∧ lo' 5 = some [.it .i64 0, .it .i64 0, .it .i64 0] ∧ EvL F [0, 5, 6] [7] (lpB L42) ⟨tm, lo, hp⟩ (.exit 0 ⟨tm', lo', hp'⟩) := by
        iterate 2 apply Exists.intro
        refine ⟨?_, ?_, ?_, ?_, EvL.stop _ hk ?_ (fun s h => by cases h)⟩
        rotate_left 4
        · refine X.run ?_
          refine X.call rfl rfl hc ?_
          refine X.run ?_
          exact EvD.done _
        · rfl
        · rfl
        · rfl
        · exact h5
      obtain ⟨tm', lo', e0, e5, e6, el, h⟩ := go
      refine ⟨tm', lo', ?_⟩
      rw [upd_self e0, upd_self e5, upd_self e6, lset_self el]
      exact h
    by_cases hs : buf.length < 9
    · obtain ⟨tm', lo', h⟩ := stop hp hp (next_short hgo hB hs) rfl
      have ef : feedM most (n + 1) buf = ([], buf, false) := by simp [feedM, hs]
      rw [ef]
      exact ⟨tm', lo', hp, out, bv, h, by simpa using hF, hgo, hB, hE, hN, hbz⟩
    have hs : 9 ≤ buf.length := by omega
    by_cases hl1 : most < nOf buf
    · have hc := next_long hgo hB hs hby hlim hl1
      obtain ⟨tm', lo', h⟩ := stop _ _ hc rfl
      have ef : feedM most (n + 1) buf = ([], [], true) := by simp [feedM, hl1]; omega
      rw [ef]
      have e1 : Ex hp (hset (hset hp Q (some ⟨6, false, [rowR most [] bv 2 6]⟩)) Q (some ⟨6, false, [rowR most [] .ns 2 6]⟩)) Q := (Ex.set _ _ _).trans (Ex.set _ _ _)
      refine ⟨tm', lo', _, out, .ns, h, ?_, hget_set _ _ _, .ns _, hE.trans e1, (hN.set hQ _).set hQ _, fun id e => by cases e⟩
      rw [List.append_nil]
      rcases hF with ⟨rfl, rfl⟩ | ⟨id, rows, rfl, q0, q1, q2, q3, q4⟩
      · exact .inl ⟨rfl, rfl⟩
      · refine .inr ⟨id, rows, rfl, q0, q1, q2, e1.get id _ (by omega) q3, q4.mono e1 hQs⟩
    by_cases hp1 : (buf.length : Int) < 9 + nOf buf
    · obtain ⟨tm', lo', h⟩ := stop hp hp (next_part hgo hB hs hby (by omega) hp1) rfl
      have ef : feedM most (n + 1) buf = ([], buf, false) := by simp [feedM, hl1, hp1]
      rw [ef]
      exact ⟨tm', lo', hp, out, bv, h, by simpa using hF, hgo, hB, hE, hN, hbz⟩
    obtain ⟨m, hm⟩ := Int.eq_ofNat_of_zero_le (a := nOf buf) (by unfold nOf; omega)
    have ef : feedM most (n + 1) buf = ((buf[3]?.getD 0, buf[4]?.getD 0, sOf buf, (buf.drop 9).take m) :: (feedM most n (buf.drop (9 + m))).1, (feedM most n (buf.drop (9 + m))).2) := by
      have : ¬ buf.length < 9 := by omega
      simp only [feedM, this, if_false, hl1, hp1]
      rw [hm]; rfl
    obtain ⟨pv, bv', hp1', hc, hpv, hbv, hR1, hex1, hN1, hfz, hbi⟩ := next_frame hgo hB hs hby hlim hQ hN (by omega) hm (by omega)
    have hR1' : hget hp1' Q = some ⟨6, false, [rowR most [] bv' 0 0]⟩ := hR1
    have hQ1 : Q < hp1'.next := Nat.lt_of_lt_of_le hQ hex1.next
    have hlim1 : hp1'.lim ≤ Q := by rw [hex1.lim]; exact hlim
    have hpk := hpv.keep
    have hpl := hpv.lp
    let row : List V := [.it .i64 (buf[3]?.getD 0), .it .i64 (buf[4]?.getD 0), .it .i64 (sOf buf), pv]
    have hall : row.all V.keep = true := by simp only [row, List.all_cons, List.all_nil, hpk]; rfl
    have hEls : Els (hnew hp1' ⟨4, false, [row]⟩) 4 (.hs hp1'.next 0 1) [row] := Els.hs (hget_new _ _) (by simp)
    have hfr : FrR hp1' hpE.next [row] [(buf[3]?.getD 0, buf[4]?.getD 0, sOf buf, (buf.drop 9).take m)] := .cons hpv (fun id e => Nat.le_trans hE.next (hfz id e)) .nil
    have hby' : Bytes (buf.drop (9 + m)) := hby.drop _
    rw [ef]
    rcases hF with ⟨rfl, rfl⟩ | ⟨id, rows, rfl, q0, q1, q2, q3, q4⟩
    · have step : ∃ tm' lo', tm' 0 = .pt Q 0 0 ∧ tm' 5 = .lp 5 0 ∧ tm' 6 = .hs (hp1'.next + 1) 0 1 ∧ lo' 5 = some [.it .i64 0, .it .i64 0, .it .i64 0] ∧
          ∀ r, EvL F [0, 5, 6] [7] (lpB L42) ⟨tm', lo', hnew (hnew hp1' ⟨4, false, [row]⟩) ⟨4, false, [row]⟩⟩ r → EvL F [0, 5, 6] [7] (lpB L42) ⟨tm, lo, hp⟩ r := by
        iterate 2 apply Exists.intro
        refine ⟨?_, ?_, ?_, ?_, fun r h => EvL.go _ hk ?_ h⟩
        rotate_left 4
        · refine X.run ?_
          refine X.call rfl rfl hc ?_
          refine X.run ?_
          refine X.stl (v := .ag row) rfl rfl rfl rfl hall rfl rfl rfl ?_
          refine X.run ?_
          refine X.bsl (es' := [row]) (fill1 (row := row) rfl hall) rfl ?_
          refine X.apn X.w rfl hEls (by simp) rfl (id' := hp1'.next + 1) rfl ?_
          refine X.run ?_
          exact EvD.done _
        · rfl
        · rfl
        · rfl
        · exact h5
      obtain ⟨tm', lo', e0, e5, e6, el, go⟩ := step
      have x1 : Ex1 hp1' (hnew (hnew hp1' ⟨4, false, [row]⟩) ⟨4, false, [row]⟩) := (Ex1.new hN1 _).trans (Ex1.new (hN1.new _) _)
      have hE3 : Ex hpE (hnew (hnew hp1' ⟨4, false, [row]⟩) ⟨4, false, [row]⟩) Q := ((hE.trans hex1).trans (Ex.new _ _ _ hN1)).trans (Ex.new _ _ _ (hN1.new _))
      have hN3 : Nil (hnew (hnew hp1' ⟨4, false, [row]⟩) ⟨4, false, [row]⟩) := (hN1.new _).new _
      have hEn := (hE.trans hex1).next
      obtain ⟨tm2, lo2, hp2, out2, bv2, a1, a2, a3, a4, a5, a6, a7⟩ := ih (buf.drop (9 + m)) bv' (.hs (hp1'.next + 1) 0 1) [(buf[3]?.getD 0, buf[4]?.getD 0, sOf buf, (buf.drop 9).take m)] tm' lo' _ hE3 (by simp; omega) (by simp; omega) hby'
        (by show hget _ Q = _; rw [hget_old (by rw [hnew_next]; omega), hget_old (by omega)]; exact hR1') (hbv.mono1 x1) (fun id e => hbz id (hbi id e))
        (.inr ⟨hp1'.next + 1, [row], rfl, by omega, by rw [hnew_next, hnew_next]; omega, by rw [hnew_lim, hnew_lim]; omega, hget_new _ _, hfr.mono1 x1⟩)
        (by simp; omega) (by rw [hnew_lim, hnew_lim]; exact hlim1) (by rw [hnew_next, hnew_next]; omega) hN3 el (by simp [e0, e5, e6])
      exact ⟨tm2, lo2, hp2, out2, bv2, go _ a1, by simpa using a2, a3, a4, a5, a6, a7⟩
    · have q3' : hget hp1' id = some ⟨4, false, rows⟩ := hex1.get id _ (by omega) q3
      have hid1 : id < hp1'.next := Nat.lt_of_lt_of_le q1 hex1.next
      have hrl := q4.length
      have q3'' : hget (hnew hp1' ⟨4, false, [row]⟩) id = some ⟨4, false, rows⟩ := by rw [hget_old (by omega)]; exact q3'
      have step : ∃ tm' lo', tm' 0 = .pt Q 0 0 ∧ tm' 5 = .lp 5 0 ∧ tm' 6 = .hs (hp1'.next + 1) 0 (fs.length + 1) ∧ lo' 5 = some [.it .i64 0, .it .i64 0, .it .i64 0] ∧
          ∀ r, EvL F [0, 5, 6] [7] (lpB L42) ⟨tm', lo', hnew (hset (hnew hp1' ⟨4, false, [row]⟩) id none) ⟨4, false, rows ++ [row]⟩⟩ r → EvL F [0, 5, 6] [7] (lpB L42) ⟨tm, lo, hp⟩ r := by
        iterate 2 apply Exists.intro
        refine ⟨?_, ?_, ?_, ?_, fun r h => EvL.go _ hk ?_ h⟩
        rotate_left 4
        · refine X.run ?_
          refine X.call rfl rfl hc ?_
          refine X.run ?_
          refine X.stl (v := .ag row) rfl rfl rfl rfl hall rfl rfl rfl ?_
          refine X.run ?_
          refine X.bsl (es' := [row]) (fill1 (row := row) rfl hall) rfl ?_
          refine X.apf X.w rfl hEls q3'' (by rw [bleD, hnew_lim, hex1.lim]; exact decide_eq_true q2) rfl hrl (by rw [bleD]; exact decide_eq_true (by simp [maxB]; omega)) (id' := hp1'.next + 1) rfl ?_
          refine X.run ?_
          exact EvD.done _
        · rfl
        · rfl
        · rfl
        · exact h5
      obtain ⟨tm', lo', e0, e5, e6, el, go⟩ := step
      have n2 : Nil (hset (hnew hp1' ⟨4, false, [row]⟩) id none) := (hN1.new _).set (by rw [hnew_next]; omega) _
      have x1 : Ex1 hp1' (hnew (hset (hnew hp1' ⟨4, false, [row]⟩) id none) ⟨4, false, rows ++ [row]⟩) :=
        ((Ex1.new hN1 _).trans (Ex1.kill (fun x hx => by rw [q3''] at hx; cases hx; exact (by decide : (4 : Nat) ≠ 1)))).trans (Ex1.new n2 _)
      have hE3 : Ex hpE (hnew (hset (hnew hp1' ⟨4, false, [row]⟩) id none) ⟨4, false, rows ++ [row]⟩) Q := (Ex.kill ((hE.trans hex1).trans (Ex.new _ _ _ hN1)) hNE q0).trans (Ex.new _ _ _ n2)
      have x0 : Ex1 hp hp1' := hex1.to1 hQs
      obtain ⟨tm2, lo2, hp2, out2, bv2, a1, a2, a3, a4, a5, a6, a7⟩ := ih (buf.drop (9 + m)) bv' (.hs (hp1'.next + 1) 0 (fs.length + 1)) (fs ++ [(buf[3]?.getD 0, buf[4]?.getD 0, sOf buf, (buf.drop 9).take m)]) tm' lo' _ hE3 (by simp; omega) (by simp; omega) hby'
        (by show hget _ Q = _; rw [hget_old (by rw [hset_next, hnew_next]; omega), hget_other (by omega), hget_old (by omega)]; exact hR1') (hbv.mono1 x1) (fun id e => hbz id (hbi id e))
        (.inr ⟨hp1'.next + 1, rows ++ [row], by simp, by omega, by rw [hnew_next, hset_next, hnew_next]; omega, by rw [hnew_lim, hset_lim, hnew_lim]; omega, hget_new (hset (hnew hp1' ⟨4, false, [row]⟩) id none) _, (q4.mono1 (x0.trans x1)).append (hfr.mono1 x1)⟩)
        (by simp; omega) (by rw [hnew_lim, hset_lim, hnew_lim]; exact hlim1) (by rw [hnew_next, hset_next, hnew_next]; omega) (n2.new _) el (by simp [e0, e5, e6])
      exact ⟨tm2, lo2, hp2, out2, bv2, go _ a1, by simpa using a2, a3, a4, a5, a6, a7⟩
end Go.Proofs.YtpncefcicfhibaaGreatDoor
