import Derived.Test.YtgofadnggipkpaaEvE
import Derived.Test.YtgofadnggipkpaaRfA
set_option linter.unusedVariables false
set_option linter.unusedSimpArgs false
set_option linter.unusedSectionVars false
-- the document's own reader: its frames (EvHp EvOwn)
namespace Go.Proofs.Ytgofadnggipkpaa.rf
open Go hiding Fn
open Ev tab
attribute [local irreducible] EvP EvD EvL EvC evGds evLs C.run sK bK gK pK fK lpB stepD
theorem feedM_fuel (most : Int) : ∀ (n m : Nat) (b : List Int), b.length < n → b.length < m → Bytes b → feedM most n b = feedM most m b := by
  intro n
  induction n with
  | zero => intro m b h; omega
  | succ n ih =>
    intro m b hn hm hb
    cases m with
    | zero => omega
    | succ m =>
      unfold feedM
      have h0 := hb.get 0
      have h1 := hb.get 1
      have h2 := hb.get 2
      have hp : 0 ≤ nOf b := by unfold nOf; omega
      by_cases c1 : b.length < 9
      · simp [c1]
      by_cases c2 : most < nOf b
      · simp [c1, c2]
      by_cases c3 : (b.length : Int) < 9 + nOf b
      · simp [c1, c2, c3]
      simp only [c1, c2, c3, if_false]
      rw [ih m (b.drop (9 + (nOf b).toNat)) (by simp; omega) (by simp; omega) (hb.drop _)]
section
variable {F : Nat → Option Ev.Fn} (hF : F 23 = some d23.den)
structure FmS where
  buf : List Int
  w : V
  out : V
  fs : List Frm
theorem FrV.ow {hp : Hp} {z : Nat} {v : V} {fs : List Frm} (h : FrV hp z v fs) : ∃ rows, Ow hp v 4 rows ∧ rows.length = fs.length ∧ FrR hp z rows fs ∧ ∀ id, idOf v = some id → z ≤ id := by
  rcases h with ⟨rfl, rfl⟩ | ⟨id, rows, rfl, q0, q1, q2, q3, q4⟩
  · exact ⟨[], .ns, rfl, .nil, fun id e => by cases e⟩
  · exact ⟨rows, .inr ⟨id, by rw [q4.length], q1, q2, q3⟩, q4.length, q4, fun id' e => by cases e; exact q0⟩
theorem evq_hp {Q : R → Prop} {clr : List Nat} {ops : List DOp} {tm : Tm} {lo : Lo} {hp hp' : Hp} {k : Ev.R → D} (e : hp = hp') (h : EvQ F (evLs clr ops ⟨tm, lo, hp'⟩ k) Q) : EvQ F (evLs clr ops ⟨tm, lo, hp⟩ k) Q := by subst e; exact h
theorem ex_any {a b : Hp} {R Q : Nat} (h : Ex a b R) (hN : Nil a) (hR : a.next ≤ R) : Ex a b Q := ⟨h.next, h.lim, fun j x _ hx => h.get j x (fun e => by subst e; rw [hN _ hR] at hx; cases hx) hx⟩
theorem ex_oah {a b : Hp} {Q sz : Nat} {v : V} {rows : List (List V)} (h : Ex a b Q) (hN : Nil a) (hNb : Nil b) (hv : ∀ id, idOf v = some id → a.next ≤ id) : Ex a (oah b v sz rows) Q := by
  refine ⟨by rw [oah_next]; have := h.next; omega, by rw [oah_lim]; exact h.lim, fun j x hj hx => ?_⟩
  have hja : j < a.next := Nat.lt_of_not_le fun hle => by rw [hN j hle] at hx; cases hx
  rw [oah_get (fun e => by have := hv j e; omega) (by have := h.next; omega)]
  exact h.get j x hj hx
theorem ex1_oah {b : Hp} {v : V} {sz : Nat} {r0 rows : List (List V)} (ho : Ow b v 4 r0) (hNb : Nil b) : Ex1 b (oah b v sz rows) := by
  refine ⟨by rw [oah_next]; omega, oah_lim, fun j x hx h1 => ⟨x.fr, ?_⟩⟩
  have hjb : j < b.next := Nat.lt_of_not_le fun hle => by rw [hNb j hle] at hx; cases hx
  rw [oah_get (fun e => ?_) hjb, hx, ← h1]
  rcases ho with ⟨e2, _⟩ | ⟨id', e2, q1, q2, q3⟩
  · rw [e2] at e; cases e
  · rw [e2] at e; cases e
    rw [q3] at hx; cases hx; exact absurd h1 (by show ¬ (4 : Nat) = 1; decide)
theorem fr6 {tm : Tm} {id : Nat} {w : V} {hp : Hp} {buf : List Int} {x y : Int} (hB : By hp w buf) (hid : hp.next ≤ id) {a b c d e f : Nat} (ha : tm a = w) (hb : tm b = pw w 3) (hc : tm c = .it .u8 x) (hd : tm d = w) (he : tm e = pw w 4) (hf : tm f = .it .u8 y) : freshH [a, b, c, d, e, f] tm id = true := by
  rcases hB with ⟨rfl, _⟩ | rfl | ⟨id', i, fr, rows, rfl, q1, _⟩
  · simp only [freshH, ha, hb, hc, hd, he, hf]; rfl
  · simp only [freshH, ha, hb, hc, hd, he, hf]; rfl
  · have q : Nat.beq id' id = false := by cases h : Nat.beq id' id with
      | false => rfl
      | true => have := Nat.eq_of_beq_eq_true h; omega
    have p3 : pw (.hs id' i buf.length) 3 = .pt id' (i + 3) 0 := rfl
    have p4 : pw (.hs id' i buf.length) 4 = .pt id' (i + 4) 0 := rfl
    simp only [freshH, ha, hb, hc, hd, he, hf, p3, p4, q, cond_false]
theorem frv_ex {hp hp' : Hp} {z Q : Nat} {v : V} {fs : List Frm} (h : FrV hp z v fs) (e : Ex hp hp' Q) (hq : Q < z) (hQ : ∀ b, hget hp Q = some b → b.sz ≠ 1) : FrV hp' z v fs := by
  rcases h with ⟨rfl, rfl⟩ | ⟨id, rows, rfl, q0, q1, q2, q3, q4⟩
  · exact .inl ⟨rfl, rfl⟩
  · exact .inr ⟨id, rows, rfl, q0, Nat.lt_of_lt_of_le q1 e.next, by rw [e.lim]; exact q2, e.get id _ (by omega) q3, q4.mono e hQ⟩
set_option maxHeartbeats 32000000 in
theorem frm_loop {hpE : Hp} {Q : Nat} {most : Int} {w : V} {buf : List Int} (hR : RfO hpE Q most [] w 0 0) (hB : By hpE w buf) (hlim : hpE.lim = 0) (hQ : Q < hpE.next) (hNE : Nil hpE) (hb : buf.length ≤ 40000000) (hby : Bytes buf)
    (lo : Lo) (hlo : lo = lset (fun _ => none) 5 z3) (tm : Tm) (hk : [0, 5, 6].map (fun x => (x, tm x)) = [(0, .pt Q 0 0), (5, .lp 5 0), (6, .ns)]) :
    ∃ r, EvL F [0, 5, 6] [] (lpB (d23.body.lps.getD 1 .skip)) ⟨tm, lo, hpE⟩ r ∧ (((feedA most buf).2.2 = false ∧ ∃ out, XtQ 2 [(0, .pt Q 0 0), (5, .lp 5 0), (6, out)] (fun lo hp' => lo = lset (fun _ => none) 5 z3 ∧ FrV hp' hpE.next out (feedA most buf).1 ∧ (∃ w', By hp' w' (feedA most buf).2.1 ∧ RfO hp' Q most [] w' 0 0) ∧ Ex hpE hp' Q ∧ Nil hp') r) ∨
      ((feedA most buf).2.2 = true ∧ ∃ out, RtQ [(4, out), (5, .lp 5 0)] (fun lo hp' => lo = lset (fun _ => none) 5 [.it .i64 2, .it .i64 6, .it .i64 0] ∧ FrV hp' hpE.next out (feedA most buf).1 ∧ RfO hp' Q most [] .ns 2 6 ∧ Ex hpE hp' Q ∧ Nil hp') r)) := by
  generalize hst : feedA most buf = t
  refine EvL.invQ (S := FmS) (fun s => [(0, .pt Q 0 0), (5, .lp 5 0), (6, s.out)]) (fun s lo hp' => lo = lset (fun _ => none) 5 z3 ∧ By hp' s.w s.buf ∧ RfO hp' Q most [] s.w 0 0 ∧ FrV hp' hpE.next s.out s.fs ∧ Ex hpE hp' Q ∧ Nil hp' ∧ Bytes s.buf ∧ s.fs.length + s.buf.length ≤ 40000000 ∧ (s.fs ++ (feedA most s.buf).1, (feedA most s.buf).2) = t) (fun s => s.buf.length) _ ?_ ⟨buf, w, .ns, []⟩ tm lo hpE ⟨hlo, hB, hR, .inl ⟨rfl, rfl⟩, .refl _ _, hNE, hby, by simpa using hb, by rw [← hst]; simp⟩ hk
  rintro ⟨buf, w, out, fs⟩ lo hp1 ⟨rfl, hB, hR, hF0, hE, hN, hby, hl, hs⟩
  simp only at hB hR hF0 hby hl hs
  have hg : hget hp1 Q = some ⟨6, false, [rowQ w [] most 0 0]⟩ := hR
  have hlen := hB.len
  have hlp := hB.lp
  have hx0 := hB.els
  have hol := hF0.lp
  have hlim1 : hp1.lim = 0 := by rw [hE.lim]; exact hlim
  have hlim2 : hp1.lim ≤ Q := by omega
  have hQ1 : Q < hp1.next := Nat.lt_of_lt_of_le hQ hE.next
  have h0b := hby.get 0
  have h1b := hby.get 1
  have h2b := hby.get 2
  by_cases h9l : buf.length < 9
  · have ef : feedA most buf = ([], buf, false) := by unfold feedA feedM; rw [if_pos h9l]
    rw [ef, List.append_nil] at hs
    subst hs
    repeat' (first | refine EvQ.run ?_ | (refine EvQ.pickB rfl rfl rfl ?_) | (refine EvQ.cond rfl (fun h => ?_) (fun h => ?_) <;> ((first | replace h := X.nm h | skip); try have hne := ne_len h)) | (refine EvQ.g1 rfl (fun h => ?_) (fun h => ?_) <;> ((first | replace h := X.nm h | skip); try have hne := ne_len h)) | (refine EvQ.pick rfl (fun _ => rfl) (fun _ => rfl) (fun h => ?_) (fun h => ?_) <;> ((first | replace h := X.nm h | skip); try have hne := ne_len h)) | refine EvQ.fin X.rs ?_ | refine EvQ.fin1 (fun _ => rfl) rfl ?_)
    all_goals exact EvQ.xt (.inl ⟨rfl, out, .mk' X.kv ⟨X.lo, hF0, ⟨w, hB, hR⟩, hE, hN⟩⟩)
  · have h9l : 9 ≤ buf.length := by omega
    have hnum : orI (orI (wr .i64 (wr .i64 (buf[0]?.getD 0) * Int.ofNat 65536)) (wr .i64 (wr .i64 (buf[1]?.getD 0) * Int.ofNat 256))) (wr .i64 (buf[2]?.getD 0)) = nOf buf := num3' h0b h1b h2b
    have hn0 : 0 ≤ nOf buf := by unfold nOf; omega
    have hn1 : nOf buf ≤ 16777215 := by unfold nOf; omega
    repeat (first | refine EvQ.run ?_ | refine EvQ.fin X.rs ?_ | refine EvQ.fin1 (fun _ => rfl) rfl ?_)
    rw [hnum]
    have hQs : ∀ b, hget hp1 Q = some b → b.sz ≠ 1 := fun b hb => by rw [hg] at hb; cases hb; exact (by decide : (6 : Nat) ≠ 1)
    by_cases hm : most < nOf buf
    · have ef : feedA most buf = ([], [], true) := by unfold feedA feedM; rw [if_neg (by omega), if_pos hm]
      rw [ef, List.append_nil] at hs
      subst hs
      refine EvQ.lift (fun _ zn => X.condTs rfl (by rw [ilt_eq]; exact decide_eq_true hm) zn) ?_
      repeat (first | refine EvQ.run ?_ | refine EvQ.fin X.rs ?_ | refine EvQ.fin1 (fun _ => rfl) rfl ?_)
      exact EvQ.rt (.inr ⟨rfl, out, .mk' X.kv ⟨lset2 rfl rfl, frv_ex hF0 ((Ex.set _ _ _).trans (Ex.set _ _ _)) hQ hQs, hget_set _ _ _, hE.trans ((Ex.set _ _ _).trans (Ex.set _ _ _)), (hN.set hQ1 _).set hQ1 _⟩⟩)
    · refine EvQ.lift (fun _ zn => X.condFs rfl (by rw [ilt_eq]; exact decide_eq_false hm) zn) ?_
      obtain ⟨m, hmn⟩ := Int.eq_ofNat_of_zero_le hn0
      have e9 : wr .i64 (9 + nOf buf) = Int.ofNat (9 + m) := by rw [hmn, wr64 (by omega) (by omega)]; simp
      by_cases hp' : buf.length < 9 + m
      · have ef : feedA most buf = ([], buf, false) := by unfold feedA feedM; rw [if_neg (by omega), if_neg hm, if_pos (by rw [hmn]; omega)]
        rw [ef, List.append_nil] at hs
        subst hs
        have c1 : ilt (Int.ofNat buf.length) (wr .i64 (9 + nOf buf)) = true := by rw [e9, ilt_eq]; exact decide_eq_true (by simp only [Int.ofNat_eq_natCast]; omega)
        repeat (first | refine EvQ.run ?_ | refine EvQ.fin X.rs ?_ | refine EvQ.fin1 (fun _ => rfl) rfl ?_)
        exact EvQ.xt (.inl ⟨rfl, out, .mk' X.kv ⟨X.lo, hF0, ⟨w, hB, hR⟩, hE, hN⟩⟩)
      · have c1 : ilt (Int.ofNat buf.length) (wr .i64 (9 + nOf buf)) = false := by rw [e9, ilt_eq]; exact decide_eq_false (by simp only [Int.ofNat_eq_natCast]; omega)
        repeat (first | refine EvQ.run ?_ | refine EvQ.fin X.rs ?_ | refine EvQ.fin1 (fun _ => rfl) rfl ?_)
        have hpb := hB.slv (a := 9) (b := 9 + m) (by omega) (by omega)
        rw [show 9 + m - 9 = m by omega] at hpb
        have hpy : Bytes ((buf.drop 9).take m) := (hby.drop 9).take m
        have hpn : ((buf.drop 9).take m).length = m := by rw [List.length_take, List.length_drop]; omega
        have ef : feedA most buf = ((buf[3]?.getD 0, buf[4]?.getD 0, sOf buf, (buf.drop 9).take m) :: (feedA most (buf.drop (9 + m))).1, (feedA most (buf.drop (9 + m))).2) := by
          have : ¬ buf.length < 9 := by omega
          have h2 : ¬ (buf.length : Int) < 9 + nOf buf := by rw [hmn]; omega
          have hfu := feedM_fuel most buf.length ((buf.drop (9 + m)).length + 1) (buf.drop (9 + m)) (by rw [List.length_drop]; omega) (by omega) (hby.drop _)
          unfold feedA
          rw [← hfu]
          simp only [feedM, this, if_false, hm, h2]
          rw [hmn]; rfl
        generalize (buf.drop 9).take m = p at *
        obtain ⟨x0, x1, -, -, -, l1, -, e1, g1, -⟩ := mk2 hN hlim1 p []
        refine EvQ.lift (fun _ zn => X.slcE (v := w) rfl hB (a := 9) (b := 9 + m) ⟨_, rfl⟩ ⟨_, congrArg (V.it .i64) e9⟩ (by omega) (by omega) zn) ?_
        have hpb0 := hpb.mono x0 (fun b hb => by rw [hN _ (Nat.le_refl _)] at hb; cases hb)
        have hpl := hpb.lp
        generalize slv w 9 (9 + m) = pw9 at *
        repeat (first | refine EvQ.run ?_ | refine EvQ.fin X.rs ?_ | refine EvQ.fin1 (fun _ => rfl) rfl ?_)
        refine EvQ.lift (fun _ zn => X.apf (n := 0) rfl rfl hpb0.els (hget_new _ _) (by rw [hnew_lim, hlim1]; rfl) (fr6 hB (Nat.le_refl _) rfl rfl rfl rfl rfl rfl) rfl (by rw [bleD]; exact decide_eq_true (by simp only [Nat.mul_one, bs_length]; unfold maxB; omega)) rfl zn) ?_
        repeat (first | refine EvQ.run ?_ | refine EvQ.fin X.rs ?_ | refine EvQ.fin1 (fun _ => rfl) rfl ?_)
        have he3 : wr .i64 (buf[3]?.getD 0) = buf[3]?.getD 0 := by have := hby.get 3; exact wr64 (by omega) (by omega)
        have he4 : wr .i64 (buf[4]?.getD 0) = buf[4]?.getD 0 := by have := hby.get 4; exact wr64 (by omega) (by omega)
        have hstr : orI (orI (orI (wr .i64 (wr .i64 (andI (buf[5]?.getD 0) (Int.ofNat 127)) * Int.ofNat 16777216)) (wr .i64 (wr .i64 (buf[6]?.getD 0) * Int.ofNat 65536))) (wr .i64 (wr .i64 (buf[7]?.getD 0) * Int.ofNat 256))) (wr .i64 (buf[8]?.getD 0)) = sOf buf := num4' (hby.get 5) (hby.get 6) (hby.get 7) (hby.get 8)
        obtain ⟨rows, how, hrl, hfr, hid⟩ := FrV.ow hF0
        refine evq_hp (hp' := hnew (H1 hp1 p) ⟨4, false, [[.it .i64 (wr .i64 (buf[3]?.getD 0)), .it .i64 (wr .i64 (buf[4]?.getD 0)), .it .i64 (orI (orI (orI (wr .i64 (wr .i64 (andI (buf[5]?.getD 0) (Int.ofNat 127)) * Int.ofNat 16777216)) (wr .i64 (wr .i64 (buf[6]?.getD 0) * Int.ofNat 65536))) (wr .i64 (wr .i64 (buf[7]?.getD 0) * Int.ofNat 256))) (wr .i64 (buf[8]?.getD 0))), .hs (hp1.next + 1) 0 (0 + (bs p).length)]]⟩) rfl ?_
        rw [he3, he4, hstr, show 0 + (bs p).length = (bs p).length from Nat.zero_add _]
        have n1 : Nil (H1 hp1 p) := ((hN.new _).set (by rw [hnew_next]; omega) _).new _
        have x3 : Ex hp1 (hnew (H1 hp1 p) ⟨4, false, [[.it .i64 (buf[3]?.getD 0), .it .i64 (buf[4]?.getD 0), .it .i64 (sOf buf), .hs (hp1.next + 1) 0 (bs p).length]]⟩) hp1.next := x1.trans (Ex.new _ _ _ n1)
        have hnn : ∀ b, hget hp1 hp1.next = some b → b.sz ≠ 1 := fun b hb => by rw [hN _ (Nat.le_refl _)] at hb; cases hb
        have hOw : Ow (hnew (H1 hp1 p) ⟨4, false, [[.it .i64 (buf[3]?.getD 0), .it .i64 (buf[4]?.getD 0), .it .i64 (sOf buf), .hs (hp1.next + 1) 0 (bs p).length]]⟩) out 4 rows := by
          refine how.get x3.next x3.lim fun id e => ?_
          rcases how with ⟨e2, _⟩ | ⟨id', e2, q1, q2, q3⟩
          · rw [e2] at e; cases e
          · rw [e2] at e; cases e
            rw [x3.get _ _ (by omega) q3, q3]
        refine EvQ.lift (fun _ zn => X.apo (v := out) (vy := .hs (H1 hp1 p).next 0 1) (rows := rows) (new := [[.it .i64 (buf[3]?.getD 0), .it .i64 (buf[4]?.getD 0), .it .i64 (sOf buf), .hs (hp1.next + 1) 0 (bs p).length]]) rfl rfl hOw (Els.hs (hget_new _ _) (by simp)) (List.cons_ne_nil _ _) (fun _ => rfl) (by rw [hrl]; simp only [List.length_cons, List.length_nil]; omega) zn) ?_
        have n3 : Nil (hnew (H1 hp1 p) ⟨4, false, [[.it .i64 (buf[3]?.getD 0), .it .i64 (buf[4]?.getD 0), .it .i64 (sOf buf), .hs (hp1.next + 1) 0 (bs p).length]]⟩) := n1.new _
        have en3 : (hnew (H1 hp1 p) ⟨4, false, [[.it .i64 (buf[3]?.getD 0), .it .i64 (buf[4]?.getD 0), .it .i64 (sOf buf), .hs (hp1.next + 1) 0 (bs p).length]]⟩).next = hp1.next + 3 := by rw [hnew_next, e1]
        have y1 : Ex1 hp1 (hnew (H1 hp1 p) ⟨4, false, [[.it .i64 (buf[3]?.getD 0), .it .i64 (buf[4]?.getD 0), .it .i64 (sOf buf), .hs (hp1.next + 1) 0 (bs p).length]]⟩) := x3.to1 hnn
        have y2 := y1.trans (ex1_oah (sz := 4) (rows := rows ++ [[.it .i64 (buf[3]?.getD 0), .it .i64 (buf[4]?.getD 0), .it .i64 (sOf buf), .hs (hp1.next + 1) 0 (bs p).length]]) hOw n3)
        have x4 := ex_oah (Q := Q) (sz := 4) (v := out) (rows := rows ++ [[.it .i64 (buf[3]?.getD 0), .it .i64 (buf[4]?.getD 0), .it .i64 (sOf buf), .hs (hp1.next + 1) 0 (bs p).length]]) (hE.trans (ex_any x3 hN (Nat.le_refl _))) hNE n3 hid
        have nO := oah_nil (v := out) (sz := 4) (rows := rows ++ [[.it .i64 (buf[3]?.getD 0), .it .i64 (buf[4]?.getD 0), .it .i64 (sOf buf), .hs (hp1.next + 1) 0 (bs p).length]]) n3
        have gO := oah_new (hp := hnew (H1 hp1 p) ⟨4, false, [[.it .i64 (buf[3]?.getD 0), .it .i64 (buf[4]?.getD 0), .it .i64 (sOf buf), .hs (hp1.next + 1) 0 (bs p).length]]⟩) (v := out) (sz := 4) (rows := rows ++ [[.it .i64 (buf[3]?.getD 0), .it .i64 (buf[4]?.getD 0), .it .i64 (sOf buf), .hs (hp1.next + 1) 0 (bs p).length]])
        have nxO := oah_next (hp := hnew (H1 hp1 p) ⟨4, false, [[.it .i64 (buf[3]?.getD 0), .it .i64 (buf[4]?.getD 0), .it .i64 (sOf buf), .hs (hp1.next + 1) 0 (bs p).length]]⟩) (v := out) (sz := 4) (rows := rows ++ [[.it .i64 (buf[3]?.getD 0), .it .i64 (buf[4]?.getD 0), .it .i64 (sOf buf), .hs (hp1.next + 1) 0 (bs p).length]])
        have gQ := oah_get (hp := hnew (H1 hp1 p) ⟨4, false, [[.it .i64 (buf[3]?.getD 0), .it .i64 (buf[4]?.getD 0), .it .i64 (sOf buf), .hs (hp1.next + 1) 0 (bs p).length]]⟩) (v := out) (sz := 4) (rows := rows ++ [[.it .i64 (buf[3]?.getD 0), .it .i64 (buf[4]?.getD 0), .it .i64 (sOf buf), .hs (hp1.next + 1) 0 (bs p).length]]) (id := Q) (fun e => by have := hid Q e; omega) (by rw [en3]; omega)
        rw [x3.get Q _ (by omega) hg] at gQ
        have bp1 : By (H1 hp1 p) (.hs (hp1.next + 1) 0 (bs p).length) p := by
          rw [bs_length]
          exact By.new (by rw [e1]; omega) (by rw [l1]; omega) (by rw [g1, List.nil_append])
        have bp := bp1.mono1 (((Ex.new _ _ hp1.next n1).to1 (fun b hb => by
          by_cases q : hget (H1 hp1 p) hp1.next = none
          · rw [q] at hb; cases hb
          · have : hget (H1 hp1 p) hp1.next = none := by rw [hget_old (by rw [hset_next, hnew_next]; omega), hget_set]
            exact absurd this q)).trans (ex1_oah (sz := 4) (rows := rows ++ [[.it .i64 (buf[3]?.getD 0), .it .i64 (buf[4]?.getD 0), .it .i64 (sOf buf), .hs (hp1.next + 1) 0 (bs p).length]]) hOw n3))
        have hB' := hB.mono1 y2
        have hfr' := hfr.mono1 y2
        rw [en3] at gO nxO
        generalize oah (hnew (H1 hp1 p) ⟨4, false, [[.it .i64 (buf[3]?.getD 0), .it .i64 (buf[4]?.getD 0), .it .i64 (sOf buf), .hs (hp1.next + 1) 0 (bs p).length]]⟩) out 4 (rows ++ [[.it .i64 (buf[3]?.getD 0), .it .i64 (buf[4]?.getD 0), .it .i64 (sOf buf), .hs (hp1.next + 1) 0 (bs p).length]]) = HO at *
        repeat (first | refine EvQ.run ?_ | refine EvQ.fin X.rs ?_ | refine EvQ.fin1 (fun _ => rfl) rfl ?_)
        have hB2 := hB'.slv (a := 9 + m) (b := buf.length) (by omega) (Nat.le_refl _)
        rw [show (buf.drop (9 + m)).take (buf.length - (9 + m)) = buf.drop (9 + m) from List.take_of_length_le (by simp)] at hB2
        have lO : HO.lim = 0 := by rw [x4.lim]; exact hlim
        refine EvQ.lift (fun _ zn => X.slcE (v := w) rfl hB' (a := 9 + m) (b := buf.length) ⟨_, congrArg (V.it .i64) e9⟩ rfl (by omega) (Nat.le_refl _) zn) ?_
        have q1 := hB2.lp
        have q2 := hB2.cells
        have q3 := hB2.keep
        generalize slv w (9 + m) buf.length = w2 at *
        have hQO : Q < HO.next := by omega
        have hl2 : HO.lim ≤ Q := by omega
        have hQsO : ∀ b, hget HO Q = some b → b.sz ≠ 1 := fun b hb => by rw [gQ] at hb; cases hb; exact (by decide : (6 : Nat) ≠ 1)
        repeat (first | refine EvQ.run ?_ | refine EvQ.fin X.rs ?_ | refine EvQ.fin1 (fun _ => rfl) rfl ?_)
        have hEn := hE.next
        have hFr : FrV HO hpE.next (.hs (hp1.next + 3) 0 (rows.length + 1)) (fs ++ [(buf[3]?.getD 0, buf[4]?.getD 0, sOf buf, p)]) :=
          .inr ⟨hp1.next + 3, rows ++ [[.it .i64 (buf[3]?.getD 0), .it .i64 (buf[4]?.getD 0), .it .i64 (sOf buf), .hs (hp1.next + 1) 0 (bs p).length]], by rw [List.length_append, hrl]; rfl, by omega, by omega, by omega, gO, hfr'.append (.cons bp (fun id e => by cases e; omega) .nil)⟩
        refine EvQ.go ⟨buf.drop (9 + m), w2, .hs (hp1.next + 3) 0 (rows.length + 1), fs ++ [(buf[3]?.getD 0, buf[4]?.getD 0, sOf buf, p)]⟩ X.kv ⟨X.lo, hB2.mono (Ex.set _ _ Q) hQsO, hget_set _ _ _, frv_ex hFr (Ex.set _ _ Q) hQ hQsO, x4.trans (Ex.set _ _ Q), nO.set hQO _, hby.drop _, by simp only [List.length_append, List.length_drop, List.length_cons, List.length_nil]; omega, ?_⟩ (by show (buf.drop (9 + m)).length < buf.length; rw [List.length_drop]; omega)
        rw [← hs, ef]
        simp
end
end Go.Proofs.Ytgofadnggipkpaa.rf
