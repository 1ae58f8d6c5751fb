import Derived.Test.YtgofadnggipkpaaEvE
import Derived.Test.YtgofadnggipkpaaRdG
set_option linter.unusedVariables false
set_option linter.unusedSimpArgs false
set_option linter.unusedSectionVars false
-- the document's own reader (EvHp EvOwn)
namespace Go.Proofs.Ytgofadnggipkpaa.rf
open Go hiding Fn
open Ev tab
attribute [local irreducible] EvP EvD EvL EvC evGds evLs C.run sK bK gK pK fK lpB stepD
theorem lset2 {lo0 : Lo} {a b c : List V} (h0' : lo0 = lset (fun _ => none) 5 a) (e : b = c) : lset lo0 5 b = lset (fun _ => none) 5 c := by
  subst h0'; subst e; funext t; unfold lset; cases Nat.beq t 5 <;> rfl
abbrev rowQ (rv : V) (pre : List Nat) (most S C : Int) : List V := [rv, .st pre, .it .i64 most, .it .i64 S, .it .i64 C, .it .i64 0]
def RfO (hp : Hp) (Q : Nat) (most : Int) (pre : List Nat) (rv : V) (S C : Int) : Prop := hget hp Q = some ⟨6, false, [rowQ rv pre most S C]⟩
abbrev H0 (hp : Hp) : Hp := hnew hp ⟨1, false, []⟩
abbrev H1 (hp : Hp) (rest : List Int) : Hp := hnew (hset (H0 hp) hp.next none) ⟨1, false, [] ++ bs rest⟩
abbrev H2 (hp : Hp) (rest b : List Int) : Hp := hnew (hset (H1 hp rest) (hp.next + 1) none) ⟨1, false, ([] ++ bs rest) ++ bs b⟩
theorem mk2 {hp : Hp} (hN : Nil hp) (hlim : hp.lim = 0) (rest b : List Int) : Ex hp (H0 hp) hp.next ∧ Ex hp (H1 hp rest) hp.next ∧ Ex hp (H2 hp rest b) hp.next ∧ Nil (H2 hp rest b) ∧ (H2 hp rest b).next = hp.next + 3 ∧ (H1 hp rest).lim = 0 ∧ (H2 hp rest b).lim = 0 ∧ (H1 hp rest).next = hp.next + 2 ∧
    hget (H1 hp rest) (hp.next + 1) = some ⟨1, false, [] ++ bs rest⟩ ∧ By (H2 hp rest b) (.hs (hp.next + 2) 0 (0 + (bs rest).length + (bs b).length)) (rest ++ b) := by
  have x0 : Ex hp (H0 hp) hp.next := Ex.new _ _ _ hN
  have n0 : Nil (H0 hp) := hN.new _
  have e0 : (H0 hp).next = hp.next + 1 := hnew_next _ _
  have x1 : Ex hp (hset (H0 hp) hp.next none) hp.next := Ex.kill x0 hN (Nat.le_refl _)
  have n1 : Nil (hset (H0 hp) hp.next none) := n0.set (by rw [e0]; omega) _
  have e1 : (hset (H0 hp) hp.next none).next = hp.next + 1 := by rw [hset_next, e0]
  have x2 : Ex hp (H1 hp rest) hp.next := x1.trans (Ex.new _ _ _ n1)
  have n2 : Nil (H1 hp rest) := n1.new _
  have e2 : (H1 hp rest).next = hp.next + 2 := by rw [hnew_next, e1]
  have g2 := hget_new (hset (H0 hp) hp.next none) ⟨1, false, [] ++ bs rest⟩
  rw [e1] at g2
  have x3 : Ex hp (hset (H1 hp rest) (hp.next + 1) none) hp.next := Ex.kill x2 hN (by omega)
  have n3 : Nil (hset (H1 hp rest) (hp.next + 1) none) := n2.set (by rw [e2]; omega) _
  have e3 : (hset (H1 hp rest) (hp.next + 1) none).next = hp.next + 2 := by rw [hset_next, e2]
  have g3 := hget_new (hset (H1 hp rest) (hp.next + 1) none) ⟨1, false, ([] ++ bs rest) ++ bs b⟩
  rw [e3] at g3
  refine ⟨x0, x2, x3.trans (Ex.new _ _ _ n3), n3.new _, by rw [hnew_next, e3], by rw [hnew_lim, hset_lim, hnew_lim]; exact hlim, by rw [hnew_lim, hset_lim, hnew_lim, hset_lim, hnew_lim]; exact hlim, e2, g2, ?_⟩
  refine .inr (.inr ⟨hp.next + 2, 0, false, rest ++ b, ?_, by rw [hnew_next, e3]; omega, by rw [hnew_lim, hset_lim, hnew_lim, hset_lim, hnew_lim, hlim]; omega, ?_, by simp, by rw [List.drop_zero]; exact List.take_of_length_le (Nat.le_refl _)⟩)
  · rw [bs_length, bs_length, List.length_append, Nat.zero_add]
  · rw [g3, List.nil_append, bs_append]
section
variable {F : Nat → Option Ev.Fn} (hF : F 23 = some d23.den)
include hF
set_option maxHeartbeats 8000000 in
theorem rfeed_bad {hp : Hp} {Q : Nat} {most c : Int} {pre : List Nat} {rv v : V} (hg : RfO hp Q most pre rv 2 c) (hv : isLp v = false) : ∃ w hp', EvC F false 23 [.pt Q 0 0, v] hp (.ret w hp') ∧ (w = .tu [.ns, .ag [.it .i64 2, .it .i64 c, .it .i64 0]] ∧ hp' = hp) := by
  have hgR : hget hp Q = some ⟨6, false, [rowQ rv pre most 2 c]⟩ := hg
  refine EvC.ofQ d23 hF rfl rfl ?_
  repeat (first | refine EvQ.run ?_ | refine EvQ.fin X.rs ?_ | refine EvQ.fin1 (fun _ => rfl) rfl ?_)
  exact ⟨_, _, rfl, rfl, rfl⟩
abbrev z3 : List V := [.it .i64 0, .it .i64 0, .it .i64 0]
set_option maxHeartbeats 16000000 in
theorem pre_loop {hpE : Hp} {Q : Nat} {most : Int} {w : V} {buf : List Int} {pre : List Nat} (hR : RfO hpE Q most pre w 0 0) (hB : By hpE w buf) (hlim : hpE.lim = 0) (hQ : Q < hpE.next) (hN : Nil hpE) (hb : buf.length ≤ 100000000) (hpl : pre.length ≤ 1000)
    (lo : Lo) (hlo : lo = lset (fun _ => none) 5 z3) (tm : Tm) (hk : [0, 5].map (fun x => (x, tm x)) = [(0, .pt Q 0 0), (5, .lp 5 0)]) :
    ∃ r, EvL F [0, 5] [] (lpB (d23.body.lps.getD 0 .skip)) ⟨tm, lo, hpE⟩ r ∧ (((strip pre buf).2.2 = false ∧ XtQ 0 [(0, .pt Q 0 0), (5, .lp 5 0)] (fun lo hp' => lo = lset (fun _ => none) 5 z3 ∧ ∃ w', By hp' w' (strip pre buf).2.1 ∧ RfO hp' Q most (strip pre buf).1 w' 0 0 ∧ Ex hpE hp' Q ∧ hp'.next = hpE.next ∧ Nil hp') r) ∨
      ((strip pre buf).2.2 = true ∧ RtQ [(4, .ns), (5, .lp 5 0)] (fun lo hp' => lo = lset (fun _ => none) 5 [.it .i64 2, .it .i64 1, .it .i64 0] ∧ RfO hp' Q most (strip pre buf).1 .ns 2 1 ∧ Ex hpE hp' Q ∧ hp'.next = hpE.next ∧ Nil hp') r)) := by
  generalize hst : strip pre buf = t
  refine EvL.invQ (S := BgS) (fun _ => [(0, .pt Q 0 0), (5, .lp 5 0)]) (fun s lo hp' => lo = lset (fun _ => none) 5 z3 ∧ By hp' s.v s.b ∧ RfO hp' Q most s.pre s.v 0 0 ∧ Ex hpE hp' Q ∧ hp'.next = hpE.next ∧ Nil hp' ∧ strip s.pre s.b = t ∧ s.b.length ≤ 100000000 ∧ s.pre.length ≤ 1000) (fun s => s.b.length) _ ?_ ⟨pre, buf, w⟩ tm lo hpE ⟨hlo, hB, hR, .refl _ _, rfl, hN, hst, hb, hpl⟩ hk
  rintro ⟨p, c, w⟩ lo hp1 ⟨rfl, hB, hR, hE, hnx, hN, hs, hl, hpp⟩
  simp only at hB hR hs hl hpp
  have hg : hget hp1 Q = some ⟨6, false, [rowQ w p most 0 0]⟩ := hR
  have hlen := hB.len
  have hlp := hB.lp
  have hlim1 : hp1.lim = 0 := by rw [hE.lim]; exact hlim
  have hlim2 : hp1.lim ≤ Q := by omega
  cases p with
  | nil =>
    rw [strip_nil] at hs
    subst hs
    repeat' (first | refine EvQ.run ?_ | (refine EvQ.pickB rfl rfl rfl ?_) | (refine EvQ.cond rfl (fun h => ?_) (fun h => ?_) <;> ((first | replace h := X.nm h | skip); try have hne := ne_len h)) | (refine EvQ.g1 rfl (fun h => ?_) (fun h => ?_) <;> ((first | replace h := X.nm h | skip); try have hne := ne_len h)) | (refine EvQ.pick rfl (fun _ => rfl) (fun _ => rfl) (fun h => ?_) (fun h => ?_) <;> ((first | replace h := X.nm h | skip); try have hne := ne_len h)) | refine EvQ.fin X.rs ?_ | refine EvQ.fin1 (fun _ => rfl) rfl ?_)
    all_goals exact EvQ.xt (.inl ⟨rfl, .mk' X.kv ⟨X.lo, w, hB, hR, hE, hnx, hN⟩⟩)
  | cons q qs =>
    cases c with
    | nil =>
      have hs : (q :: qs, [], false) = t := hs
      subst hs
      repeat' (first | refine EvQ.run ?_ | (refine EvQ.pickB rfl rfl rfl ?_) | (refine EvQ.cond rfl (fun h => ?_) (fun h => ?_) <;> ((first | replace h := X.nm h | skip); try have hne := ne_len h)) | (refine EvQ.g1 rfl (fun h => ?_) (fun h => ?_) <;> ((first | replace h := X.nm h | skip); try have hne := ne_len h)) | (refine EvQ.pick rfl (fun _ => rfl) (fun _ => rfl) (fun h => ?_) (fun h => ?_) <;> ((first | replace h := X.nm h | skip); try have hne := ne_len h)) | refine EvQ.fin X.rs ?_ | refine EvQ.fin1 (fun _ => rfl) rfl ?_)
      all_goals exact EvQ.xt (.inl ⟨rfl, .mk' X.kv ⟨X.lo, w, hB, hR, hE, hnx, hN⟩⟩)
    | cons x xs =>
      unfold strip at hs
      have h0 : 0 < (x :: xs).length := by simp
      have hx0 := hB.els
      have hQ1 : Q < hp1.next := by omega
      have hB1 := hB.slv (a := 1) (b := (x :: xs).length) (by simp) (Nat.le_refl _)
      have e1 : ((x :: xs).drop 1).take ((x :: xs).length - 1) = xs := by
        show xs.take ((x :: xs).length - 1) = xs
        exact List.take_of_length_le (by simp)
      rw [e1] at hB1
      have hvl := hB1.lp
      have hvc := hB1.cells
      have hvk := hB1.keep
      repeat' (first | refine EvQ.run ?_ | (refine EvQ.pickB rfl rfl rfl ?_) | (refine EvQ.cond rfl (fun h => ?_) (fun h => ?_) <;> ((first | replace h := X.nm h | skip); try have hne := ne_len h)) | (refine EvQ.g1 rfl (fun h => ?_) (fun h => ?_) <;> ((first | replace h := X.nm h | skip); try have hne := ne_len h)) | (refine EvQ.pick rfl (fun _ => rfl) (fun _ => rfl) (fun h => ?_) (fun h => ?_) <;> ((first | replace h := X.nm h | skip); try have hne := ne_len h)) | refine EvQ.fin X.rs ?_ | refine EvQ.fin1 (fun _ => rfl) rfl ?_)
      · have hne : ¬ x = Int.ofNat q := h
        rw [if_neg hne] at hs
        subst hs
        exact EvQ.rt (.inr ⟨rfl, .mk' X.kv ⟨lset2 rfl rfl, hget_set _ _ _, hE.trans ((Ex.set _ _ _).trans (Ex.set _ _ _)), hnx, (hN.set hQ1 _).set hQ1 _⟩⟩)
      · have he : x = Int.ofNat q := h
        rw [if_pos he] at hs
        refine EvQ.lift (fun _ zn => X.slcE (v := w) rfl hB (a := 1) (b := (x :: xs).length) ⟨_, rfl⟩ rfl (by simp) (Nat.le_refl _) zn) ?_
        generalize slv w 1 (x :: xs).length = w2 at *
        repeat (first | refine EvQ.run ?_ | refine EvQ.fin X.rs ?_ | refine EvQ.fin1 (fun _ => rfl) rfl ?_)
        refine EvQ.go ⟨qs, xs, w2⟩ X.kv ⟨X.lo, (hB1.mono (Ex.set _ _ Q) ?_).mono (Ex.set _ _ Q) ?_, hget_set _ _ _, hE.trans ((Ex.set _ _ _).trans (Ex.set _ _ _)), hnx, (hN.set hQ1 _).set hQ1 _, hs, by simp only [List.length_cons] at hl; show xs.length ≤ _; omega, by simp only [List.length_cons] at hpp; show qs.length ≤ _; omega⟩ (by show xs.length < (x :: xs).length; simp)
        · intro b hb; rw [hg] at hb; cases hb; exact (by decide : (6 : Nat) ≠ 1)
        · intro b hb; rw [hget_set] at hb; cases hb; exact (by decide : (6 : Nat) ≠ 1)
end
end Go.Proofs.Ytgofadnggipkpaa.rf
