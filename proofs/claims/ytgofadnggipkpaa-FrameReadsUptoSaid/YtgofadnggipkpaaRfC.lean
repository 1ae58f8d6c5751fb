import Derived.Test.YtgofadnggipkpaaEvE
import Derived.Test.YtgofadnggipkpaaRfB
set_option linter.unusedVariables false
set_option linter.unusedSimpArgs false
set_option linter.unusedSectionVars false
-- the document's own reader, whole (EvHp EvOwn)
namespace Go.Proofs.Ytgofadnggipkpaa.rf
open Go hiding Fn
open Ev tab
attribute [local irreducible] EvP EvD EvL EvC evGds evLs C.run sK bK gK pK fK lpB stepD
/-- what the document's reader tells -/
def rfeedG (most : Int) (pre : List Nat) (rest b : List Int) : List Frm × List Nat × List Int × Int :=
  let s := strip pre (rest ++ b)
  if s.2.2 then ([], s.1, [], 1) else if s.1 = [] then ((feedA most s.2.1).1, [], (feedA most s.2.1).2.1, badC (feedA most s.2.1).2.2) else ([], s.1, s.2.1, 0)
theorem feedM_err0 (most : Int) : ∀ (n : Nat) (b : List Int), (feedM most n b).2.2 = true → (feedM most n b).2.1 = [] := by
  intro n
  induction n with
  | zero => intro b h; cases h
  | succ n ih =>
    intro b h
    unfold feedM at h ⊢
    by_cases q1 : b.length < 9
    · rw [if_pos q1] at h; cases h
    · rw [if_neg q1] at h ⊢
      by_cases q2 : most < nOf b
      · rw [if_pos q2]
      · rw [if_neg q2] at h ⊢
        by_cases q3 : (b.length : Int) < 9 + nOf b
        · rw [if_pos q3] at h; cases h
        · rw [if_neg q3] at h ⊢
          exact ih _ h
theorem feedA_err0 (most : Int) (b : List Int) (h : (feedA most b).2.2 = true) : (feedA most b).2.1 = [] := feedM_err0 most _ _ h
theorem FrV.le {hp : Hp} {z z' : Nat} {v : V} {fs : List Frm} (h : FrV hp z v fs) (q : z' ≤ z) : FrV hp z' v fs := by
  rcases h with ⟨rfl, rfl⟩ | ⟨id, rows, rfl, q0, q1, q2, q3, q4⟩
  · exact .inl ⟨rfl, rfl⟩
  · exact .inr ⟨id, rows, rfl, by omega, q1, q2, q3, q4.le q⟩
section
variable {F : Nat → Option Ev.Fn} (hF : F 23 = some d23.den)
include hF
set_option maxHeartbeats 16000000 in
theorem rfeed_gen {hp : Hp} {Q : Nat} {most : Int} {rv v : V} {rest b : List Int} {pre : List Nat} (hg : RfO hp Q most pre rv 0 0) (hB : By hp rv rest) (hV : By hp v b) (hrb : Bytes rest) (hby : Bytes b) (hl : rest.length + b.length ≤ 40000000) (hpl : pre.length ≤ 1000) (hlim : hp.lim = 0) (hQ : Q < hp.next) (hN : Nil hp) :
    ∃ w hp', EvC F false 23 [.pt Q 0 0, v] hp (.ret w hp') ∧ ∃ out rv', w = .tu [out, .ag [.it .i64 (scope (rfeedG most pre rest b).2.2.2), .it .i64 (rfeedG most pre rest b).2.2.2, .it .i64 0]] ∧ FrV hp' hp.next out (rfeedG most pre rest b).1 ∧
      RfO hp' Q most (rfeedG most pre rest b).2.1 rv' (scope (rfeedG most pre rest b).2.2.2) (rfeedG most pre rest b).2.2.2 ∧ By hp' rv' (rfeedG most pre rest b).2.2.1 ∧ Ex hp hp' Q ∧ Nil hp' := by
  have hgR : hget hp Q = some ⟨6, false, [rowQ rv pre most 0 0]⟩ := hg
  have hvl := hV.lp
  have hlen := hB.len
  obtain ⟨x0, x1, x2, n2, e2, l1, l2, e1, g1, hBy⟩ := mk2 hN hlim rest b
  have hno : ∀ b, hget hp hp.next = some b → b.sz ≠ 1 := fun b hb => by rw [hN _ (Nat.le_refl _)] at hb; cases hb
  have hB0 := hB.mono x0 hno
  have hV1 := hV.mono x1 hno
  have hg2 : hget (H2 hp rest b) Q = some ⟨6, false, [rowQ rv pre most 0 0]⟩ := x2.get Q _ (by omega) hgR
  have hQ2 : Q < (H2 hp rest b).next := by rw [e2]; omega
  have hQs2 : ∀ b', hget (H2 hp rest b) Q = some b' → b'.sz ≠ 1 := fun b' hb => by rw [hg2] at hb; cases hb; exact (by decide : (6 : Nat) ≠ 1)
  have hByl := hBy.lp
  have hrl : (rest ++ b).length ≤ 40000000 := by rw [List.length_append]; exact hl
  have hrby : Bytes (rest ++ b) := hrb.append hby
  have xS : Ex hp (hset (H2 hp rest b) Q (some ⟨6, false, [rowQ (.hs (hp.next + 2) 0 (0 + (bs rest).length + (bs b).length)) pre most 0 0]⟩)) Q := (ex_any x2 hN (Nat.le_refl _)).trans (Ex.set _ _ _)
  have pl := pre_loop hF (hpE := hset (H2 hp rest b) Q (some ⟨6, false, [rowQ (.hs (hp.next + 2) 0 (0 + (bs rest).length + (bs b).length)) pre most 0 0]⟩)) (pre := pre) (most := most) (hget_set _ _ _) (hBy.mono (Ex.set _ _ Q) hQs2) (by rw [hset_lim]; exact l2) (by rw [hset_next]; exact hQ2) (n2.set hQ2 _) (by omega) hpl
  have hsb : Bytes (strip pre (rest ++ b)).2.1 := strip_bytes pre hrby
  have hsl := strip_len pre (rest ++ b)
  have hse := strip_end pre (rest ++ b)
  refine EvC.ofQ d23 hF rfl rfl ?_
  repeat (first | refine EvQ.run ?_ | refine EvQ.fin X.rs ?_ | refine EvQ.fin1 (fun _ => rfl) rfl ?_)
  refine EvQ.lift (fun _ zn => X.apf (n := 0) rfl rfl hB0.els (hget_new _ _) (by rw [hnew_lim, hlim]; rfl) rfl rfl (by rw [bleD]; exact decide_eq_true (by simp only [Nat.mul_one, bs_length]; unfold maxB; omega)) rfl zn) ?_
  repeat (first | refine EvQ.run ?_ | refine EvQ.fin X.rs ?_ | refine EvQ.fin1 (fun _ => rfl) rfl ?_)
  refine EvQ.lift (fun _ zn => X.apf rfl rfl hV1.els g1 (by rw [bleD, l1]; exact decide_eq_true (by omega)) rfl (by simp) (by rw [bleD]; exact decide_eq_true (by simp only [Nat.mul_one, bs_length]; unfold maxB; omega)) e1 zn) ?_
  repeat (first | refine EvQ.run ?_ | refine EvQ.fin X.rs ?_ | refine EvQ.fin1 (fun _ => rfl) rfl ?_)
  refine EvQ.loop (pl _ ?_ _ ?_) ?_
  · rfl
  · exact X.kv
  unfold rfeedG
  generalize strip pre (rest ++ b) = t at *
  obtain ⟨p', b', er⟩ := t
  simp only at hsb hsl hse
  rintro _ (⟨h1, tm, lo, hp1, rfl, rfl, w', a1, a2, a3, a4, a5⟩ | ⟨h1, tm, lo, hp1, rfl, rfl, a2, a3, a4, a5⟩)
  · have h1 : er = false := h1
    subst h1
    have a2R : hget hp1 Q = some ⟨6, false, [rowQ w' p' most 0 0]⟩ := a2
    have n1 : hp.next ≤ hp1.next := Nat.le_trans xS.next a3.next
    have hlim1 : hp1.lim = 0 := by rw [a3.lim, xS.lim]; exact hlim
    cases p' with
    | nil =>
      have fl := frm_loop (F := F) (hpE := hp1) (buf := b') (most := most) a2 a1 hlim1 (by omega) a5 (by omega) hsb
      repeat (first | refine EvQ.run ?_ | refine EvQ.fin X.rs ?_ | refine EvQ.fin1 (fun _ => rfl) rfl ?_)
      refine EvQ.loop (fl _ ?_ _ ?_) ?_
      · rfl
      · exact X.kv
      rintro _ (⟨f1, out, tm, lo, hp2, rfl, rfl, f2, ⟨w2, f3, f4⟩, f5, f6⟩ | ⟨f1, out, tm, lo, hp2, rfl, rfl, f2, f4, f5, f6⟩)
      · have hol := f2.lp
        repeat (first | refine EvQ.run ?_ | refine EvQ.fin X.rs ?_ | refine EvQ.fin1 (fun _ => rfl) rfl ?_)
        refine EvQ.of (X.fin_tc rfl rfl hol rfl rfl rfl rfl) ⟨_, _, rfl, out, w2, ?_, ?_, ?_, ?_, xS.trans (a3.trans f5), f6⟩
        all_goals simp only [if_true, f1]
        · rfl
        · exact FrV.le f2 n1
        · exact f4
        · exact f3
      · have hol := f2.lp
        repeat (first | refine EvQ.run ?_ | refine EvQ.fin X.rs ?_ | refine EvQ.fin1 (fun _ => rfl) rfl ?_)
        refine EvQ.of (X.fin_tc rfl rfl hol rfl rfl rfl rfl) ⟨_, _, rfl, out, .ns, ?_, ?_, ?_, ?_, xS.trans (a3.trans f5), f6⟩
        all_goals simp only [if_true, f1]
        · rfl
        · exact FrV.le f2 n1
        · exact f4
        · rw [feedA_err0 most b' f1]; exact .ns _
    | cons q qs =>
      have hb0 : b' = [] := hse.resolve_left (by simp)
      subst hb0
      repeat (first | refine EvQ.run ?_ | refine EvQ.fin X.rs ?_ | refine EvQ.fin1 (fun _ => rfl) rfl ?_)
      refine EvQ.loop (QL := XtQ 2 [(0, .pt Q 0 0), (5, .lp 5 0), (6, .ns)] (fun lo hp' => lo = lset (fun _ => none) 5 z3 ∧ hp' = hp1)) ?_ ?_
      · refine EvL.invQ (S := Unit) (fun _ => [(0, .pt Q 0 0), (5, .lp 5 0), (6, .ns)]) (fun _ lo hp' => lo = lset (fun _ => none) 5 z3 ∧ hp' = hp1) (fun _ => 0) _ ?_ () _ _ _ ⟨rfl, rfl⟩ X.kv
        rintro _ lo hp' ⟨rfl, rfl⟩
        repeat (first | refine EvQ.run ?_ | refine EvQ.fin X.rs ?_ | refine EvQ.fin1 (fun _ => rfl) rfl ?_)
        exact EvQ.xt (.mk' X.kv ⟨X.lo, rfl⟩)
      · rintro _ ⟨tm, lo, hp', rfl, rfl, rfl⟩
        repeat (first | refine EvQ.run ?_ | refine EvQ.fin X.rs ?_ | refine EvQ.fin1 (fun _ => rfl) rfl ?_)
        refine ⟨_, _, rfl, .ns, w', ?_, .inl ⟨rfl, rfl⟩, a2, a1, xS.trans a3, a5⟩
        rfl
  · have h1 : er = true := h1
    subst h1
    repeat (first | refine EvQ.run ?_ | refine EvQ.fin X.rs ?_ | refine EvQ.fin1 (fun _ => rfl) rfl ?_)
    exact ⟨_, _, rfl, .ns, .ns, rfl, .inl ⟨rfl, rfl⟩, a2, .ns _, xS.trans a3, a5⟩
end
end Go.Proofs.Ytgofadnggipkpaa.rf
