import Derived.Test.YtgofadnggipkpaaEvE
import Derived.Test.YtgofadnggipkpaaRlB
set_option linter.unusedVariables false
set_option linter.unusedSimpArgs false
set_option linter.unusedSectionVars false
-- FrameReads: the loop (EvHp EvOwn)
namespace Go.Proofs.Ytgofadnggipkpaa.rf
open Go hiding Fn
open Ev tab rl
attribute [local irreducible] EvP EvD EvL EvC evGds evLs C.run sK bK gK pK fK lpB stepD
/-- bytes closed: their block is written no more; all else stays -/
theorem close_byk {hp : Hp} {v : V} {l : List Int} (h : By hp v l) : ∃ hp', Ez hp hp' ∧ (∀ j, idOf v ≠ some j → hget hp' j = hget hp j) ∧ ∀ n, l.length + 5 ≤ n → closeC n (.sl [.one]) v hp = some (.vs 1 (bs l), hp') := by
  rcases h with ⟨rfl, rfl⟩ | rfl | ⟨id, i, fr, rows, rfl, q1, q2, q3, q4, q5⟩
  · refine ⟨hp, .refl _, fun j _ => rfl, fun n hn => ?_⟩
    cases n with
    | zero => omega
    | succ n => rfl
  · refine ⟨hp, .refl _, fun j _ => rfl, fun n hn => ?_⟩
    cases n with
    | zero => omega
    | succ n => exact clo_vs [.one] _ n hp
  · refine ⟨_, .freeze q3 (by decide), fun j hj => hget_other (fun e => hj (by rw [e]; rfl)), fun n hn => ?_⟩
    have e : ((bs rows).drop i).take l.length = bs l := by rw [bs_drop, bs_take, q5]
    have := closeC_hs (ts := [.one]) (len := l.length) q3 q2 rfl (by rw [bs_length]; exact q4) (by rw [e]; exact bs_clo l) (n := n) (by simp; omega)
    rw [e] at this
    exact this
/-- frames that may be closed -/
def FrC (hp : Hp) (v : V) (fs : List Frm) : Prop := (v = .ns ∧ fs = []) ∨ ∃ id f rows, v = .hs id 0 fs.length ∧ hp.lim ≤ id ∧ hget hp id = some ⟨4, f, rows⟩ ∧ FrR hp 0 rows fs
theorem FrV.c {hp : Hp} {z : Nat} {v : V} {fs : List Frm} (h : FrV hp z v fs) : FrC hp v fs := by
  rcases h with ⟨rfl, rfl⟩ | ⟨id, rows, rfl, q0, q1, q2, q3, q4⟩
  · exact .inl ⟨rfl, rfl⟩
  · exact .inr ⟨id, false, rows, rfl, q2, q3, q4.le (Nat.zero_le _)⟩
theorem FrC.z {hp hp' : Hp} {v : V} {fs : List Frm} (h : FrC hp v fs) (z : Ez hp hp') : FrC hp' v fs := by
  rcases h with h | ⟨id, f, rows, q, q2, q3, q4⟩
  · exact .inl h
  · obtain ⟨f', e, _⟩ := z.get _ _ q3
    exact .inr ⟨id, f', rows, q, by rw [z.lim]; exact q2, e, q4.mono1 z.to1⟩
structure CL (F : Nat → Option Ev.Fn) : Prop where
  cf : CF F
  roomy : ∀ l : List Int, l.length ≤ 400 → EvP F 18 d18.den [.vs 1 (bs l), .it .u8 5] [.vs 1 (bs (l ++ List.replicate 80 5))]
  intact : ∀ l : List Int, l.length ≤ 400 → EvP F 22 d22.den [.vs 1 (bs (l ++ List.replicate 80 5)), .vs 1 (bs l), .it .u8 5] [.bo true]
  same : ∀ a : List Frm, a.length ≤ 10000000 → (∀ f, f ∈ a → f.2.2.2.length ≤ 10000000) → EvP F 16 d16.den [.vs 4 (frs a), .vs 4 (frs a)] [.bo true]
  left : ∀ {hp : Hp} {Q : Nat} {most sc co : Int} {pre : List Nat} {bv : V} {buf : List Int}, RdO hp Q most pre bv sc co → By hp bv buf → EvC F false 15 [.pt Q 0 0] hp (.ret (.it .i64 (Int.ofNat buf.length)) hp)
  close : ∀ {hp : Hp} {v : V} {fs : List Frm}, FrC hp v fs → ∃ hp', Ez hp hp' ∧ ∀ n, frsz fs + 12 ≤ n → closeC n (.sl [.one, .one, .one, .sl [.one]]) v hp = some (.vs 4 (frs fs), hp')
  fsz : ∀ (most : Int) (l : List Int), frsz (feedA most l).1 ≤ 2 * l.length ∧ (feedA most l).1.length ≤ l.length ∧ ∀ f, f ∈ (feedA most l).1 → f.2.2.2.length ≤ l.length
theorem cutE (B : List Int) (n : Nat) : slv (.vs 1 (bs B)) 0 n = .vs 1 (bs (B.take n)) := by
  show V.vs 1 _ = _
  simp [bs]
theorem PcV.k2 {hp hp' : Hp} {pv : V} {l : List (List Int)} {Q Q2 : Nat} (h : PcV hp pv l) (h1 : hp.next ≤ hp'.next) (h2 : hp'.lim = hp.lim) (hk : ∀ j x, j ≠ Q → j ≠ Q2 → hget hp j = some x → hget hp' j = some x) (hQ : ∀ b, hget hp Q = some b → b.sz ≠ 1) (hQ2 : ∀ b, hget hp Q2 = some b → b.sz ≠ 1) : PcV hp' pv l := by
  obtain ⟨rows, r1, r2, r3⟩ := h
  refine ⟨rows, ?_, r2, fun i hi => ?_⟩
  · rcases r1 with h | h | ⟨id, i, fr, all, rfl, q1, q2, q3, q4⟩
    · exact .inl h
    · exact .inr (.inl h)
    · exact .inr (.inr ⟨id, i, fr, all, rfl, Nat.lt_of_lt_of_le q1 h1, hk _ _ (fun e => by subst e; exact hQ _ q2 rfl) (fun e => by subst e; exact hQ2 _ q2 rfl) q2, q3, q4⟩)
  · obtain ⟨v, a, b⟩ := r3 i hi
    refine ⟨v, a, ?_⟩
    rcases b with b | b | ⟨id, i, fr, rows, rfl, q1, q2, q3, q4, q5⟩
    · exact .inl b
    · exact .inr (.inl b)
    · exact .inr (.inr ⟨id, i, fr, rows, rfl, Nat.lt_of_lt_of_le q1 h1, by rw [h2]; exact q2, hk _ _ (fun e => by subst e; exact hQ _ q3 rfl) (fun e => by subst e; exact hQ2 _ q3 rfl) q3, q4, q5⟩)
theorem by_k2 {hp hp' : Hp} {v : V} {l : List Int} {Q Q2 : Nat} (b : By hp v l) (h1 : hp.next ≤ hp'.next) (h2 : hp'.lim = hp.lim) (hk : ∀ j x, j ≠ Q → j ≠ Q2 → hget hp j = some x → hget hp' j = some x) (hQ : ∀ b, hget hp Q = some b → b.sz ≠ 1) (hQ2 : ∀ b, hget hp Q2 = some b → b.sz ≠ 1) : By hp' v l := by
  rcases b with b | b | ⟨id, i, fr, rows, rfl, q1, q2, q3, q4, q5⟩
  · exact .inl b
  · exact .inr (.inl b)
  · exact .inr (.inr ⟨id, i, fr, rows, rfl, Nat.lt_of_lt_of_le q1 h1, by rw [h2]; exact q2, hk _ _ (fun e => by subst e; exact hQ _ q3 rfl) (fun e => by subst e; exact hQ2 _ q3 rfl) q3, q4, q5⟩)
theorem ST.ez {hp hp' : Hp} {Q Q2 : Nat} {most : Int} {pre : List Nat} {buf : List Int} {C : Int} (h : ST hp Q Q2 most pre buf C) (z : Ez hp hp') : ST hp' Q Q2 most pre buf C := by
  obtain ⟨bv, r1, r2⟩ := h.rd
  obtain ⟨rv, f1, f2⟩ := h.rf
  exact ⟨⟨bv, z.rd r1, r2.mono1 z.to1⟩, ⟨rv, z.rd f1, f2.mono1 z.to1⟩, h.or, h.by', h.pl, z.nil h.nil, by rw [z.lim]; exact h.lim, by rw [z.next]; exact h.q1, by rw [z.next]; exact h.q2⟩
set_option maxHeartbeats 64000000 in
theorem reads_loop {F : Nat → Option Ev.Fn} (cl : CL F) {hp0 : Hp} {Q Q2 : Nat} (hqq : Q ≠ Q2) {most : Int} {pv : V} {l : List (List Int)} (hll : l.length ≤ 10000000) (hlb : ∀ b, b ∈ l → Bytes b ∧ b.length ≤ 10000000) (hpl : isLp pv = false) (hpn : lenOf false pv = some l.length) (hP : PcV hp0 pv l) (pre0 : List Nat) (hS : ST hp0 Q Q2 most pre0 [] 0)
    (lo : Lo) (hlo : shed [16, 18] lo = fun _ => none) (tm : Tm) (hk : [3, 9, 11, 12].map (fun x => (x, tm x)) = [(3, pv), (9, .pt Q 0 0), (11, .pt Q2 0 0), (12, .it .i64 (Int.ofNat 0))]) :
    ∃ r, EvL F [3, 9, 11, 12] [16, 18] (lpB (d5.body.lps.getD 0 .skip)) ⟨tm, lo, hp0⟩ r ∧ XtQ 0 [] (fun _ _ => True) r := by
  refine EvL.invQ (S := Nat) (fun i => [(3, pv), (9, .pt Q 0 0), (11, .pt Q2 0 0), (12, .it .i64 (Int.ofNat i))])
    (fun i lo hp => shed [16, 18] lo = (fun _ => none) ∧ i ≤ 20 ∧ PcV hp pv l ∧ ∃ pre buf C, ST hp Q Q2 most pre buf C ∧ (C ≠ 0 → buf = []) ∧ buf.length ≤ 400 * i) (fun i => 20 - i) _ ?_ 0 tm lo hp0 ⟨hlo, Nat.zero_le _, hP, pre0, [], 0, hS, fun h => absurd rfl h, Nat.zero_le _⟩ hk
  rintro i lo hp ⟨e1, e2, hP, pre, buf, C, hS, hC, hbl⟩
  rw [e1]
  by_cases hc : i < l.length ∧ i < 20
  · obtain ⟨h1, h2⟩ := hc
    have hP0 := hP
    obtain ⟨rows, hR, hrl, hrow⟩ := hP0
    obtain ⟨v, hge, hV⟩ := hrow i h1
    obtain ⟨hby, hbn⟩ := hlb (l.getD i []) (by rw [List.getD, List.getElem?_eq_getElem h1]; exact List.getElem_mem h1)
    generalize l.getD i [] = b at *
    have hvl := hV.lp
    have hvn := hV.len
    have hi2 : i < rows.length := by omega
    repeat (first | refine EvQ.run ?_ | refine EvQ.fin X.rs ?_ | refine EvQ.fin1 (fun _ => rfl) rfl ?_)
    by_cases h4 : 400 < b.length
    · refine EvQ.lift (fun _ zn => X.condTs rfl (by rw [ilt_eq]; exact decide_eq_true (by simp only [Int.ofNat_eq_natCast]; omega)) zn) ?_
      have hV' := hV.slv (a := 0) (b := 400) (Nat.zero_le _) (by omega)
      rw [List.drop_zero, Nat.sub_zero] at hV'
      have hb4 : (b.take 400).length ≤ 400 := by rw [List.length_take]; omega
      have hby' := hby.take 400
      refine EvQ.run ?_
      refine EvQ.lift (fun _ zn => X.slcE (v := v) rfl hV (a := 0) (b := 400) rfl ⟨_, rfl⟩ (Nat.zero_le _) (by omega) zn) ?_
      generalize slv v 0 400 = v' at *
      generalize b.take 400 = bb at *
      obtain ⟨hpA, zA, gA, cA⟩ := close_byk hV'
      have hclA : ClP d18.den.ps [v', .it .u8 5] hp [.vs 1 (bs bb), .it .u8 5] hpA := .c (cA _ (by show bb.length + 5 ≤ 100000000; omega)) (.s (clo_it _ _) (.nil _))
      have hv'l := hV'.lp
      have hv'n := hV'.len
      have hS' := hS.ez zA
      have hVA := hV'.mono1 zA.to1
      have hPA := hP.ez zA
      obtain ⟨out1, out2, hp2, hp3, fs, pre', buf', C', c1, c2, f1, f2, s3, herr, hb3, hk3, hn3, lf, hlf, rfl⟩ := both_ok cl.cf hS' hC hqq v' hVA hby' hb4 (by omega)
      have ec : slv (.vs 1 (bs (bb ++ List.replicate 80 5))) 0 bb.length = .vs 1 (bs bb) := by rw [cutE, List.take_left']; rfl
      have ro := cl.roomy bb hb4
      have et : List.take ((Int.ofNat bb.length).toNat - 0) (List.drop 0 (bs (bb ++ List.replicate 80 5))) = bs bb := by
        show (bs (bb ++ List.replicate 80 5)).take bb.length = bs bb
        rw [bs_take, List.take_left']
        rfl
      rw [← et] at c1
      have hrl80 : (bb ++ List.replicate 80 5).length = bb.length + 80 := by simp
      repeat (first | refine EvQ.run ?_ | refine EvQ.fin X.rs ?_ | refine EvQ.fin1 (fun _ => rfl) rfl ?_)
      refine EvQ.lift (fun _ zn => X.pcall ro hclA rfl X.al rfl zn) ?_
      repeat (first | refine EvQ.run ?_ | refine EvQ.fin X.rs ?_ | refine EvQ.fin1 (fun _ => rfl) rfl ?_)
      refine EvQ.lift (fun _ zn => X.call rfl X.al c1 zn) ?_
      have o1 := f1.lp
      have o2 := f2.lp
      obtain ⟨hpB, zB, cB⟩ := cl.close (FrV.c f1)
      obtain ⟨hpD, zD, cD⟩ := cl.close (FrC.z (FrV.c f2) zB)
      obtain ⟨s1, s2, s4⟩ := cl.fsz most lf
      have hclS : ClP d16.den.ps [out1, out2] hp3 [.vs 4 (frs (feedA most lf).1), .vs 4 (frs (feedA most lf).1)] hpD := .c (cB _ (by show _ ≤ 100000000; omega)) (.c (cD _ (by show _ ≤ 100000000; omega)) (.nil _))
      have sm := cl.same (feedA most lf).1 (by omega) (fun f hf => by have := s4 f hf; omega)
      have sD := (s3.ez zB).ez zD
      obtain ⟨bv3, r3, r4⟩ := sD.rd
      obtain ⟨rv3, f3, f4⟩ := sD.rf
      have lft := cl.left r3 r4
      have f3R : hget hpD Q2 = some ⟨6, false, [rowQ rv3 pre' most (scope C') C']⟩ := f3
      have rvn := f4.len
      have rvl := f4.lp
      have it := cl.intact bb hb4
      obtain ⟨bvA, rA, -⟩ := hS'.rd
      obtain ⟨rvA, fA, -⟩ := hS'.rf
      have qA1 : ∀ b, hget hpA Q = some b → b.sz ≠ 1 := fun b hb => by rw [rA] at hb; cases hb; exact (by decide : (6 : Nat) ≠ 1)
      have qA2 : ∀ b, hget hpA Q2 = some b → b.sz ≠ 1 := fun b hb => by rw [fA] at hb; cases hb; exact (by decide : (6 : Nat) ≠ 1)
      have l3 : hp3.lim = hpA.lim := by rw [s3.lim, hS'.lim]
      have hVD := ((by_k2 hVA hn3 l3 hk3 qA1 qA2).mono1 zB.to1).mono1 zD.to1
      obtain ⟨hpE, zE, -, cE⟩ := close_byk hVD
      have PE := (((hPA.k2 hn3 l3 hk3 qA1 qA2).ez zB).ez zD).ez zE
      have hclI : ClP d22.den.ps [.vs 1 (bs (bb ++ List.replicate 80 5)), v', .it .u8 5] hpD [.vs 1 (bs (bb ++ List.replicate 80 5)), .vs 1 (bs bb), .it .u8 5] hpE := .s (clo_vs [.one] _) (.c (cE _ (by show bb.length + 5 ≤ 100000000; omega)) (.s (clo_it _ _) (.nil _)))
      generalize (feedA most lf).1 = fs at *
      repeat (first | refine EvQ.run ?_ | refine EvQ.fin X.rs ?_ | refine EvQ.fin1 (fun _ => rfl) rfl ?_)
      refine EvQ.lift (fun _ zn => X.call rfl X.al c2 zn) ?_
      repeat (first | refine EvQ.run ?_ | refine EvQ.fin X.rs ?_ | refine EvQ.fin1 (fun _ => rfl) rfl ?_)
      refine EvQ.lift (fun _ zn => X.pcall sm hclS rfl X.al rfl zn) ?_
      repeat (first | refine EvQ.run ?_ | refine EvQ.fin X.rs ?_ | refine EvQ.fin1 (fun _ => rfl) rfl ?_)
      refine EvQ.lift (fun _ zn => X.call rfl X.al lft zn) ?_
      repeat (first | refine EvQ.run ?_ | refine EvQ.fin X.rs ?_ | refine EvQ.fin1 (fun _ => rfl) rfl ?_)
      refine EvQ.lift (fun _ zn => X.pcall it hclI rfl X.al rfl zn) ?_
      repeat (first | refine EvQ.run ?_ | refine EvQ.fin X.rs ?_ | refine EvQ.fin1 (fun _ => rfl) rfl ?_)
      exact EvQ.go (i + 1) X.kv ⟨X.lo, by show i + 1 ≤ 20; omega, PE, pre', buf', C', sD.ez zE, herr, by omega⟩ (by show 20 - (i + 1) < 20 - i; omega)
    · refine EvQ.lift (fun _ zn => X.condFs rfl (by rw [ilt_eq]; exact decide_eq_false (by simp only [Int.ofNat_eq_natCast]; omega)) zn) ?_
      have hV' := hV
      have hb4 : b.length ≤ 400 := by omega
      have hby' := hby
      obtain ⟨hpA, zA, gA, cA⟩ := close_byk hV'
      have hclA : ClP d18.den.ps [v, .it .u8 5] hp [.vs 1 (bs b), .it .u8 5] hpA := .c (cA _ (by show b.length + 5 ≤ 100000000; omega)) (.s (clo_it _ _) (.nil _))
      have hv'l := hV'.lp
      have hv'n := hV'.len
      have hS' := hS.ez zA
      have hVA := hV'.mono1 zA.to1
      have hPA := hP.ez zA
      obtain ⟨out1, out2, hp2, hp3, fs, pre', buf', C', c1, c2, f1, f2, s3, herr, hb3, hk3, hn3, lf, hlf, rfl⟩ := both_ok cl.cf hS' hC hqq v hVA hby' hb4 (by omega)
      have ec : slv (.vs 1 (bs (b ++ List.replicate 80 5))) 0 b.length = .vs 1 (bs b) := by rw [cutE, List.take_left']; rfl
      have ro := cl.roomy b hb4
      have et : List.take ((Int.ofNat b.length).toNat - 0) (List.drop 0 (bs (b ++ List.replicate 80 5))) = bs b := by
        show (bs (b ++ List.replicate 80 5)).take b.length = bs b
        rw [bs_take, List.take_left']
        rfl
      rw [← et] at c1
      have hrl80 : (b ++ List.replicate 80 5).length = b.length + 80 := by simp
      repeat (first | refine EvQ.run ?_ | refine EvQ.fin X.rs ?_ | refine EvQ.fin1 (fun _ => rfl) rfl ?_)
      refine EvQ.lift (fun _ zn => X.pcall ro hclA rfl X.al rfl zn) ?_
      repeat (first | refine EvQ.run ?_ | refine EvQ.fin X.rs ?_ | refine EvQ.fin1 (fun _ => rfl) rfl ?_)
      refine EvQ.lift (fun _ zn => X.call rfl X.al c1 zn) ?_
      have o1 := f1.lp
      have o2 := f2.lp
      obtain ⟨hpB, zB, cB⟩ := cl.close (FrV.c f1)
      obtain ⟨hpD, zD, cD⟩ := cl.close (FrC.z (FrV.c f2) zB)
      obtain ⟨s1, s2, s4⟩ := cl.fsz most lf
      have hclS : ClP d16.den.ps [out1, out2] hp3 [.vs 4 (frs (feedA most lf).1), .vs 4 (frs (feedA most lf).1)] hpD := .c (cB _ (by show _ ≤ 100000000; omega)) (.c (cD _ (by show _ ≤ 100000000; omega)) (.nil _))
      have sm := cl.same (feedA most lf).1 (by omega) (fun f hf => by have := s4 f hf; omega)
      have sD := (s3.ez zB).ez zD
      obtain ⟨bv3, r3, r4⟩ := sD.rd
      obtain ⟨rv3, f3, f4⟩ := sD.rf
      have lft := cl.left r3 r4
      have f3R : hget hpD Q2 = some ⟨6, false, [rowQ rv3 pre' most (scope C') C']⟩ := f3
      have rvn := f4.len
      have rvl := f4.lp
      have it := cl.intact b hb4
      obtain ⟨bvA, rA, -⟩ := hS'.rd
      obtain ⟨rvA, fA, -⟩ := hS'.rf
      have qA1 : ∀ b, hget hpA Q = some b → b.sz ≠ 1 := fun b hb => by rw [rA] at hb; cases hb; exact (by decide : (6 : Nat) ≠ 1)
      have qA2 : ∀ b, hget hpA Q2 = some b → b.sz ≠ 1 := fun b hb => by rw [fA] at hb; cases hb; exact (by decide : (6 : Nat) ≠ 1)
      have l3 : hp3.lim = hpA.lim := by rw [s3.lim, hS'.lim]
      have hVD := ((by_k2 hVA hn3 l3 hk3 qA1 qA2).mono1 zB.to1).mono1 zD.to1
      obtain ⟨hpE, zE, -, cE⟩ := close_byk hVD
      have PE := (((hPA.k2 hn3 l3 hk3 qA1 qA2).ez zB).ez zD).ez zE
      have hclI : ClP d22.den.ps [.vs 1 (bs (b ++ List.replicate 80 5)), v, .it .u8 5] hpD [.vs 1 (bs (b ++ List.replicate 80 5)), .vs 1 (bs b), .it .u8 5] hpE := .s (clo_vs [.one] _) (.c (cE _ (by show b.length + 5 ≤ 100000000; omega)) (.s (clo_it _ _) (.nil _)))
      generalize (feedA most lf).1 = fs at *
      repeat (first | refine EvQ.run ?_ | refine EvQ.fin X.rs ?_ | refine EvQ.fin1 (fun _ => rfl) rfl ?_)
      refine EvQ.lift (fun _ zn => X.call rfl X.al c2 zn) ?_
      repeat (first | refine EvQ.run ?_ | refine EvQ.fin X.rs ?_ | refine EvQ.fin1 (fun _ => rfl) rfl ?_)
      refine EvQ.lift (fun _ zn => X.pcall sm hclS rfl X.al rfl zn) ?_
      repeat (first | refine EvQ.run ?_ | refine EvQ.fin X.rs ?_ | refine EvQ.fin1 (fun _ => rfl) rfl ?_)
      refine EvQ.lift (fun _ zn => X.call rfl X.al lft zn) ?_
      repeat (first | refine EvQ.run ?_ | refine EvQ.fin X.rs ?_ | refine EvQ.fin1 (fun _ => rfl) rfl ?_)
      refine EvQ.lift (fun _ zn => X.pcall it hclI rfl X.al rfl zn) ?_
      repeat (first | refine EvQ.run ?_ | refine EvQ.fin X.rs ?_ | refine EvQ.fin1 (fun _ => rfl) rfl ?_)
      exact EvQ.go (i + 1) X.kv ⟨X.lo, by show i + 1 ≤ 20; omega, PE, pre', buf', C', sD.ez zE, herr, by omega⟩ (by show 20 - (i + 1) < 20 - i; omega)
  · have hx : ¬ i < l.length ∨ ¬ i < 20 := by omega
    rcases hx with h1 | h1
    · repeat' (first | refine EvQ.run ?_ | (refine EvQ.pickB rfl rfl rfl ?_) | (refine EvQ.cond rfl (fun h => ?_) (fun h => ?_) <;> ((first | replace h := X.nm h | skip); try have hne := ne_len h)) | (refine EvQ.g1 rfl (fun h => ?_) (fun h => ?_) <;> ((first | replace h := X.nm h | skip); try have hne := ne_len h)) | (refine EvQ.pick rfl (fun _ => rfl) (fun _ => rfl) (fun h => ?_) (fun h => ?_) <;> ((first | replace h := X.nm h | skip); try have hne := ne_len h)) | refine EvQ.fin X.rs ?_ | refine EvQ.fin1 (fun _ => rfl) rfl ?_)
      exact EvQ.xt (.mk' X.kv trivial)
    · repeat' (first | refine EvQ.run ?_ | (refine EvQ.pickB rfl rfl rfl ?_) | (refine EvQ.cond rfl (fun h => ?_) (fun h => ?_) <;> ((first | replace h := X.nm h | skip); try have hne := ne_len h)) | (refine EvQ.g1 rfl (fun h => ?_) (fun h => ?_) <;> ((first | replace h := X.nm h | skip); try have hne := ne_len h)) | (refine EvQ.pick rfl (fun _ => rfl) (fun _ => rfl) (fun h => ?_) (fun h => ?_) <;> ((first | replace h := X.nm h | skip); try have hne := ne_len h)) | refine EvQ.fin X.rs ?_ | refine EvQ.fin1 (fun _ => rfl) rfl ?_)
      all_goals exact EvQ.xt (.mk' X.kv trivial)
end Go.Proofs.Ytgofadnggipkpaa.rf
