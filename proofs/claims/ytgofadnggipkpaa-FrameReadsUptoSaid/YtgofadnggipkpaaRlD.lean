import Derived.Test.YtgofadnggipkpaaEvE
import Derived.Test.YtgofadnggipkpaaRsB
import Derived.KernelRfl
set_option linter.unusedVariables false
set_option linter.unusedSimpArgs false
set_option linter.unusedSectionVars false
-- FrameReads: the law (EvHp EvOwn)
namespace Go.Proofs.Ytgofadnggipkpaa.rf
open Go hiding Fn
open Ev tab rl
def preL : List Nat := [80, 82, 73, 32, 42, 32, 72, 84, 84, 80, 47, 50, 46, 48, 13, 10, 13, 10, 83, 77, 13, 10, 13, 10]
def preB : List Int := [80, 82, 73, 32, 42, 32, 72, 84, 84, 80, 47, 50, 46, 48, 13, 10, 13, 10, 83, 77, 13, 10, 13, 10]
theorem runs_go : ∀ N M, run (callF F (N + 2000) (M + 60)) (N + 2000) (bodyD c3 [] h0) = Rt (.bo true) (hpOf (run (callF F 2000 60) 2000 (bodyD c3 [] h0))) := by
  intro N M; kernel_rfl
theorem runs_ok : EvP F 3 c3 [] [.bo true] := .closed 2000 60 rfl rfl rfl rfl runs_go
attribute [local irreducible] EvP EvD EvL EvC evGds evLs C.run sK bK gK pK fK lpB stepD
section
variable {F' : Nat → Option Ev.Fn} {R : R} {k : Ev.R → D} {clr : List Nat} {tm : Tm} {lo : Lo} {hp : Hp} {r : List DOp} {us : List Nat} {g : Option (Nat × Bool)} {d : Nat}
theorem X_mrk {x : A} {id i n : Nat} {es : List (List V)} (hx : get tm x = .hs id i n) (hg : hget hp id = some ⟨1, false, es⟩) (hn : Nat.blt 0 n = true)
    (nx : EvD F' (evLs clr r ⟨upd tm d (.hs id i n), lo, hp⟩ k) R) : EvD F' (evLs clr (⟨some d, g, us, .mrk x⟩ :: r) ⟨tm, lo, hp⟩ k) R :=
  X.q1 (i := .mrk x) (b1 := Nat.blt 0 n) (v := .hs id i n) (fun K KP => by
    show iMrk x us clr d ⟨tm, lo, hp⟩ K KP = _
    unfold iMrk
    simp only [hx, hg]
    rfl) hn nx
end
theorem may_ok (most : Int) : EvP F 25 c25 [.it .i64 most] [.bo (decide (16384 ≤ most ∧ most ≤ 16777215))] := by
  refine EvP.ofQ d25 rfl rfl rfl ?_
  repeat' (first | refine EvQ.run ?_ | (refine EvQ.pickB rfl rfl rfl ?_) | (refine EvQ.cond rfl (fun h => ?_) (fun h => ?_) <;> ((first | replace h := X.nm h | skip); try have hne := ne_len h)) | (refine EvQ.g1 rfl (fun h => ?_) (fun h => ?_) <;> ((first | replace h := X.nm h | skip); try have hne := ne_len h)) | (refine EvQ.pick rfl (fun _ => rfl) (fun _ => rfl) (fun h => ?_) (fun h => ?_) <;> ((first | replace h := X.nm h | skip); try have hne := ne_len h)) | refine EvQ.fin X.rs ?_ | refine EvQ.fin1 (fun _ => rfl) rfl ?_)
  all_goals
    refine PQ.bo ?_
    rw [Bool.eq_iff_iff]
    simp [ilt_eq] at *
    try omega
theorem new_bad (hp : Hp) (most : Int) (pr : Bool) (h : most < 16384 ∨ 16777215 < most) : EvC F false 13 [.it .i64 most, .bo pr] hp (.ret (.tu [.np, .it .i64 1]) hp) := by
  have m := may_ok most
  rw [decide_eq_false (by omega)] at m
  have main : ∃ w hp', EvC F false 13 [.it .i64 most, .bo pr] hp (.ret w hp') ∧ (w = .tu [.np, .it .i64 1] ∧ hp' = hp) := by
    refine EvC.ofQ d13 rfl rfl rfl ?_
    repeat (first | refine EvQ.run ?_ | refine EvQ.lift (fun _ zn => X.pcall (m) X.cq rfl X.al rfl zn) ?_ | refine EvQ.lift (fun _ zn => X.pcallG (m) rfl X.cq rfl X.al rfl zn) ?_ | refine EvQ.lift (fun _ zn => X.pcallC (m) rfl X.cq rfl X.al rfl zn) ?_ | refine EvQ.lift (fun _ zn => X.pcallT (m) (by decide) X.cq rfl X.al rfl zn) ?_ | refine EvQ.lift (fun _ zn => X.call rfl X.al (m) zn) ?_ | refine EvQ.fin X.rs ?_ | refine EvQ.fin1 (fun _ => rfl) rfl ?_)
    exact ⟨_, _, rfl, rfl, rfl⟩
  obtain ⟨w, hp', m1, rfl, rfl⟩ := main
  exact m1
def hpN (hp : Hp) (most : Int) (pr : Bool) : Hp := if pr then hset (hnew hp ⟨6, false, [rowR most [] .ns 0 0]⟩) hp.next (some ⟨6, false, [rowR most preL .ns 0 0]⟩) else hnew hp ⟨6, false, [rowR most [] .ns 0 0]⟩
theorem new_ok (most : Int) (pr : Bool) (h1 : 16384 ≤ most) (h2 : most ≤ 16777215) : EvC F false 13 [.it .i64 most, .bo pr] h0 (.ret (.tu [.pt 0 0 0, .it .i64 0]) (hpN h0 most pr)) := by
  have m := may_ok most
  rw [decide_eq_true ⟨h1, h2⟩] at m
  cases pr
  · skip
    have main : ∃ w hp', EvC F false 13 [.it .i64 most, .bo false] h0 (.ret w hp') ∧ (w = .tu [.pt 0 0 0, .it .i64 0] ∧ hp' = hpN h0 most false) := by
      refine EvC.ofQ d13 rfl rfl rfl ?_
      repeat (first | refine EvQ.run ?_ | refine EvQ.lift (fun _ zn => X.pcall (m) X.cq rfl X.al rfl zn) ?_ | refine EvQ.lift (fun _ zn => X.pcallG (m) rfl X.cq rfl X.al rfl zn) ?_ | refine EvQ.lift (fun _ zn => X.pcallC (m) rfl X.cq rfl X.al rfl zn) ?_ | refine EvQ.lift (fun _ zn => X.pcallT (m) (by decide) X.cq rfl X.al rfl zn) ?_ | refine EvQ.lift (fun _ zn => X.call rfl X.al (m) zn) ?_ | refine EvQ.fin X.rs ?_ | refine EvQ.fin1 (fun _ => rfl) rfl ?_)
      exact ⟨_, _, rfl, rfl, rfl⟩
    obtain ⟨w, hp', m1, rfl, rfl⟩ := main
    exact m1
  · skip
    have main : ∃ w hp', EvC F false 13 [.it .i64 most, .bo true] h0 (.ret w hp') ∧ (w = .tu [.pt 0 0 0, .it .i64 0] ∧ hp' = hpN h0 most true) := by
      refine EvC.ofQ d13 rfl rfl rfl ?_
      repeat (first | refine EvQ.run ?_ | refine EvQ.lift (fun _ zn => X.pcall (m) X.cq rfl X.al rfl zn) ?_ | refine EvQ.lift (fun _ zn => X.pcallG (m) rfl X.cq rfl X.al rfl zn) ?_ | refine EvQ.lift (fun _ zn => X.pcallC (m) rfl X.cq rfl X.al rfl zn) ?_ | refine EvQ.lift (fun _ zn => X.pcallT (m) (by decide) X.cq rfl X.al rfl zn) ?_ | refine EvQ.lift (fun _ zn => X.call rfl X.al (m) zn) ?_ | refine EvQ.fin X.rs ?_ | refine EvQ.fin1 (fun _ => rfl) rfl ?_)
      exact ⟨_, _, rfl, rfl, rfl⟩
    obtain ⟨w, hp', m1, rfl, rfl⟩ := main
    exact m1
def pcs (l : List (List Int)) : List (List V) := l.map fun p => [.vs 1 (bs p)]
theorem pcs_length (l : List (List Int)) : (pcs l).length = l.length := by simp [pcs]
theorem pcs_pcv (hp : Hp) (l : List (List Int)) : PcV hp (.vs 1 (pcs l)) l := ⟨pcs l, .vs, pcs_length l, fun i hi => ⟨.vs 1 (bs (l.getD i [])), by simp [pcs, List.getD, hi], .vs _ _⟩⟩
theorem st_of {hp : Hp} {most : Int} {pre : List Nat} (h1 : hget hp 0 = some ⟨6, false, [rowR most pre .ns 0 0]⟩) (h2 : hget hp 1 = some ⟨6, false, [rowQ .ns pre most 0 0]⟩) (hn : Nil hp) (hl : hp.lim = 0) (q : 1 < hp.next) (hp' : pre.length ≤ 1000) : ST hp 0 1 most pre [] 0 :=
  ⟨⟨.ns, h1, .ns _⟩, ⟨.ns, h2, .ns _⟩, .inr rfl, fun x hx => (by cases hx), hp', hn, hl, by omega, q⟩
/-- both readers new -/
def hpF (most : Int) (pr : Bool) : Hp := if pr then hset (hnew (hpN h0 most true) ⟨6, false, [rowQ .ns [] most 0 0]⟩) 1 (some ⟨6, false, [rowQ .ns preL most 0 0]⟩) else hnew (hpN h0 most false) ⟨6, false, [rowQ .ns [] most 0 0]⟩
/-- the preface ahead of the pieces -/
def hpS (hp : Hp) (l : List (List Int)) : Hp := hnew (hset (hnew (hnew hp ⟨1, false, bs preB⟩) ⟨1, false, [[.hs 2 0 24]]⟩) 3 none) ⟨1, false, [[.hs 2 0 24]] ++ pcs l⟩
def preO (pr : Bool) : List Nat := if pr then preL else []
theorem nilF (most : Int) (pr : Bool) : Nil (hpF most pr) := by
  have n0 : Nil h0 := fun j _ => rfl
  cases pr
  · exact (n0.new _).new _
  · exact ((((n0.new _).set (by show 0 < 1; decide) _).new _).set (by show 1 < 2; decide) _)
theorem nilS (most : Int) (pr : Bool) (l : List (List Int)) : Nil (hpS (hpF most pr) l) := by
  have n := nilF most pr
  cases pr
  · exact (((n.new _).new _).set (by show 3 < 4; decide) _).new _
  · exact (((n.new _).new _).set (by show 3 < 4; decide) _).new _
theorem st0 (most : Int) (pr : Bool) : ST (hpF most pr) 0 1 most (preO pr) [] 0 := by
  cases pr
  · exact st_of (by kernel_rfl) (by kernel_rfl) (nilF _ _) rfl (by show 1 < 2; decide) (by decide)
  · exact st_of (by kernel_rfl) (by kernel_rfl) (nilF _ _) rfl (by show 1 < 2; decide) (by decide)
theorem stS (most : Int) (pr : Bool) (l : List (List Int)) : ST (hpS (hpF most pr) l) 0 1 most (preO pr) [] 0 := by
  cases pr
  · exact st_of (by kernel_rfl) (by kernel_rfl) (nilS _ _ _) rfl (by show 1 < 5; decide) (by decide)
  · exact st_of (by kernel_rfl) (by kernel_rfl) (nilS _ _ _) rfl (by show 1 < 5; decide) (by decide)
theorem pcvS (most : Int) (pr : Bool) (l : List (List Int)) : PcV (hpS (hpF most pr) l) (.hs 4 0 (1 + (pcs l).length)) (preB :: l) := by
  have hlen : ([[V.hs 2 0 24]] ++ pcs l).length = 1 + (pcs l).length := by simp; omega
  have hg4 : hget (hpS (hpF most pr) l) 4 = some ⟨1, false, [[.hs 2 0 24]] ++ pcs l⟩ := by cases pr <;> kernel_rfl
  have hg2 : hget (hpS (hpF most pr) l) 2 = some ⟨1, false, bs preB⟩ := by cases pr <;> kernel_rfl
  have hnx : (hpS (hpF most pr) l).next = 5 := by cases pr <;> kernel_rfl
  have hlm : (hpS (hpF most pr) l).lim = 0 := by cases pr <;> kernel_rfl
  refine ⟨[[.hs 2 0 24]] ++ pcs l, .inr (.inr ⟨4, 0, false, _, by rw [hlen], by rw [hnx]; decide, hg4, by omega, ?_⟩), ?_, ?_⟩
  · rw [List.drop_zero]; exact List.take_length
  · rw [hlen, pcs_length, List.length_cons]; omega
  · intro i hi
    cases i with
    | zero => exact ⟨.hs 2 0 24, rfl, .inr (.inr ⟨2, 0, false, preB, rfl, by rw [hnx]; decide, by rw [hlm]; decide, hg2, by show 0 + 24 ≤ 24; decide, rfl⟩)⟩
    | succ i =>
      have hi' : i < l.length := by simpa using hi
      refine ⟨.vs 1 (bs (l.getD i [])), ?_, .vs _ _⟩
      show (pcs l).getD i [] = _
      simp [pcs, List.getD, hi']
theorem preB_b : Bytes preB := by
  intro x hx
  have h : preB.all (fun x => decide (0 ≤ x ∧ x ≤ 255)) = true := by decide
  have := List.all_eq_true.1 h x hx
  exact of_decide_eq_true this
theorem loop_n {most : Int} {pr : Bool} {l : List (List Int)} (hll : l.length ≤ 2000000) (hlb : ∀ b, b ∈ l → Bytes b ∧ b.length ≤ 10000000) : ∀ lo, lo = (fun _ => none) → ∀ tm, [3, 9, 11, 12].map (fun x => (x, tm x)) = [(3, .vs 1 (pcs l)), (9, .pt 0 0 0), (11, .pt 1 0 0), (12, .it .i64 (Int.ofNat 0))] → ∃ r, EvL F [3, 9, 11, 12] [16, 18] (lpB (d5.body.lps.getD 0 .skip)) ⟨tm, lo, hpF most pr⟩ r ∧ XtQ 0 [] (fun _ _ => True) r := fun lo e tm hk =>
  reads_loop cl (pv := .vs 1 (pcs l)) (by decide) (by omega) hlb rfl (congrArg some (pcs_length l)) (pcs_pcv _ l) (preO pr) (st0 most pr) lo (by rw [e]; exact shed_none) tm hk
theorem loop_s {most : Int} {pr : Bool} {l : List (List Int)} (hll : l.length ≤ 2000000) (hlb : ∀ b, b ∈ l → Bytes b ∧ b.length ≤ 10000000) : ∀ lo, lo = (fun _ => none) → ∀ tm, [3, 9, 11, 12].map (fun x => (x, tm x)) = [(3, .hs 4 0 (1 + (pcs l).length)), (9, .pt 0 0 0), (11, .pt 1 0 0), (12, .it .i64 (Int.ofNat 0))] → ∃ r, EvL F [3, 9, 11, 12] [16, 18] (lpB (d5.body.lps.getD 0 .skip)) ⟨tm, lo, hpS (hpF most pr) l⟩ r ∧ XtQ 0 [] (fun _ _ => True) r := fun lo e tm hk =>
  reads_loop cl (pv := .hs 4 0 (1 + (pcs l).length)) (by decide) (by simp; omega) (fun b hb => by
    rcases List.mem_cons.1 hb with rfl | hb
    · exact ⟨preB_b, by decide⟩
    · exact hlb b hb) rfl (congrArg some (by rw [pcs_length, List.length_cons]; omega)) (pcvS most pr l) (preO pr) (stS most pr l) lo (by rw [e]; exact shed_none) tm hk
def hF (most : Int) : Hp := hnew (hnew h0 ⟨6, false, [rowR most [] .ns 0 0]⟩) ⟨6, false, [rowQ .ns [] most 0 0]⟩
def hT (most : Int) : Hp := hset (hnew (hset (hnew h0 ⟨6, false, [rowR most [] .ns 0 0]⟩) 0 (some ⟨6, false, [rowR most preL .ns 0 0]⟩)) ⟨6, false, [rowQ .ns [] most 0 0]⟩) 1 (some ⟨6, false, [rowQ .ns preL most 0 0]⟩)
theorem hF_eq (most : Int) : hpF most false = hF most := rfl
theorem hT_eq (most : Int) : hpF most true = hT most := rfl
theorem new_okF (most : Int) (h1 : 16384 ≤ most) (h2 : most ≤ 16777215) : EvC F false 13 [.it .i64 most, .bo false] h0 (.ret (.tu [.pt 0 0 0, .it .i64 0]) (hnew h0 ⟨6, false, [rowR most [] .ns 0 0]⟩)) := new_ok most false h1 h2
theorem new_okT (most : Int) (h1 : 16384 ≤ most) (h2 : most ≤ 16777215) : EvC F false 13 [.it .i64 most, .bo true] h0 (.ret (.tu [.pt 0 0 0, .it .i64 0]) (hset (hnew h0 ⟨6, false, [rowR most [] .ns 0 0]⟩) 0 (some ⟨6, false, [rowR most preL .ns 0 0]⟩))) := new_ok most true h1 h2
end Go.Proofs.Ytgofadnggipkpaa.rf
