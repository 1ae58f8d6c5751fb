import Derived.Test.YtcbiplmgaiipgaaDoorEvE
import Derived.Test.YtcbiplmgaiipgaaDoorLenP
import Derived.Test.YtcbiplmgaiipgaaDoorHelp
import Derived.KernelRfl
set_option linter.unusedVariables false
set_option linter.unusedSimpArgs false
set_option linter.unusedSectionVars false
-- MessageLengths: the walk (EvHp EvOwn)
namespace Go.Proofs.YtcbiplmgaiipgaaDoor
open Go hiding Fn
open Ev tab
section
variable {F' : Nat → Option Ev.Fn} {R : Ev.R} {k : Ev.R → D} {clr : List Nat} {tm : Tm} {lo : Lo} {hp : Hp} {r : List DOp} {us : List Nat} {g : Option (Nat × Bool)} {d : Nat}
/-- a literal by value -/
theorem X_bsv {ts : List Ty} {sz : Nat} {es0 es : List (List V)} {ps : List (Nat × A)} (hf : fillE sz (ps.map fun q => (q.1, get tm q.2)) es0 = some es) (hc : ∀ e, e ∈ es → CloL ts e) (hn : es.length + ts.length + 5 ≤ depth)
    (nx : EvD F' (evLs clr r ⟨upd tm d (.vs sz es), lo, hp⟩ k) R) : EvD F' (evLs clr (⟨some d, g, us, .bsv ts sz es0 ps⟩ :: r) ⟨tm, lo, hp⟩ k) R := by
  have e : evLs clr (⟨some d, g, us, .bsv ts sz es0 ps⟩ :: r) ⟨tm, lo, hp⟩ k = match fillE sz (ps.map fun q => (q.1, get tm q.2)) es0 with
    | some es => (match closeEs depth ts es Ev.h0 with
      | some (es, _) => forceV (fun v => evLs clr r ⟨upd tm d v, lo, hp⟩ k) (.vs sz es)
      | none => .bad)
    | none => .bad := rfl
  have e3 : closeEs depth ts es Ev.h0 = some (es, Ev.h0) := closeEs_clo depth Ev.h0 hc (by omega)
  rw [e, hf]
  simp only [e3]
  exact nx
end
attribute [local irreducible] EvP EvD EvL EvC evGds evLs C.run sK bK gK pK fK lpB stepD resF itoaL decN fillE
theorem rem_go {a : Int} (h : 0 ≤ a) (h2 : a < 4294967296) : ∃ m : Nat, m < 1000000000 ∧ wr .i64 (a.tmod (Int.ofNat 1000000000)) = Int.ofNat m := by
  have e : a.tmod (Int.ofNat 1000000000) = a % 1000000000 := Int.tmod_eq_emod_of_nonneg h
  refine ⟨(a % 1000000000).toNat, by omega, ?_⟩
  rw [e, wr64 (by omega) (by omega)]
  show _ = ((a % 1000000000).toNat : Int)
  omega
def c10 : List Nat := [49, 48, 48, 48, 48, 48, 48, 48, 48, 48]
theorem fok_of {l : List Fld} (h : ∀ f, f ∈ l → Txt f.1 ∧ Txt f.2 ∧ f.1.length ≤ 100000000 ∧ f.2.length ≤ 100000000) (hl : l.length ≤ 4) : FOK l := ⟨by omega, h⟩
theorem tx_st : Txt sStatus ∧ Txt v200 ∧ sStatus.length ≤ 100000000 ∧ v200.length ≤ 100000000 := ⟨by unfold Txt sStatus; decide, by unfold Txt v200; decide, by decide, by decide⟩
theorem tx_x : Txt fX.1 ∧ Txt fX.2 ∧ fX.1.length ≤ 100000000 ∧ fX.2.length ≤ 100000000 := ⟨by unfold Txt fX; decide, by unfold Txt fX; decide, by decide, by decide⟩
theorem tx_cl : Txt sCl ∧ sCl.length ≤ 100000000 := ⟨by unfold Txt sCl; decide, by decide⟩
theorem tx_10 : Txt c10 := by unfold Txt c10; decide
set_option maxHeartbeats 32000000 in
theorem len_run (a b : Int) (ha : 0 ≤ a) (ha2 : a < 4294967296) (hb : 0 ≤ b) (hb2 : b < 4294967296) (lg : Bool) : ∃ h, EvD F (stepD d3 [.it .u32 a, .it .u32 b, .bo lg] h0) (Rt (.bo true) h) := by
  obtain ⟨m, hm, em⟩ := rem_go ha ha2
  obtain ⟨n, hn, en⟩ := rem_go hb hb2
  have i1 : EvP F 5 itoaFn [.it .i64 (Int.ofNat m)] [.st (itoaL (m : Int))] := itoa5_ok _ (by show m ≤ _; omega)
  have i2 : EvP F 5 itoaFn [.it .i64 (Int.ofNat n)] [.st (itoaL (n : Int))] := itoa5_ok _ (by show n ≤ _; omega)
  rw [itoaL_nat hm] at i1
  rw [itoaL_nat hn] at i2
  have nm := numF_dec hm
  have nn := numF_dec hn
  have vm := value_dig (decN_all m)
  have vn := value_dig (decN_all n)
  have tm1 := decN_txt m
  have tn1 := decN_txt n
  obtain ⟨lm0, lm⟩ := decN_len m 8 (by simpa using hm)
  obtain ⟨ln0, ln⟩ := decN_len n 8 (by simpa using hn)
  generalize decN m = am at *
  generalize decN n = bn at *
  have fa : Txt sCl ∧ Txt am ∧ sCl.length ≤ 100000000 ∧ am.length ≤ 100000000 := ⟨tx_cl.1, tm1, tx_cl.2, by omega⟩
  have fb : Txt sCl ∧ Txt bn ∧ sCl.length ≤ 100000000 ∧ bn.length ≤ 100000000 := ⟨tx_cl.1, tn1, tx_cl.2, by omega⟩
  have f4 : FOK [(sStatus, v200), (sCl, am), fX, (sCl, bn)] := fok_of (fun f hf => by
    simp only [List.mem_cons, List.not_mem_nil, or_false] at hf
    rcases hf with rfl | rfl | rfl | rfl
    · exact tx_st
    · exact fa
    · exact tx_x
    · exact fb) (Nat.le_refl _)
  have r4 := response_ok _ f4
  have r3 := response_ok _ (f4.take 3)
  have r1 := response_ok _ (f4.take 1)
  have f2 : FOK [(sStatus, v200), (sCl, c10 ++ am)] := fok_of (fun f hf => by
    simp only [List.mem_cons, List.not_mem_nil, or_false] at hf
    rcases hf with rfl | rfl
    · exact tx_st
    · refine ⟨tx_cl.1, fun c hc => ?_, tx_cl.2, ?_⟩
      · rcases List.mem_append.1 hc with hc | hc
        · exact tx_10 c hc
        · exact tm1 c hc
      · show (c10 ++ am).length ≤ _
        rw [List.length_append]; show 10 + _ ≤ _; omega) (by show 2 ≤ 4; omega)
  have r2 := response_ok _ f2
  rw [res_2 (by rw [List.length_append]; show 9 < 10 + _; omega)] at r2
  rw [res_4 nm nn vm vn] at r4
  rw [show ([(sStatus, v200), (sCl, am), fX, (sCl, bn)] : List Fld).take 3 = [(sStatus, v200), (sCl, am), fX] from rfl, res_3 nm vm] at r3
  rw [show ([(sStatus, v200), (sCl, am), fX, (sCl, bn)] : List Fld).take 1 = [(sStatus, v200)] from rfl, res_1] at r1
  have r3 : EvP F 6 c6 [.vs 2 (fds [(sStatus, v200), (sCl, am), fX])] [.ag [.it .i64 200, .vs 2 (fds [(sCl, am), fX]), .it .i64 (Int.ofNat m)], .bo true] := r3
  have r1 : EvP F 6 c6 [.vs 2 (fds [(sStatus, v200)])] [.ag [.it .i64 200, .vs 2 (fds []), .it .i64 (-1)], .bo true] := r1
  have r2 : EvP F 6 c6 [.vs 2 (fds [(sStatus, v200), (sCl, c10 ++ am)])] [.ag [.it .i64 0, .vs 2 (fds []), .it .i64 0], .bo false] := r2
  obtain ⟨k4, w4, n4, b4, e4, h4, h4'⟩ : ∃ k4 w4 n4 b4, EvP F 6 c6 [.vs 2 (fds [(sStatus, v200), (sCl, am), fX, (sCl, bn)])] [.ag [.it .i64 k4, .vs 2 w4, .it .i64 n4], .bo b4] ∧ b4 = decide (m = n) ∧ (m = n → n4 = Int.ofNat m) := by
    by_cases h : m = n
    · rw [if_pos h] at r4
      exact ⟨_, _, _, _, r4, (decide_eq_true h).symm, fun _ => rfl⟩
    · rw [if_neg h] at r4
      exact ⟨_, _, _, _, r4, (decide_eq_false h).symm, fun q => absurd q h⟩
  have o1 := of_ok [58, 115, 116, 97, 116, 117, 115] [50, 48, 48]
  have o2 := of_ok [99, 111, 110, 116, 101, 110, 116, 45, 108, 101, 110, 103, 116, 104] am
  have o3 := of_ok [120] [121]
  have o4 := of_ok [99, 111, 110, 116, 101, 110, 116, 45, 108, 101, 110, 103, 116, 104] bn
  have o5 := of_ok [99, 111, 110, 116, 101, 110, 116, 45, 108, 101, 110, 103, 116, 104] ([49, 48, 48, 48, 48, 48, 48, 48, 48, 48] ++ am)
  clear r4 f4 f2 fa fb nm nn vm vn tm1 tn1
  refine EvQ.law ?_
  refine EvQ.run ?_
  rw [em, en]
  first | refine EvQ.lift (fun _ zn => X.pcall (o1) X.cq rfl X.al rfl zn) ?_ | refine EvQ.lift (fun _ zn => X.pcallG (o1) rfl X.cq rfl X.al rfl zn) ?_ | refine EvQ.lift (fun _ zn => X.pcallC (o1) rfl X.cq rfl X.al rfl zn) ?_ | refine EvQ.lift (fun _ zn => X.pcallT (o1) (by decide) X.cq rfl X.al rfl zn) ?_ | refine EvQ.lift (fun _ zn => X.call rfl X.al (o1) zn) ?_
  try refine EvQ.run ?_
  first | refine EvQ.lift (fun _ zn => X.pcall (i1) X.cq rfl X.al rfl zn) ?_ | refine EvQ.lift (fun _ zn => X.pcallG (i1) rfl X.cq rfl X.al rfl zn) ?_ | refine EvQ.lift (fun _ zn => X.pcallC (i1) rfl X.cq rfl X.al rfl zn) ?_ | refine EvQ.lift (fun _ zn => X.pcallT (i1) (by decide) X.cq rfl X.al rfl zn) ?_ | refine EvQ.lift (fun _ zn => X.call rfl X.al (i1) zn) ?_
  try refine EvQ.run ?_
  first | refine EvQ.lift (fun _ zn => X.pcall (o2) X.cq rfl X.al rfl zn) ?_ | refine EvQ.lift (fun _ zn => X.pcallG (o2) rfl X.cq rfl X.al rfl zn) ?_ | refine EvQ.lift (fun _ zn => X.pcallC (o2) rfl X.cq rfl X.al rfl zn) ?_ | refine EvQ.lift (fun _ zn => X.pcallT (o2) (by decide) X.cq rfl X.al rfl zn) ?_ | refine EvQ.lift (fun _ zn => X.call rfl X.al (o2) zn) ?_
  try refine EvQ.run ?_
  first | refine EvQ.lift (fun _ zn => X.pcall (o3) X.cq rfl X.al rfl zn) ?_ | refine EvQ.lift (fun _ zn => X.pcallG (o3) rfl X.cq rfl X.al rfl zn) ?_ | refine EvQ.lift (fun _ zn => X.pcallC (o3) rfl X.cq rfl X.al rfl zn) ?_ | refine EvQ.lift (fun _ zn => X.pcallT (o3) (by decide) X.cq rfl X.al rfl zn) ?_ | refine EvQ.lift (fun _ zn => X.call rfl X.al (o3) zn) ?_
  try refine EvQ.run ?_
  first | refine EvQ.lift (fun _ zn => X.pcall (i2) X.cq rfl X.al rfl zn) ?_ | refine EvQ.lift (fun _ zn => X.pcallG (i2) rfl X.cq rfl X.al rfl zn) ?_ | refine EvQ.lift (fun _ zn => X.pcallC (i2) rfl X.cq rfl X.al rfl zn) ?_ | refine EvQ.lift (fun _ zn => X.pcallT (i2) (by decide) X.cq rfl X.al rfl zn) ?_ | refine EvQ.lift (fun _ zn => X.call rfl X.al (i2) zn) ?_
  try refine EvQ.run ?_
  first | refine EvQ.lift (fun _ zn => X.pcall (o4) X.cq rfl X.al rfl zn) ?_ | refine EvQ.lift (fun _ zn => X.pcallG (o4) rfl X.cq rfl X.al rfl zn) ?_ | refine EvQ.lift (fun _ zn => X.pcallC (o4) rfl X.cq rfl X.al rfl zn) ?_ | refine EvQ.lift (fun _ zn => X.pcallT (o4) (by decide) X.cq rfl X.al rfl zn) ?_ | refine EvQ.lift (fun _ zn => X.call rfl X.al (o4) zn) ?_
  try refine EvQ.run ?_
  refine EvQ.lift (fun _ zn => X_bsv (es := fds [(sStatus, v200), (sCl, am), fX, (sCl, bn)]) (by kernel_rfl) (fds_clo _) (by show 4 + 2 + 5 ≤ 100000000; omega) zn) ?_
  refine EvQ.run ?_
  first | refine EvQ.lift (fun _ zn => X.pcall (e4) X.cq rfl X.al rfl zn) ?_ | refine EvQ.lift (fun _ zn => X.pcallG (e4) rfl X.cq rfl X.al rfl zn) ?_ | refine EvQ.lift (fun _ zn => X.pcallC (e4) rfl X.cq rfl X.al rfl zn) ?_ | refine EvQ.lift (fun _ zn => X.pcallT (e4) (by decide) X.cq rfl X.al rfl zn) ?_ | refine EvQ.lift (fun _ zn => X.call rfl X.al (e4) zn) ?_
  try refine EvQ.run ?_
  first | refine EvQ.lift (fun _ zn => X.pcall (r3) X.cq rfl X.al rfl zn) ?_ | refine EvQ.lift (fun _ zn => X.pcallG (r3) rfl X.cq rfl X.al rfl zn) ?_ | refine EvQ.lift (fun _ zn => X.pcallC (r3) rfl X.cq rfl X.al rfl zn) ?_ | refine EvQ.lift (fun _ zn => X.pcallT (r3) (by decide) X.cq rfl X.al rfl zn) ?_ | refine EvQ.lift (fun _ zn => X.call rfl X.al (r3) zn) ?_
  try refine EvQ.run ?_
  first | refine EvQ.lift (fun _ zn => X.pcall (i1) X.cq rfl X.al rfl zn) ?_ | refine EvQ.lift (fun _ zn => X.pcallG (i1) rfl X.cq rfl X.al rfl zn) ?_ | refine EvQ.lift (fun _ zn => X.pcallC (i1) rfl X.cq rfl X.al rfl zn) ?_ | refine EvQ.lift (fun _ zn => X.pcallT (i1) (by decide) X.cq rfl X.al rfl zn) ?_ | refine EvQ.lift (fun _ zn => X.call rfl X.al (i1) zn) ?_
  try refine EvQ.run ?_
  first | refine EvQ.lift (fun _ zn => X.pcall (o5) X.cq rfl X.al rfl zn) ?_ | refine EvQ.lift (fun _ zn => X.pcallG (o5) rfl X.cq rfl X.al rfl zn) ?_ | refine EvQ.lift (fun _ zn => X.pcallC (o5) rfl X.cq rfl X.al rfl zn) ?_ | refine EvQ.lift (fun _ zn => X.pcallT (o5) (by decide) X.cq rfl X.al rfl zn) ?_ | refine EvQ.lift (fun _ zn => X.call rfl X.al (o5) zn) ?_
  try refine EvQ.run ?_
  refine EvQ.lift (fun _ zn => X_bsv (es := fds [(sStatus, v200), (sCl, c10 ++ am)]) (by kernel_rfl) (fds_clo _) (by show 2 + 2 + 5 ≤ 100000000; omega) zn) ?_
  refine EvQ.run ?_
  first | refine EvQ.lift (fun _ zn => X.pcall (r2) X.cq rfl X.al rfl zn) ?_ | refine EvQ.lift (fun _ zn => X.pcallG (r2) rfl X.cq rfl X.al rfl zn) ?_ | refine EvQ.lift (fun _ zn => X.pcallC (r2) rfl X.cq rfl X.al rfl zn) ?_ | refine EvQ.lift (fun _ zn => X.pcallT (r2) (by decide) X.cq rfl X.al rfl zn) ?_ | refine EvQ.lift (fun _ zn => X.call rfl X.al (r2) zn) ?_
  try refine EvQ.run ?_
  first | refine EvQ.lift (fun _ zn => X.pcall (r1) X.cq rfl X.al rfl zn) ?_ | refine EvQ.lift (fun _ zn => X.pcallG (r1) rfl X.cq rfl X.al rfl zn) ?_ | refine EvQ.lift (fun _ zn => X.pcallC (r1) rfl X.cq rfl X.al rfl zn) ?_ | refine EvQ.lift (fun _ zn => X.pcallT (r1) (by decide) X.cq rfl X.al rfl zn) ?_ | refine EvQ.lift (fun _ zn => X.call rfl X.al (r1) zn) ?_
  try refine EvQ.run ?_
  have hmm : ieq (Int.ofNat m) (Int.ofNat m) = true := by rw [ieqD]; exact decide_eq_true rfl
  have hmn : ieq (Int.ofNat m) (Int.ofNat n) = b4 := by
    rw [h4, ieqD]
    exact decide_eq_decide.2 ⟨fun q => Int.ofNat.inj q, fun q => by rw [q]⟩
  have hbb : (b4 == b4) = true := by cases b4 <;> rfl
  have hneg : ieq (Int.negSucc 0) (Int.negSucc 0) = true := by rw [ieqD]; exact decide_eq_true rfl
  rw [hmn, hbb]
  cases b4 with
  | true =>
    have hq : m = n := of_decide_eq_true h4.symm
    have hn4 := h4' hq
    subst hn4
    refine EvQ.run ?_
    first | refine EvQ.lift (fun _ zn => X.pcall (mruns_ok) X.cq rfl X.al rfl zn) ?_ | refine EvQ.lift (fun _ zn => X.pcallG (mruns_ok) rfl X.cq rfl X.al rfl zn) ?_ | refine EvQ.lift (fun _ zn => X.pcallC (mruns_ok) rfl X.cq rfl X.al rfl zn) ?_ | refine EvQ.lift (fun _ zn => X.pcallT (mruns_ok) (by decide) X.cq rfl X.al rfl zn) ?_ | refine EvQ.lift (fun _ zn => X.call rfl X.al (mruns_ok) zn) ?_
    try refine EvQ.run ?_
    refine EvQ.fin X.rs ?_
    exact ⟨_, rfl⟩
  | false =>
    refine EvQ.run ?_
    first | refine EvQ.lift (fun _ zn => X.pcall (mruns_ok) X.cq rfl X.al rfl zn) ?_ | refine EvQ.lift (fun _ zn => X.pcallG (mruns_ok) rfl X.cq rfl X.al rfl zn) ?_ | refine EvQ.lift (fun _ zn => X.pcallC (mruns_ok) rfl X.cq rfl X.al rfl zn) ?_ | refine EvQ.lift (fun _ zn => X.pcallT (mruns_ok) (by decide) X.cq rfl X.al rfl zn) ?_ | refine EvQ.lift (fun _ zn => X.call rfl X.al (mruns_ok) zn) ?_
    try refine EvQ.run ?_
    refine EvQ.fin X.rs ?_
    exact ⟨_, rfl⟩
end Go.Proofs.YtcbiplmgaiipgaaDoor
