import Derived.Test.YtpncefcicfhibaaGreatDoorEvE
import Derived.Test.YtpncefcicfhibaaGreatDoorBk1
import Derived.Test.YtpncefcicfhibaaGreatDoorCw0
set_option linter.unusedVariables false
set_option linter.unusedSimpArgs false
set_option linter.unusedSectionVars false
-- ConnWindows: what is told, and the heap behind the head (EvHp EvOwn)
namespace Ev
variable [Glob]
open Go
theorem EvU.ofP2 {F : Nat → Option Ev.Fn} {f : Nat} {fn : Ev.Fn} {xs : List V} {z1 z2 : V} {a b : PT} (h : EvP F f fn xs [z1, z2]) (hr : fn.rs = [a, b]) (hc : ∀ hp, ClP fn.ps xs hp xs hp) : EvU F f xs (.tu [z1, z2]) := by
  obtain ⟨h1, h2, h3, v, h, h', ⟨N, h4⟩, h5⟩ := h
  refine ⟨N + 1, fun L n own hp hL hn => ?_⟩
  cases n with
  | zero => omega
  | succ n =>
    simp only [callF, h1, h2, runP, (hc hp).close, runF, h3, cond_true]
    rw [h4 L n (by omega) (by omega)]
    show back own fn hp (.ret v h) = _
    have h6 := h5.close
    unfold back
    rw [hr] at h6 ⊢
    cases own <;> simp only [h6, tuple]
end Ev
namespace Go.Proofs.YtpncefcicfhibaaGreatDoor.win
open Go hiding Fn
open Ev tab back
def okT : Tr → Nat → Nat → Nat → Bool
  | .e, _, _, _ => true
  | .n x l r, a, b, n => (match x with | some _ => Nat.blt b n | none => true) && (okT l (2 * a) (a + b) n && okT r (2 * a) (2 * a + b) n)
theorem okT_get : ∀ (t : Tr) (a b n k : Nat) (bk : Bk), okT t a b n = true → t.get k = some bk → a * k + b < n
  | .e, _, _, _, _, _, _, h => by cases h
  | .n x l r, a, b, n, k, bk, h, hg => by
    simp only [okT, Bool.and_eq_true] at h
    obtain ⟨h1, h2, h3⟩ := h
    unfold Tr.get at hg
    cases e0 : Nat.beq k 0 with
    | true =>
      have : k = 0 := Nat.eq_of_beq_eq_true e0
      subst this
      rw [e0] at hg
      have hg : x = some bk := hg
      rw [hg] at h1
      have := Nat.le_of_ble_eq_true h1
      omega
    | false =>
      rw [e0] at hg
      have hk : k ≠ 0 := fun e => by subst e; cases e0
      cases e1 : Nat.beq (k % 2) 1 with
      | true =>
        have hm : k % 2 = 1 := Nat.eq_of_beq_eq_true e1
        rw [e1] at hg
        have := okT_get l _ _ _ (k / 2) bk h2 hg
        have : k = 2 * (k / 2) + 1 := by omega
        generalize k / 2 = m at *
        subst this
        have e : a * (2 * m + 1) + b = 2 * a * m + (a + b) := by rw [Nat.mul_add, Nat.mul_comm 2 a, Nat.mul_assoc, Nat.mul_one]; omega
        omega
      | false =>
        have hm : k % 2 ≠ 1 := fun e => by rw [e] at e1; cases e1
        rw [e1] at hg
        have := okT_get r _ _ _ (k / 2 - 1) bk h3 hg
        have : k = 2 * (k / 2 - 1) + 2 := by omega
        generalize k / 2 - 1 = m at *
        subst this
        have e : a * (2 * m + 2) + b = 2 * a * m + (2 * a + b) := by rw [Nat.mul_add, Nat.mul_comm 2 a, Nat.mul_assoc, Nat.mul_comm a 2]; omega
        omega
theorem nil_of {hp : Hp} (h : okT hp.tr 1 0 hp.next = true) : Nil hp := fun j hj => by
  cases e : hget hp j with
  | none => rfl
  | some bk =>
    have := okT_get hp.tr 1 0 hp.next j bk h e
    omega

/-- the two bytes of a number -/
def hiB (k : Nat) : Int := wr .u8 ((Int.ofNat k).fdiv (Int.ofNat 256))
def loB (k : Nat) : Int := wr .u8 (Int.ofNat k)
def bareE (a b c d : Int) : Int := wr .i64 (.ofNat (Nat.land (toU (2 ^ kbits .i64) (numE a b c d)) (toU (2 ^ kbits .i64) 2147483647)))
theorem nums_all : (List.range 5001).all (fun k => ieq (numE 0 0 (hiB k) (loB k)) (Int.ofNat k) && ieq (bareE 0 0 (hiB k) (loB k)) (Int.ofNat k)) = true := by kernel_rfl
theorem nums {k : Nat} (h : k ≤ 5000) : numE 0 0 (hiB k) (loB k) = Int.ofNat k ∧ bareE 0 0 (hiB k) (loB k) = Int.ofNat k := by
  have := List.all_eq_true.1 nums_all k (List.mem_range.2 (by omega))
  rw [Bool.and_eq_true] at this
  exact ⟨by have := this.1; rw [ieqD] at this; exact of_decide_eq_true this, by have := this.2; rw [ieqD] at this; exact of_decide_eq_true this⟩
def mmE (e : Int) : Int := bif ilt 2147483647 (bif ilt e 0 then 0 else e) then 2147483647 else (bif ilt e 0 then 0 else e)
theorem pwE_mm (x y : Int) (z : List (List V)) : pwE x y z = mmE (numE 0 0 x y) := by kernel_rfl
theorem pwE_of {n : Nat} (h : n ≤ 5000) (z : List (List V)) : pwE (hiB n) (loB n) z = Int.ofNat n := by
  rw [pwE_mm, (nums h).1]
  have e1 : ilt (Int.ofNat n) 0 = false := by rw [ilt_eq]; exact decide_eq_false (by simp only [Int.ofNat_eq_natCast]; omega)
  have e2 : ilt 2147483647 (Int.ofNat n) = false := by rw [ilt_eq]; exact decide_eq_false (by simp only [Int.ofNat_eq_natCast]; omega)
  unfold mmE
  rw [e1, cond_false, e2, cond_false]
abbrev cW (pw out : Int) (q : V) : CnV := ⟨pw, q, out, 65535, .hs 31 0 1, 1, .ns, .ns⟩
abbrev rowW (n : Int) : List V := [.it .i64 1, .it .i64 3, .it .i64 n, .it .i64 65535, .bo true, .bo true]
theorem rowD (x y : Int) (z : List (List V)) : hget (hD x y z) 0 = some ⟨26, false, [rowC (cW (pwE x y z) 65535 (.hs 35 0 19))]⟩ := by kernel_rfl
theorem readD (x y : Int) (z : List (List V)) : hget (hD x y z) 1 = some ⟨6, false, [[.it .i64 16384, .st [], .hs 20 10 0, .it .i64 0, .it .i64 0, .it .i64 0]]⟩ := by kernel_rfl
theorem restD (x y : Int) (z : List (List V)) : hget (hD x y z) 20 = some ⟨1, false, bs [0, 0, 1, 1, 5, 0, 0, 0, 1, 130]⟩ := by kernel_rfl
theorem queueD (x y : Int) (z : List (List V)) : hget (hD x y z) 35 = some ⟨1, false, bs [0, 0, 0, 4, 1, 0, 0, 0, 0, 0, 0, 1, 1, 4, 0, 0, 0, 1, 136]⟩ := by kernel_rfl
theorem wayD (x y : Int) (z : List (List V)) : hget (hD x y z) 29 = some ⟨6, false, [rowW (pwE x y z)]⟩ := by kernel_rfl
theorem waysD (x y : Int) (z : List (List V)) : hget (hD x y z) 31 = some ⟨1, false, [[.pt 29 0 0]]⟩ := by kernel_rfl
theorem limD (x y : Int) (z : List (List V)) : (hD x y z).lim = 0 := by kernel_rfl
theorem nextD (x y : Int) (z : List (List V)) : (hD x y z).next = 36 := by kernel_rfl
theorem nilD (x y : Int) (z : List (List V)) : Nil (hD x y z) := nil_of (by kernel_rfl)
attribute [local irreducible] EvP EvD EvL EvC evGds evLs C.run sK bK gK pK fK lpB stepD numE
set_option maxHeartbeats 8000000 in
theorem swithin_ok (n : Int) (h1 : 0 ≤ n) (h2 : n ≤ 2147483647) : EvP F 133 c133 [.it .i64 n, .it .i64 0, .it .i64 2147483647] [.bo true] := by
  have c1 : ilt n 0 = false := by rw [ilt_eq]; exact decide_eq_false (by omega)
  have c2 : ilt 2147483647 n = false := by rw [ilt_eq]; exact decide_eq_false (by omega)
  refine EvP.ofQ d133 rfl rfl rfl ?_
  repeat (first | refine EvQ.run ?_ | refine EvQ.fin X.rs ?_ | refine EvQ.fin1 (fun _ => rfl) rfl ?_)
  exact PQ.bo (by show (!ilt 2147483647 n) = true; rw [c2]; rfl)
set_option maxHeartbeats 8000000 in
theorem value_ok (n : Int) (h1 : 0 ≤ n) (h2 : n ≤ 2147483647) : EvP F 115 c115 [.ag [.it .i64 4, .it .i64 n]] [.it .i64 0] := by
  have w := swithin_ok n h1 h2
  refine EvP.ofQ d115 rfl rfl rfl ?_
  repeat (first | refine EvQ.run ?_ | refine EvQ.lift (fun _ zn => X.pcall (w) X.cq rfl X.al rfl zn) ?_ | refine EvQ.lift (fun _ zn => X.pcallG (w) rfl X.cq rfl X.al rfl zn) ?_ | refine EvQ.lift (fun _ zn => X.pcallC (w) rfl X.cq rfl X.al rfl zn) ?_ | refine EvQ.lift (fun _ zn => X.pcallT (w) (by decide) X.cq rfl X.al rfl zn) ?_ | refine EvQ.lift (fun _ zn => X.call rfl X.al (w) zn) ?_ | refine EvQ.fin X.rs ?_ | refine EvQ.fin1 (fun _ => rfl) rfl ?_)
  exact PQ.it rfl
set_option maxHeartbeats 8000000 in
theorem new_ok (n : Int) (h1 : 0 ≤ n) (h2 : n ≤ 2147483647) : EvP F 37 c37 [.it .i64 n] [.ag [.it .i64 n], .it .i64 0] := by
  have w := wwithin_ok n h1 h2
  refine EvP.ofQ d37 rfl rfl rfl ?_
  repeat (first | refine EvQ.run ?_ | refine EvQ.lift (fun _ zn => X.pcall (w) X.cq rfl X.al rfl zn) ?_ | refine EvQ.lift (fun _ zn => X.pcallG (w) rfl X.cq rfl X.al rfl zn) ?_ | refine EvQ.lift (fun _ zn => X.pcallC (w) rfl X.cq rfl X.al rfl zn) ?_ | refine EvQ.lift (fun _ zn => X.pcallT (w) (by decide) X.cq rfl X.al rfl zn) ?_ | refine EvQ.lift (fun _ zn => X.call rfl X.al (w) zn) ?_ | refine EvQ.fin X.rs ?_ | refine EvQ.fin1 (fun _ => rfl) rfl ?_)
  exact PQ.of (.gs (.cons (clo_it _ _) .nil) (.s (clo_it _ _) (.nil _)))
theorem value_u (n : Int) (h1 : 0 ≤ n) (h2 : n ≤ 2147483647) : EvU F 115 [.ag [.it .i64 4, .it .i64 n]] (.it .i64 0) :=
  .ofP (value_ok n h1 h2) rfl fun hp => .gs (.cons (clo_it _ _) (.cons (clo_it _ _) .nil)) (.nil _)
theorem new_u (n : Int) (h1 : 0 ≤ n) (h2 : n ≤ 2147483647) : EvU F 37 [.it .i64 n] (.tu [.ag [.it .i64 n], .it .i64 0]) :=
  .ofP2 (new_ok n h1 h2) rfl fun hp => .s (clo_it _ _) (.nil _)
theorem feedS {n : Nat} (h : n ≤ 5000) (z : List (List V)) : EvC F false 17 [.pt 0 0 0, .vs 1 (bs (setL (hiB n) (loB n)))] (hA2 z) (.ret .ns (hB (hiB n) (loB n) z)) := by
  have v := value_u (Int.ofNat n) (by simp only [Int.ofNat_eq_natCast]; omega) (by simp only [Int.ofNat_eq_natCast]; omega)
  rw [← (nums h).1] at v
  refine EvC.told (orc := orc) 3000 60 (oS_eq _ _ _) (.cons (fun g hg => ?_) (.cons (fun g hg => ?_) .nil)) (by intro e; cases e)
  all_goals (cases hg; exact v)
theorem feedH {n : Nat} (h : n ≤ 5000) (z : List (List V)) : EvC F false 17 [.pt 0 0 0, .vs 1 (bs headL)] (hB (hiB n) (loB n) z) (.ret (vC (hiB n) (loB n) z) (hC (hiB n) (loB n) z)) := by
  have v := new_u (Int.ofNat n) (by simp only [Int.ofNat_eq_natCast]; omega) (by simp only [Int.ofNat_eq_natCast]; omega)
  rw [← pwE_of h z] at v
  refine EvC.told (orc := orc) 3000 60 (oH_eq _ _ _) (.cons (fun g hg => ?_) (.cons (fun g hg => ?_) .nil)) (by intro e; cases e)
  · cases hg; exact new_u 65535 (by decide) (by decide)
  · cases hg; exact v
theorem head_ok (x y : Int) (z : List (List V)) : EvC F false 18 [.pt 0 0 0, .it .i64 1, rowsV, .bo false] (hC x y z) (.ret (.bo true) (hD x y z)) :=
  EvC.told (orc := orc) 3000 60 (oD_eq _ _ _) .nil (by intro e; cases e)
theorem vC_lp (x y : Int) (z : List (List V)) : isLp (vC x y z) = false := by kernel_rfl
end Go.Proofs.YtpncefcicfhibaaGreatDoor.win
