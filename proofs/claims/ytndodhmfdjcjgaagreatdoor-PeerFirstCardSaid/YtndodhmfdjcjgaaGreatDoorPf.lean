import Derived.Test.YtndodhmfdjcjgaaGreatDoorEvE
import Derived.Test.YtndodhmfdjcjgaaGreatDoorPb
set_option linter.unusedSectionVars false
set_option linter.unusedVariables false
set_option linter.unusedSimpArgs false
-- chapter 25's last run: what is heard and said ahead of the DATA, by the kernel (EvHp EvOwn)
namespace Go.Proofs.YtndodhmfdjcjgaaGreatDoor
open Go hiding Fn
open Ev tab
def okT : Tr -> Nat -> Nat -> Nat -> Bool
 | .e, _, _, _ => true
 | .n x l r, a, b, n => (match x with | some _ => Nat.blt b n | none => true) && (okT l (2 * a) (a + b) n && okT r (2 * a) (2 * a + b) n)
theorem okT_get : ∀ (t : Tr) (a b n k : Nat) (bk : Bk), okT t a b n = true -> t.get k = some bk -> a * k + b < n
 | .e, _, _, _, _, _, _, h => by cases h
 | .n x l r, a, b, n, k, bk, h, hg => by
  simp only [okT, Bool.and_eq_true] at h
  obtain ⟨h1, h2, h3⟩ := h
  unfold Tr.get at hg
  cases e0 : Nat.beq k 0 with
  | true =>
   have : k = 0 := Nat.eq_of_beq_eq_true e0
   subst this
   rw [e0] at hg
   have hg : x = some bk := hg
   rw [hg] at h1
   have := Nat.le_of_ble_eq_true h1
   omega
  | false =>
   rw [e0] at hg
   have hk : k ≠ 0 := fun e => by subst e; cases e0
   cases e1 : Nat.beq (k % 2) 1 with
   | true =>
    have hm : k % 2 = 1 := Nat.eq_of_beq_eq_true e1
    rw [e1] at hg
    have := okT_get l _ _ _ (k / 2) bk h2 hg
    have : k = 2 * (k / 2) + 1 := by omega
    generalize k / 2 = m at *
    subst this
    have e : a * (2 * m + 1) + b = 2 * a * m + (a + b) := by rw [Nat.mul_add, Nat.mul_comm 2 a, Nat.mul_assoc, Nat.mul_one]; omega
    omega
   | false =>
    have hm : k % 2 ≠ 1 := fun e => by rw [e] at e1; cases e1
    rw [e1] at hg
    have := okT_get r _ _ _ (k / 2 - 1) bk h3 hg
    have : k = 2 * (k / 2 - 1) + 2 := by omega
    generalize k / 2 - 1 = m at *
    subst this
    have e : a * (2 * m + 2) + b = 2 * a * m + (2 * a + b) := by rw [Nat.mul_add, Nat.mul_comm 2 a, Nat.mul_assoc, Nat.mul_comm a 2]; omega
    omega
theorem nil_of {hp : Hp} (h : okT hp.tr 1 0 hp.next = true) : Nil hp := fun j hj => by
 cases e : hget hp j with
 | none => rfl
 | some bk =>
  have := okT_get hp.tr 1 0 hp.next j bk h e
  omega
def crHp : CR -> Hp
 | .ret _ h => h
 | _ => h0
def m1L : List Int := [80, 82, 73, 32, 42, 32, 72, 84, 84, 80, 47, 50, 46, 48, 13, 10, 13, 10, 83, 77, 13, 10, 13, 10, 0, 0, 0, 4, 0, 0, 0, 0, 0, 0, 0, 1, 1, 5, 0, 0, 0, 1, 130]
def m2L : List Int := [0, 0, 0, 4, 0, 0, 0, 0, 0]
def m3L : List Int := [0, 0, 1, 1, 4, 0, 0, 0, 1, 136]
abbrev jrw (ac st : V) (w last : Int) (bg : Bool) : List V := [.bo true, .bo false, ac, st, .it .i64 65535, .it .i64 w, .it .i64 16384, .it .i64 last, .bo bg, .bo false, .it .i64 0, .ns, .pt 2 0 0]
abbrev zer : V := .ag [.it .i64 0, .it .i64 0, .it .i64 0]
def H0 : Hp := ⟨5, 0, (.n (some ⟨13, false, [jrw .ns .ns 65535 0 false]⟩) (.n (some ⟨4, false, [[.ns, stat, (.it .i64 0), (.it .i64 4096)]]⟩) (.n (some ⟨6, false, [rowR 16777215 [] .ns 0 0]⟩) .e .e) .e) (.n (some ⟨4, false, [[(.pt 1 0 0), (.it .i64 4096), (.it .i64 2147483647), (.bo false)]]⟩) (.n (some ⟨6, false, [rowR 16384 pref .ns 0 0]⟩) .e .e) .e))⟩
def H1 : Hp := crHp (callF F 3000 60 false 14 [.pt 4 0 0, .vs 1 (bs m1L)] H0)
def H2 : Hp := crHp (callF F 3000 60 false 15 [.pt 0 0 0, .ag [.it .i64 4, .it .i64 0, .it .i64 0, .ns]] H1)
def H3 : Hp := crHp (callF F 3000 60 false 15 [.pt 0 0 0, .ag [.it .i64 1, .it .i64 5, .it .i64 1, .hs 8 0 1]] H2)
def H4 : Hp := hset H3 0 (some ⟨13, false, [jrw (.hs 12 0 1) (.hs 15 0 1) 65535 1 false]⟩)
def H5 : Hp := crHp (callF F 3000 60 false 13 [.pt 0 0 0, .pt 3 0 0, .vs 1 (bs m2L)] H4)
def H6 : Hp := crHp (callF F 3000 60 false 13 [.pt 0 0 0, .pt 3 0 0, .vs 1 (bs m3L)] H5)
theorem kf1 : EvC F false 14 [.pt 4 0 0, .vs 1 (bs m1L)] H0 (.ret (.tu [.hs 10 0 2, zer]) H1) := EvC.kern 3000 60 fun N M => by kernel_rfl
theorem kf2 : EvC F false 15 [.pt 0 0 0, .ag [.it .i64 4, .it .i64 0, .it .i64 0, .ns]] H1 (.ret (.tu []) H2) := EvC.kern 3000 60 fun N M => by kernel_rfl
theorem kf3 : EvC F false 15 [.pt 0 0 0, .ag [.it .i64 1, .it .i64 5, .it .i64 1, .hs 8 0 1]] H2 (.ret (.tu []) H3) := EvC.kern 3000 60 fun N M => by kernel_rfl
theorem kf4 : EvC F false 13 [.pt 0 0 0, .pt 3 0 0, .vs 1 (bs m2L)] H4 (.ret (.bo true) H5) := EvC.kern 3000 60 fun N M => by kernel_rfl
theorem kf5 : EvC F false 13 [.pt 0 0 0, .pt 3 0 0, .vs 1 (bs m3L)] H5 (.ret (.bo true) H6) := EvC.kern 3000 60 fun N M => by kernel_rfl
abbrev frows : List (List V) := [[.it .i64 4, .it .i64 0, .it .i64 0, .ns], [.it .i64 1, .it .i64 5, .it .i64 1, .hs 8 0 1]]
theorem f1 : hget H1 10 = some ⟨4, false, frows⟩ /\ hget H2 10 = some ⟨4, false, frows⟩ := ⟨by kernel_rfl, by kernel_rfl⟩
theorem f2 : hget H1 0 = some ⟨13, false, [jrw .ns .ns 65535 0 false]⟩ /\ hget H2 0 = some ⟨13, false, [jrw (.hs 12 0 1) .ns 65535 0 false]⟩ /\ hget H3 0 = some ⟨13, false, [jrw (.hs 12 0 1) (.hs 15 0 1) 65535 1 false]⟩ /\ H1.lim = 0 /\ H2.lim = 0 /\ H3.lim = 0 := ⟨by kernel_rfl, by kernel_rfl, by kernel_rfl, by kernel_rfl, by kernel_rfl, by kernel_rfl⟩
theorem f6 : hget H6 0 = some ⟨13, false, [jrw (.hs 12 0 1) (.hs 15 0 1) 65535 1 true]⟩ /\ hget H6 15 = some ⟨1, false, [[.pt 13 0 0]]⟩ /\ hget H6 13 = some ⟨3, false, [[.it .i64 1, .it .i64 3, .it .i64 65535]]⟩ /\ hget H6 3 = some ⟨6, false, [rowR 16777215 [] (.hs 19 10 0) 0 0]⟩ /\ hget H6 19 = some ⟨1, false, bs m3L⟩ /\ H6.lim = 0 /\ H6.next = 28 := ⟨by kernel_rfl, by kernel_rfl, by kernel_rfl, by kernel_rfl, by kernel_rfl, by kernel_rfl, by kernel_rfl⟩
theorem n6 : Nil H6 := nil_of (by kernel_rfl)
end Go.Proofs.YtndodhmfdjcjgaaGreatDoor
