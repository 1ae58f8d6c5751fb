import Derived.Test.YtndodhmfdjcjgaaGreatDoorEvE
import Derived.Test.YtndodhmfdjcjgaaGreatDoorPl
set_option linter.unusedSectionVars false
set_option linter.unusedVariables false
set_option linter.unusedSimpArgs false
-- chapter 25's runs (EvHp EvOwn)
namespace Ev
variable [Glob]
open Go
section
variable {F' : Nat -> Option Ev.Fn} {R : R} {k : Ev.R -> D} {clr : List Nat} {tm : Tm} {lo : Lo} {hp hp' : Hp} {r : List DOp} {us : List Nat} {g : Option (Nat × Bool)} {d : Nat}
theorem X_mrk {x : A} {id i n : Nat} {es : List (List V)} (hx : get tm x = .hs id i n) (hg : hget hp id = some ⟨1, false, es⟩) (hn : Nat.blt 0 n = true)
  (nx : EvD F' (evLs clr r ⟨upd tm d (.hs id i n), lo, hp⟩ k) R) : EvD F' (evLs clr (⟨some d, g, us, .mrk x⟩ :: r) ⟨tm, lo, hp⟩ k) R :=
 X.q1 (i := .mrk x) (b1 := Nat.blt 0 n) (v := .hs id i n) (fun K KP => by
  show iMrk x us clr d ⟨tm, lo, hp⟩ K KP = _
  unfold iMrk
  simp only [hx, hg]
  rfl) hn nx
theorem X_bsv2 {ts : List Ty} {sz : Nat} {es0 es es2 : List (List V)} {ps : List (Nat × A)} (hf : fillE sz (ps.map fun q => (q.1, get tm q.2)) es0 = some es) (hc : closeEs depth ts es Ev.h0 = some (es2, Ev.h0))
  (nx : EvD F' (evLs clr r ⟨upd tm d (.vs sz es2), lo, hp⟩ k) R) : EvD F' (evLs clr (⟨some d, g, us, .bsv ts sz es0 ps⟩ :: r) ⟨tm, lo, hp⟩ k) R := by
 have e : evLs clr (⟨some d, g, us, .bsv ts sz es0 ps⟩ :: r) ⟨tm, lo, hp⟩ k = match fillE sz (ps.map fun q => (q.1, get tm q.2)) es0 with
  | some es => (match closeEs depth ts es Ev.h0 with
   | some (es, _) => forceV (fun v => evLs clr r ⟨upd tm d v, lo, hp⟩ k) (.vs sz es)
   | none => .bad)
  | none => .bad := rfl
 rw [e, hf]
 simp only [hc]
 rw [forceV_eq]
 exact nx
end
end Ev
namespace Go.Proofs.YtndodhmfdjcjgaaGreatDoor
open Go hiding Fn
open Ev tab
def aL : List Int := [0, 0, 0, 4, 0, 0, 0, 0, 0]
def z8 : List Int := [0, 0, 0, 0, 0, 0, 0, 0]
def bL : List Int := [0, 0, 8, 6, 0, 0, 0, 0, 0, 0, 0, 0, 0, 0, 0, 0, 0]
def n1L : List Int := [0, 0, 0, 4, 0, 0, 0, 0, 0, 0, 0, 1, 1, 5, 0, 0, 0, 1, 130]
def prefI : List Int := [80, 82, 73, 32, 42, 32, 72, 84, 84, 80, 47, 50, 46, 48, 13, 10, 13, 10, 83, 77, 13, 10, 13, 10]
theorem m1_eq : prefI ++ n1L = m1L := rfl
theorem n1_len : n1L.length = 19 := rfl
theorem m1_len : m1L.length = 43 := rfl
theorem pref_len : prefI.length = 24 := rfl
theorem pa : putsF [] [(4, 0, 0, [])] = aL := by decide
theorem pb : putsF [] [(6, 0, 0, z8)] = bL := by decide
theorem pc : putsF [] [(4, 0, 0, []), (0, 0, 1, [])] = cL := by decide
theorem p1 : putsF [] [(4, 0, 0, []), (1, 5, 1, [130])] = n1L := by decide
theorem p2 : putsF [] [(4, 0, 0, [])] = m2L := by decide
theorem p3 : putsF [] [(1, 4, 1, [136])] = m3L := by decide
theorem sza : mvsz [(true, aL)] <= 1000000 := by decide
theorem szb : mvsz [(true, bL)] <= 1000000 := by decide
theorem szc : mvsz [(true, cL)] <= 1000000 := by decide
theorem szd : mvsz [(false, m1L), (true, m2L), (true, m3L), (true, d4L)] <= 1000000 := by
 simp only [mvsz, d4_len]
 decide
theorem frd : frsz d4F <= 1000000 := by
 simp only [d4F, frsz, z16_len]
 decide
theorem by_mk {hp : Hp} {n : Nat} {l : List Int} (hl : hp.lim = 0) (hn : l.length = n) (e : bs l = List.replicate n [V.it .u8 0]) (X : Bk) : By (hnew (hnew hp ⟨1, false, List.replicate n [V.it .u8 0]⟩) X) (.hs hp.next 0 n) l := by
 subst hn
 refine .inr (.inr ⟨hp.next, 0, false, l, rfl, by rw [hnew_next, hnew_next]; omega, by rw [hnew_lim, hnew_lim, hl]; exact Nat.zero_le _, ?_, by omega, by simp⟩)
 rw [hget_old (by rw [hnew_next]; omega), hget_new, e]
theorem bs_z8 : bs z8 = List.replicate 8 [V.it .u8 0] := rfl
theorem bs_z16 : bs z16 = List.replicate 16384 [V.it .u8 0] := by unfold bs z16; rw [List.map_replicate]
theorem pd4 : putsF [] d4F = d4L := rfl
theorem chk_a : EvP F 6 c6 [.bo true, .vs 2 [[.bo true, .vs 1 (bs aL)]]] [.it .i64 (-1)] :=
 chk_first true (b := aL) (fs := [(4, 0, 0, [])]) (pre' := []) (rest := []) (ok := true) (by unfold Bytes aL; decide) (by decide) (by decide) (.inr ⟨4, 0, 0, [], rfl, (fun _ h => by cases h), by decide, by decide, ⟨fun _ => ⟨rfl, rfl, rfl, rfl, rfl⟩, fun _ => rfl⟩⟩)
theorem chk_b : EvP F 6 c6 [.bo true, .vs 2 [[.bo true, .vs 1 (bs bL)]]] [.it .i64 0] :=
 chk_first true (b := bL) (fs := [(6, 0, 0, z8)]) (pre' := []) (rest := []) (ok := false) (by unfold Bytes bL; decide) (by decide) (by decide) (.inr ⟨6, 0, 0, z8, rfl, by unfold ByL z8; decide, by decide, by decide, ⟨fun q => (by cases q), fun q => (by cases q.1)⟩⟩)
end Go.Proofs.YtndodhmfdjcjgaaGreatDoor
