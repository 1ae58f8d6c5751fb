import Derived.Test.YtndodhmfdjcjgaaGreatDoorEvE
import Derived.Test.YtndodhmfdjcjgaaGreatDoorRdD
set_option linter.unusedSectionVars false
set_option linter.unusedVariables false
set_option linter.unusedSimpArgs false
-- (EvHp)
namespace Go.Proofs.YtndodhmfdjcjgaaGreatDoor
open Go hiding Fn
open Ev tab
attribute [local irreducible] EvP EvD EvL EvC evGds evLs C.run sK bK gK pK fK lpB stepD
/-- what Feed tells -/
def feedA (most : Int) (l : List Int) : List Frm × List Int × Bool := feedM most (l.length + 1) l
theorem apv2_id {hp : Hp} {l m : List Int} : ∀ id, idOf (apv2 hp l m) = some id -> hp.next <= id := by
 intro id e
 unfold apv2 at e
 split at e
 ·unfold apv at e
  split at e <;> cases e
  exact Nat.le_refl _
 ·cases e; omega
/-- one frame, whole, its stream's highest bit whatever it is -/
theorem feed_one (most ty fl s x : Int) (p : List Int) (hx : x % 128 = s / 16777216) (hs : 0 <= s /\ s <= 2147483647) (hp : p.length <= 16777215) :
  feedA most ([(p.length : Int) / 65536 % 256, (p.length : Int) / 256 % 256, (p.length : Int) % 256, ty, fl, x, s / 65536 % 256, s / 256 % 256, s % 256] ++ p) =
   if most < p.length then ([], [], true) else ([(ty, fl, s, p)], [], false) := by
 have hn : nOf ([(p.length : Int) / 65536 % 256, (p.length : Int) / 256 % 256, (p.length : Int) % 256, ty, fl, x, s / 65536 % 256, s / 256 % 256, s % 256] ++ p) = p.length := by
  show (p.length : Int) / 65536 % 256 * 65536 + (p.length : Int) / 256 % 256 * 256 + (p.length : Int) % 256 = p.length
  omega
 have hso : sOf ([(p.length : Int) / 65536 % 256, (p.length : Int) / 256 % 256, (p.length : Int) % 256, ty, fl, x, s / 65536 % 256, s / 256 % 256, s % 256] ++ p) = s := by
  show x % 128 * 16777216 + s / 65536 % 256 * 65536 + s / 256 % 256 * 256 + s % 256 = s
  rw [hx]; omega
 have hl : ([(p.length : Int) / 65536 % 256, (p.length : Int) / 256 % 256, (p.length : Int) % 256, ty, fl, x, s / 65536 % 256, s / 256 % 256, s % 256] ++ p).length = p.length + 9 := by simp
 unfold feedA
 rw [hl]
 unfold feedM
 rw [hl, hn, hso]
 rw [if_neg (by omega)]
 by_cases hm : most < p.length
 ·rw [if_pos hm, if_pos hm]
 ·rw [if_neg hm, if_neg hm, if_neg (by omega)]
  have e1 : (([(p.length : Int) / 65536 % 256, (p.length : Int) / 256 % 256, (p.length : Int) % 256, ty, fl, x, s / 65536 % 256, s / 256 % 256, s % 256] ++ p).drop (9 + (p.length : Int).toNat)) = [] := by
   apply List.drop_eq_nil_of_le; rw [hl]; omega
  have e2 : (([(p.length : Int) / 65536 % 256, (p.length : Int) / 256 % 256, (p.length : Int) % 256, ty, fl, x, s / 65536 % 256, s / 256 % 256, s % 256] ++ p).drop 9).take (p.length : Int).toNat = p := by
   show p.take (p.length : Int).toNat = p
   apply List.take_of_length_le; omega
  rw [e1, e2]
  have e3 : feedM most (p.length + 9) [] = ([], [], false) := by
   show feedM most ((p.length + 8) + 1) [] = _
   unfold feedM; rfl
  rw [e3]
  rfl
theorem feed_put (most ty fl s : Int) (p : List Int) (hr : rightB ty fl s p.length = true) : feedA most (h9 ty fl s p.length ++ p) = if most < p.length then ([], [], true) else ([(ty, fl, s, p)], [], false) := by
 simp only [rightB, decide_eq_true_eq] at hr
 have e1 : ty % 256 = ty := by omega
 have e2 : fl % 256 = fl := by omega
 have := feed_one most ty fl s (s / 16777216 % 256) p (by omega) (by omega) (by omega)
 unfold h9
 rw [e1, e2]
 exact this
theorem h9_bytes (ty fl s : Int) (n : Nat) : Bytes (h9 ty fl s n) := by
 intro x hx
 simp only [h9, List.mem_cons, List.not_mem_nil, or_false] at hx
 rcases hx with rfl | rfl | rfl | rfl | rfl | rfl | rfl | rfl | rfl <;> omega
end Go.Proofs.YtndodhmfdjcjgaaGreatDoor
