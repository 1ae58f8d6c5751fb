import Derived.Test.YtndodhmfdjcjgaaGreatDoorEvE
import Derived.Test.YtndodhmfdjcjgaaGreatDoorPh
import Derived.Test.YtndodhmfdjcjgaaGreatDoorPd
set_option linter.unusedSectionVars false
set_option linter.unusedVariables false
set_option linter.unusedSimpArgs false
-- chapter 25's last run (EvHp EvOwn)
namespace Go.Proofs.YtndodhmfdjcjgaaGreatDoor
open Go hiding Fn
open Ev tab
def z16 : List Int := List.replicate 16384 0
theorem z16_len : z16.length = 16384 := List.length_replicate
def d4F : List Frm := [(0, 0, 1, z16), (0, 0, 1, z16), (0, 0, 1, z16), (0, 0, 1, z16), (0, 0, 1, [])]
def putsF (b : List Int) : List Frm -> List Int
 | [] => b
 | (ty, fl, s, p) :: r => putsF (putL b ty fl s p) r
theorem putL_right {b p : List Int} {ty fl s : Int} (h : rightB ty fl s p.length = true) : putL b ty fl s p = b ++ (h9 ty fl s p.length ++ p) := by
 unfold putL; rw [h]; simp
/-- a frame ahead of others -/
theorem feed_cons (most ty fl s : Int) (p r : List Int) (n : Nat) (h : rightB ty fl s p.length = true) (hm : (p.length : Int) <= most) :
  feedM most (n + 1) (h9 ty fl s p.length ++ (p ++ r)) = ((ty, fl, s, p) :: (feedM most n r).1, (feedM most n r).2.1, (feedM most n r).2.2) := by
 simp only [rightB, decide_eq_true_eq] at h
 have hn : nOf (h9 ty fl s p.length ++ (p ++ r)) = p.length := by
  show (p.length : Int) / 65536 % 256 * 65536 + (p.length : Int) / 256 % 256 * 256 + (p.length : Int) % 256 = p.length
  omega
 have hso : sOf (h9 ty fl s p.length ++ (p ++ r)) = s := by
  show s / 16777216 % 256 % 128 * 16777216 + s / 65536 % 256 * 65536 + s / 256 % 256 * 256 + s % 256 = s
  omega
 have hl : (h9 ty fl s p.length ++ (p ++ r)).length = 9 + (p.length + r.length) := by simp [h9]; omega
 conv => lhs; unfold feedM
 rw [hl, hn, hso, if_neg (by omega), if_neg (by omega), if_neg (by omega)]
 have e0 : (p.length : Int).toNat = p.length := by omega
 have e1 : (h9 ty fl s p.length ++ (p ++ r)).drop (9 + (p.length : Int).toNat) = r := by
  rw [e0, <- List.drop_drop]
  show List.drop p.length (p ++ r) = r
  exact List.drop_left
 have e2 : ((h9 ty fl s p.length ++ (p ++ r)).drop 9).take (p.length : Int).toNat = p := by
  rw [e0]
  show List.take p.length (p ++ r) = p
  exact List.take_left
 rw [e1, e2]
 have t1 : (h9 ty fl s p.length ++ (p ++ r))[3]?.getD 0 = ty := by show ty % 256 = ty; omega
 have t2 : (h9 ty fl s p.length ++ (p ++ r))[4]?.getD 0 = fl := by show fl % 256 = fl; omega
 rw [t1, t2]
theorem feed_end (most : Int) (n : Nat) : feedM most (n + 1) [] = ([], [], false) := by unfold feedM; rfl
def d4L : List Int := putsF [] d4F
theorem d4_eq : d4L = h9 0 0 1 z16.length ++ (z16 ++ (h9 0 0 1 z16.length ++ (z16 ++ (h9 0 0 1 z16.length ++ (z16 ++ (h9 0 0 1 z16.length ++ (z16 ++ (h9 0 0 1 ([] : List Int).length ++ ([] ++ []))))))))) := by
 have r1 : rightB 0 0 1 z16.length = true := by rw [z16_len]; rfl
 have r2 : rightB 0 0 1 ([] : List Int).length = true := rfl
 unfold d4L d4F
 simp only [putsF]
 rw [putL_right r1, putL_right r1, putL_right r1, putL_right r1, putL_right r2]
 simp only [List.nil_append, List.append_assoc, List.append_nil]
theorem h9_len (a b c : Int) (n : Nat) : (h9 a b c n).length = 9 := rfl
theorem d4_len : d4L.length = 65581 := by
 rw [d4_eq]
 simp only [List.length_append, h9_len, z16_len, List.length_nil, Nat.reduceAdd]
theorem d4_feed : feedA 16777215 d4L = (d4F, [], false) := by
 have r1 : rightB 0 0 1 z16.length = true := by rw [z16_len]; rfl
 have r2 : rightB 0 0 1 ([] : List Int).length = true := rfl
 have m1 : (z16.length : Int) <= 16777215 := by rw [z16_len]; decide
 unfold feedA
 rw [d4_len, d4_eq]
 rw [feed_cons _ _ _ _ _ _ 65581 r1 m1, feed_cons _ _ _ _ _ _ 65580 r1 m1, feed_cons _ _ _ _ _ _ 65579 r1 m1, feed_cons _ _ _ _ _ _ 65578 r1 m1, feed_cons _ _ _ _ _ _ 65577 r2 (by decide), feed_end _ 65576]
 rfl
theorem z16_bytes : Bytes z16 := fun x hx => by
 have := List.eq_of_mem_replicate hx
 subst this; exact ⟨Int.le_refl _, by decide⟩
theorem d4_bytes : Bytes d4L := by
 rw [d4_eq]
 have a := h9_bytes 0 0 1 z16.length
 have b := h9_bytes 0 0 1 ([] : List Int).length
 have c := z16_bytes
 have d : Bytes ([] ++ [] : List Int) := fun x hx => by cases hx
 exact a.append (c.append (a.append (c.append (a.append (c.append (a.append (c.append (b.append d))))))))
end Go.Proofs.YtndodhmfdjcjgaaGreatDoor
