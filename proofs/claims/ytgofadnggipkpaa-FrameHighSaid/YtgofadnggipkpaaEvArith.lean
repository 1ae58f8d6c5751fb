import Derived.Test.YtgofadnggipkpaaEvIns
import Derived.Laws.Strings
import Derived.Laws.BitsLemmas
import Derived.Laws.Strings2
namespace Ev
open Go

theorem bltT {a b : Nat} (h : a < b) : Nat.blt a b = true := by simpa [Nat.blt_eq] using h
theorem bltL {a b : Nat} (h : Nat.blt a b = true) : a < b := by simpa [Nat.blt_eq] using h
theorem bltG {a b : Nat} (h : Nat.blt a b = false) : b ≤ a := by
  rcases Nat.lt_or_ge a b with q | q
  · rw [bltT q] at h; cases h
  · exact q

theorem wrS_eq (half : Nat) (h : 0 < half) (n : Int) : wrS half (2 * half) n = if n % (2 * half : Nat) ≥ (half : Int) then n % (2 * half : Nat) - (2 * half : Nat) else n % (2 * half : Nat) := by
  cases n with
  | ofNat a =>
    have hm := Nat.mod_lt a (by omega : 0 < 2 * half)
    have e : (Int.ofNat a) % ((2 * half : Nat) : Int) = ((a % (2 * half) : Nat) : Int) := rfl
    rw [e]
    simp only [wrS]
    cases hb : Nat.blt (a % (2 * half)) half with
    | true =>
      have hb := bltL hb
      rw [if_neg (by omega)]; rfl
    | false =>
      have hb' : ¬ a % (2 * half) < half := Nat.not_lt.2 (bltG hb)
      rw [if_pos (by omega)]
      simp only [cond_false, Int.negSucc_eq]; omega
  | negSucc a =>
    have hm := Nat.mod_lt a (by omega : 0 < 2 * half)
    have e : (Int.negSucc a) % ((2 * half : Nat) : Int) = ((2 * half - 1 - a % (2 * half) : Nat) : Int) := by
      rw [Int.negSucc_emod _ (by omega)]
      have : ((a : Int) % ((2 * half : Nat) : Int)) = ((a % (2 * half) : Nat) : Int) := rfl
      rw [this]; omega
    rw [e]
    simp only [wrS]
    cases hb : Nat.blt (a % (2 * half)) half with
    | true =>
      have hb := bltL hb
      rw [if_pos (by omega)]
      simp only [cond_true, Int.negSucc_eq]; omega
    | false =>
      have hb' : ¬ a % (2 * half) < half := Nat.not_lt.2 (bltG hb)
      rw [if_neg (by omega)]; rfl

theorem wrU_eq (full : Nat) (h : 0 < full) (n : Int) : wrU full n = n % (full : Int) := by
  cases n with
  | ofNat a => rfl
  | negSucc a =>
    have hm := Nat.mod_lt a h
    rw [Int.negSucc_emod _ (by omega)]
    have : ((a : Int) % ((full : Nat) : Int)) = ((a % full : Nat) : Int) := rfl
    rw [this]
    simp only [wrU, Int.ofNat_eq_natCast]; omega

theorem wr_eq (k : IntKind) (n : Int) : wr k n = k.wrap n := by
  cases k with
  | i8 => rw [show wr .i8 n = wrS 128 (2 * 128) n from rfl, wrS_eq 128 (by omega)]; simp [IntKind.wrap, IntKind.bits, IntKind.signed]
  | i16 => rw [show wr .i16 n = wrS 32768 (2 * 32768) n from rfl, wrS_eq 32768 (by omega)]; simp [IntKind.wrap, IntKind.bits, IntKind.signed]
  | i32 => rw [show wr .i32 n = wrS 2147483648 (2 * 2147483648) n from rfl, wrS_eq 2147483648 (by omega)]; simp [IntKind.wrap, IntKind.bits, IntKind.signed]
  | i64 => rw [show wr .i64 n = wrS 9223372036854775808 (2 * 9223372036854775808) n from rfl, wrS_eq 9223372036854775808 (by omega)]; simp [IntKind.wrap, IntKind.bits, IntKind.signed]
  | u8 => rw [show wr .u8 n = wrU 256 n from rfl, wrU_eq 256 (by omega)]; simp [IntKind.wrap, IntKind.bits, IntKind.signed]
  | u16 => rw [show wr .u16 n = wrU 65536 n from rfl, wrU_eq 65536 (by omega)]; simp [IntKind.wrap, IntKind.bits, IntKind.signed]
  | u32 => rw [show wr .u32 n = wrU 4294967296 n from rfl, wrU_eq 4294967296 (by omega)]; simp [IntKind.wrap, IntKind.bits, IntKind.signed]
  | u64 => rw [show wr .u64 n = wrU 18446744073709551616 n from rfl, wrU_eq 18446744073709551616 (by omega)]; simp [IntKind.wrap, IntKind.bits, IntKind.signed]

theorem ilt_eq (a b : Int) : ilt a b = decide (a < b) := by
  cases a <;> cases b <;> simp only [ilt]
  · rename_i a b
    cases hb : Nat.blt a b <;> simp [Nat.blt_eq, Bool.eq_false_iff] at hb <;> simp <;> omega
  · simp; omega
  · simp; omega
  · rename_i a b
    cases hb : Nat.blt b a <;> simp [Nat.blt_eq, Bool.eq_false_iff] at hb <;> simp <;> omega

theorem ieq_eq (a b : Int) : ieq a b = (a == b) := by
  cases a <;> cases b <;> simp only [ieq]
  · rename_i a b
    cases hb : Nat.beq a b
    · have := Nat.ne_of_beq_eq_false hb; simp; omega
    · have := Nat.eq_of_beq_eq_true hb; simp [this]
  · symm; simp
  · symm; simp
  · rename_i a b
    cases hb : Nat.beq a b
    · have := Nat.ne_of_beq_eq_false hb; simp; omega
    · have := Nat.eq_of_beq_eq_true hb; simp [this]

theorem keq_eq {k k' : IntKind} (h : keq k k' = true) : k = k' := by cases k <;> cases k' <;> first | rfl | simp [keq] at h

theorem kbits_eq (k : IntKind) : kbits k = k.bits := by cases k <;> rfl

theorem toU_eq (n : Nat) (x : Int) : toU (2 ^ n) x = (BitVec.ofInt n x).toNat := by
  rw [BitVec.toNat_ofInt]
  cases x with
  | ofNat a => simp only [toU, Int.ofNat_eq_natCast]; norm_cast
  | negSucc a =>
    have hp : 0 < 2 ^ n := Nat.two_pow_pos n
    have hm := Nat.mod_lt a hp
    rw [Int.negSucc_emod _ (by omega)]
    have : ((a : Int) % ((2 ^ n : Nat) : Int)) = ((a % 2 ^ n : Nat) : Int) := rfl
    rw [this]
    simp only [toU]
    omega

theorem beqL_eq : ∀ (a b : List Nat), beqL a b = (a == b)
  | [], [] => rfl
  | [], _ :: _ => rfl
  | _ :: _, [] => rfl
  | x :: a, y :: b => by
    simp only [beqL, List.cons_beq_cons, beqL_eq a b]
    cases h : Nat.beq x y
    · have := Nat.ne_of_beq_eq_false h; simp [this]
    · have := Nat.eq_of_beq_eq_true h; simp [this]

theorem beqL_bytes (a b : List UInt8) : beqL (a.map UInt8.toNat) (b.map UInt8.toNat) = (a == b) := by
  rw [beqL_eq]
  induction a generalizing b with
  | nil => cases b <;> rfl
  | cons x a ih =>
    cases b with
    | nil => rfl
    | cons y b =>
      simp only [List.map_cons, List.cons_beq_cons, ih]
      have hb : (x.toNat == y.toNat) = (x == y) := by
        by_cases h : x = y
        · subst h; simp
        · have h' : x.toNat ≠ y.toNat := fun e => h (UInt8.toNat_inj.1 e)
          rw [beq_false_of_ne h, beq_false_of_ne h']
      rw [hb]

theorem strLt_bytes : ∀ (a b : List UInt8), strLt (a.map UInt8.toNat) (b.map UInt8.toNat) = Op.bytesLess a b
  | _, [] => by simp [strLt, Op.bytesLess]
  | [], _ :: _ => by simp [strLt, Op.bytesLess]
  | x :: a, y :: b => by
    simp only [List.map_cons, strLt, Op.bytesLess, strLt_bytes a b]
    by_cases h : x.toNat < y.toNat
    · have h1 : Nat.blt x.toNat y.toNat = true := by simpa [Nat.blt_eq] using h
      have h2 : x < y := UInt8.lt_iff_toNat_lt.2 h
      simp [h1, h2]
    · have h1 : Nat.blt x.toNat y.toNat = false := by
        cases q : Nat.blt x.toNat y.toNat
        · rfl
        · exact absurd (by simpa [Nat.blt_eq] using q) h
      have h2 : ¬ x < y := fun q => h (UInt8.lt_iff_toNat_lt.1 q)
      simp only [h1, cond_false, h2, decide_false, Bool.false_or]
      by_cases he : x = y
      · subst he; simp
      · have : Nat.beq x.toNat y.toNat = false := beqF' (fun e => he (UInt8.toNat_inj.1 e))
        simp [this, he]
where
  beqF' {a b : Nat} (h : a ≠ b) : Nat.beq a b = false := beqF h
end Ev
