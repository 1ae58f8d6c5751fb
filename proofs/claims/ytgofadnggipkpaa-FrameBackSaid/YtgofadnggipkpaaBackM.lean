import Derived.Test.YtgofadnggipkpaaEvE
import Derived.Test.YtgofadnggipkpaaFeedP
import Derived.Test.YtgofadnggipkpaaEvE
set_option linter.unusedVariables false
set_option linter.unusedSimpArgs false
-- FrameBack: the plain law
namespace Go.Proofs.Ytgofadnggipkpaa
open Go hiding Fn
open Ev tab

/-- a frame as it is written; is it right? -/
def enc (f : Frm) : List Int := h9 f.1 f.2.1 f.2.2.1 f.2.2.2.length ++ f.2.2.2
def okF (f : Frm) : Bool := rightB f.1 f.2.1 f.2.2.1 f.2.2.2.length
def cutF (f : Frm) : Frm := (f.1, f.2.1, f.2.2.1, cut f.2.2.2)
def encs : List Frm → List Int
  | [] => []
  | f :: r => enc f ++ encs r
def endsF : Nat → List Frm → List Int
  | _, [] => []
  | s, f :: r => ((s + (enc f).length : Nat) : Int) :: endsF (s + (enc f).length) r
/-- how many ends lie within k -/
def cnt (k : Int) : List Int → Nat
  | [] => 0
  | e :: r => if e ≤ k then cnt k r + 1 else 0

theorem enc_length (f : Frm) : (enc f).length = 9 + f.2.2.2.length := by simp [enc, h9]; omega
theorem encs_append (a b : List Frm) : encs (a ++ b) = encs a ++ encs b := by
  induction a with
  | nil => rfl
  | cons f a ih => simp [encs, ih]
theorem endsF_append (a : List Frm) (f : Frm) : ∀ s, endsF s (a ++ [f]) = endsF s a ++ [((s + (encs a).length + (enc f).length : Nat) : Int)] := by
  induction a with
  | nil => intro s; simp [endsF, encs]
  | cons g a ih =>
    intro s
    simp only [List.cons_append, endsF, ih, encs, List.length_append]
    rw [show s + (enc g).length + (encs a).length = s + ((enc g).length + (encs a).length) by omega]
theorem endsF_length (a : List Frm) : ∀ s, (endsF s a).length = a.length := by
  induction a with
  | nil => intro s; rfl
  | cons g a ih => intro s; simp [endsF, ih]
theorem cnt_le (k : Int) (l : List Int) : cnt k l ≤ l.length := by
  induction l with
  | nil => exact Nat.le_refl _
  | cons e r ih => simp only [cnt]; split <;> simp <;> omega
theorem encs_bytes : ∀ (l : List Frm), (∀ f, f ∈ l → Bytes f.2.2.2) → Bytes (encs l)
  | [], _ => fun x hx => by cases hx
  | f :: r, h => by
    refine Bytes.append (Bytes.append (h9_bytes _ _ _ _) (h f (by simp))) (encs_bytes r fun g hg => h g (by simp [hg]))

theorem nOf_enc (f : Frm) (r : List Int) (h : okF f = true) : nOf (enc f ++ r) = f.2.2.2.length := by
  simp only [okF, rightB, decide_eq_true_eq] at h
  show (f.2.2.2.length : Int) / 65536 % 256 * 65536 + (f.2.2.2.length : Int) / 256 % 256 * 256 + (f.2.2.2.length : Int) % 256 = f.2.2.2.length
  omega
theorem sOf_enc (f : Frm) (r : List Int) (h : okF f = true) : sOf (enc f ++ r) = f.2.2.1 := by
  simp only [okF, rightB, decide_eq_true_eq] at h
  show f.2.2.1 / 16777216 % 256 % 128 * 16777216 + f.2.2.1 / 65536 % 256 * 65536 + f.2.2.1 / 256 % 256 * 256 + f.2.2.1 % 256 = f.2.2.1
  omega

/-- a whole frame is told -/
theorem feedA_enc (most : Int) (f : Frm) (r : List Int) (h : okF f = true) (hm : (f.2.2.2.length : Int) ≤ most) (hb : Bytes r) : feedA most (enc f ++ r) = (f :: (feedA most r).1, (feedA most r).2) := by
  have hl : (enc f ++ r).length = 9 + f.2.2.2.length + r.length := by rw [List.length_append, enc_length]
  have e1 : (enc f ++ r)[3]?.getD 0 = f.1 := by
    show f.1 % 256 = f.1
    simp only [okF, rightB, decide_eq_true_eq] at h; omega
  have e2 : (enc f ++ r)[4]?.getD 0 = f.2.1 := by
    show f.2.1 % 256 = f.2.1
    simp only [okF, rightB, decide_eq_true_eq] at h; omega
  have e3 : (enc f ++ r).drop (9 + f.2.2.2.length) = r := by
    rw [← enc_length, List.drop_left]
  have e4 : ((enc f ++ r).drop 9).take f.2.2.2.length = f.2.2.2 := by
    show (f.2.2.2 ++ r).take f.2.2.2.length = f.2.2.2
    rw [List.take_left]
  show feedM most ((enc f ++ r).length + 1) (enc f ++ r) = _
  unfold feedM
  rw [if_neg (by omega), nOf_enc f r h, if_neg (by omega), if_neg (by omega), sOf_enc f r h, e1, e2]
  simp only [Int.toNat_natCast]
  rw [e3, e4]
  have := feedM_fuel most ((enc f ++ r).length) (r.length + 1) r (by omega) (by omega) hb
  rw [this]
  rfl
/-- a frame's beginning is left -/
theorem feedA_part (most : Int) (f : Frm) (k : Nat) (h : okF f = true) (hm : (f.2.2.2.length : Int) ≤ most) (hk : k < (enc f).length) : feedA most ((enc f).take k) = ([], (enc f).take k, false) := by
  rw [enc_length] at hk
  have hl : ((enc f).take k).length = k := by rw [List.length_take, enc_length]; omega
  show feedM most (((enc f).take k).length + 1) ((enc f).take k) = _
  unfold feedM
  rw [hl]
  by_cases h9 : k < 9
  · rw [if_pos h9]
  · have e : nOf ((enc f).take k) = f.2.2.2.length := by
      have := nOf_append (a := (enc f).take k) (b := (enc f).drop k) (by omega)
      rw [List.take_append_drop] at this
      rw [← this]
      have := nOf_enc f [] h
      rwa [List.append_nil] at this
    rw [if_neg h9, e, if_neg (by omega), if_pos (by omega)]

/-- what is told of a beginning -/
theorem feedA_take (most : Int) : ∀ (W : List Frm) (s k : Nat), (∀ f, f ∈ W → okF f = true ∧ (f.2.2.2.length : Int) ≤ most ∧ Bytes f.2.2.2) → k ≤ (encs W).length →
    (feedA most ((encs W).take k)).1 = W.take (cnt ((s + k : Nat) : Int) (endsF s W)) ∧ (feedA most ((encs W).take k)).2.2 = false ∧
    ((feedA most ((encs W).take k)).2.1.length : Int) = ((s + k : Nat) : Int) - (if cnt ((s + k : Nat) : Int) (endsF s W) = 0 then (s : Int) else (endsF s W)[cnt ((s + k : Nat) : Int) (endsF s W) - 1]?.getD 0) := by
  intro W
  induction W with
  | nil =>
    intro s k _ hk
    have : k = 0 := by simpa [encs] using hk
    subst this
    simp [encs, feedA_nil, endsF, cnt]
  | cons f W ih =>
    intro s k hW hk
    obtain ⟨h1, h2, h3⟩ := hW f (by simp)
    by_cases hf : (enc f).length ≤ k
    · obtain ⟨i1, i2, i3⟩ := ih (s + (enc f).length) (k - (enc f).length) (fun g hg => hW g (by simp [hg])) (by simp [encs] at hk; omega)
      have e1 : (encs (f :: W)).take k = enc f ++ (encs W).take (k - (enc f).length) := by
        show (enc f ++ encs W).take k = _
        rw [List.take_append, List.take_of_length_le hf]
      have e2 : s + (enc f).length + (k - (enc f).length) = s + k := by omega
      rw [e2] at i1 i3
      have e3 : cnt ((s + k : Nat) : Int) (endsF s (f :: W)) = cnt ((s + k : Nat) : Int) (endsF (s + (enc f).length) W) + 1 := by
        show (if ((s + (enc f).length : Nat) : Int) ≤ ((s + k : Nat) : Int) then _ + 1 else 0) = _
        rw [if_pos (by omega)]
      have hb : Bytes ((encs W).take (k - (enc f).length)) := (encs_bytes W fun g hg => (hW g (by simp [hg])).2.2).take _
      rw [e1, feedA_enc most f _ h1 h2 hb, e3]
      refine ⟨by simp only [i1, List.take_succ_cons], i2, ?_⟩
      rw [if_neg (by omega), Nat.add_sub_cancel]
      show ((feedA most ((encs W).take (k - (enc f).length))).2.1.length : Int) = _
      rw [i3]
      cases hc : cnt ((s + k : Nat) : Int) (endsF (s + (enc f).length) W) with
      | zero => simp [endsF]
      | succ c => simp [endsF]
    · have e1 : (encs (f :: W)).take k = (enc f).take k := by
        show (enc f ++ encs W).take k = _
        rw [List.take_append_of_le_length (by omega)]
      have e3 : cnt ((s + k : Nat) : Int) (endsF s (f :: W)) = 0 := by
        show (if ((s + (enc f).length : Nat) : Int) ≤ ((s + k : Nat) : Int) then _ + 1 else 0) = _
        rw [if_neg (by omega)]
      rw [e1, feedA_part most f k h1 h2 (by omega), e3]
      refine ⟨rfl, rfl, ?_⟩
      simp [List.length_take]; omega

/-- all of it -/
theorem feedA_all (most : Int) (W : List Frm) (hW : ∀ f, f ∈ W → okF f = true ∧ (f.2.2.2.length : Int) ≤ most ∧ Bytes f.2.2.2) : feedA most (encs W) = (W, [], false) := by
  induction W with
  | nil => exact feedA_nil most
  | cons f W ih =>
    obtain ⟨h1, h2, h3⟩ := hW f (by simp)
    show feedA most (enc f ++ encs W) = _
    rw [feedA_enc most f _ h1 h2 (encs_bytes W fun g hg => (hW g (by simp [hg])).2.2), ih fun g hg => hW g (by simp [hg])]

/-- what is told of the rest -/
theorem feedA_drop (most : Int) (W : List Frm) (k : Nat) (hW : ∀ f, f ∈ W → okF f = true ∧ (f.2.2.2.length : Int) ≤ most ∧ Bytes f.2.2.2) (hk : k ≤ (encs W).length) :
    feedA most ((feedA most ((encs W).take k)).2.1 ++ (encs W).drop k) = (W.drop (cnt (k : Int) (endsF 0 W)), [], false) := by
  have hb : Bytes (encs W) := encs_bytes W fun g hg => (hW g hg).2.2
  obtain ⟨i1, i2, _⟩ := feedA_take most W 0 k hW hk
  rw [Nat.zero_add] at i1
  have h := feedA_append most ((encs W).take k) ((encs W).drop k) (by rw [List.take_append_drop]; exact hb)
  rw [List.take_append_drop, feedA_all most W hW, i2] at h
  simp only [Bool.false_eq_true, if_false, Prod.mk.injEq] at h
  obtain ⟨h1, h2⟩ := h
  rw [i1] at h1
  have e : (feedA most ((feedA most ((encs W).take k)).2.1 ++ (encs W).drop k)).1 = W.drop (cnt (k : Int) (endsF 0 W)) := by
    have h3 : W.take (cnt (k : Int) (endsF 0 W)) ++ W.drop (cnt (k : Int) (endsF 0 W)) = W.take (cnt (k : Int) (endsF 0 W)) ++ (feedA most ((feedA most ((encs W).take k)).2.1 ++ (encs W).drop k)).1 := by
      rw [List.take_append_drop]; exact h1
    exact (List.append_cancel_left h3).symm
  have h2' := h2.symm
  exact Prod.ext e h2'

/-- what is written of the first ones -/
def wOf (L : List Frm) (i : Nat) : List Frm := ((L.take i).map cutF).filter okF
theorem wOf_succ {L : List Frm} {i : Nat} (h : i < L.length) : wOf L (i + 1) = if okF (cutF L[i]) then wOf L i ++ [cutF L[i]] else wOf L i := by
  unfold wOf
  rw [List.take_add_one, List.getElem?_eq_getElem h, Option.toList_some, List.map_append, List.filter_append]
  simp only [List.map_cons, List.map_nil, List.filter_cons, List.filter_nil]
  split <;> simp
theorem wOf_mem {L : List Frm} {i : Nat} (hL : ∀ f, f ∈ L → Bytes f.2.2.2) : ∀ f, f ∈ wOf L i → okF f = true ∧ f.2.2.2.length ≤ 300 ∧ Bytes f.2.2.2 := by
  intro f hf
  unfold wOf at hf
  rw [List.mem_filter, List.mem_map] at hf
  obtain ⟨⟨g, hg, rfl⟩, h⟩ := hf
  refine ⟨h, by simp [cutF, cut]; omega, ?_⟩
  exact Bytes.take (hL g (List.mem_of_mem_take hg)) 300
theorem encs_len : ∀ (W : List Frm), (∀ f, f ∈ W → f.2.2.2.length ≤ 300) → (encs W).length ≤ 309 * W.length
  | [], _ => by simp [encs]
  | f :: r, h => by
    have := encs_len r fun g hg => h g (by simp [hg])
    have h1 := h f (by simp)
    simp only [encs, List.length_append, List.length_cons, enc_length]; omega
theorem wOf_len (L : List Frm) (i : Nat) : (wOf L i).length ≤ i := by
  unfold wOf
  refine Nat.le_trans (List.length_filter_le _ _) ?_
  simp; omega
end Go.Proofs.Ytgofadnggipkpaa
