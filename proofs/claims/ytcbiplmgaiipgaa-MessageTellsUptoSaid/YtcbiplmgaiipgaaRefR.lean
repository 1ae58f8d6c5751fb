import Derived.Test.YtcbiplmgaiipgaaEvE
import Derived.Test.YtcbiplmgaiipgaaRefL
set_option linter.unusedVariables false
set_option linter.unusedSimpArgs false
set_option linter.unusedSectionVars false
-- the document's requests: their heads
namespace Go.Proofs.Ytcbiplmgaiipgaa
open Go hiding Fn
open Ev tab
attribute [local irreducible] EvP EvD EvL EvC evGds evLs C.run sK bK gK pK fK lpB stepD
def flg (seen : List (List Nat)) : List V := [.bo (decide (sMethod ∈ seen)), .bo (decide (sScheme ∈ seen)), .bo (decide (sAuth ∈ seen)), .bo (decide (sPath ∈ seen))]
theorem flg_m (seen : List (List Nat)) : flg (seen ++ [sMethod]) = [.bo true, .bo (decide (sScheme ∈ seen)), .bo (decide (sAuth ∈ seen)), .bo (decide (sPath ∈ seen))] := by
  have h1 : sScheme ≠ sMethod := by decide
  have h2 : sAuth ≠ sMethod := by decide
  have h3 : sPath ≠ sMethod := by decide
  simp [flg, h1, h2, h3]
theorem flg_s (seen : List (List Nat)) : flg (seen ++ [sScheme]) = [.bo (decide (sMethod ∈ seen)), .bo true, .bo (decide (sAuth ∈ seen)), .bo (decide (sPath ∈ seen))] := by
  have h1 : sMethod ≠ sScheme := by decide
  have h2 : sAuth ≠ sScheme := by decide
  have h3 : sPath ≠ sScheme := by decide
  simp [flg, h1, h2, h3]
theorem flg_a (seen : List (List Nat)) : flg (seen ++ [sAuth]) = [.bo (decide (sMethod ∈ seen)), .bo (decide (sScheme ∈ seen)), .bo true, .bo (decide (sPath ∈ seen))] := by
  have h1 : sMethod ≠ sAuth := by decide
  have h2 : sScheme ≠ sAuth := by decide
  have h3 : sPath ≠ sAuth := by decide
  simp [flg, h1, h2, h3]
theorem flg_p (seen : List (List Nat)) : flg (seen ++ [sPath]) = [.bo (decide (sMethod ∈ seen)), .bo (decide (sScheme ∈ seen)), .bo (decide (sAuth ∈ seen)), .bo true] := by
  have h1 : sMethod ≠ sPath := by decide
  have h2 : sScheme ≠ sPath := by decide
  have h3 : sAuth ≠ sPath := by decide
  simp [flg, h1, h2, h3]
/-- what was not seen is empty -/
def emp (seen : List (List Nat)) (h : Hd) : Prop := (sScheme ∉ seen → h.s = []) ∧ (sPath ∉ seen → h.p = [])
def LSq (seen : List (List Nat)) : Lo := lset (lset (fun _ => none) 2 zRow) 7 (flg seen)
set_option maxHeartbeats 16000000 in
theorem rreq_loop (l : List Fld) (hl : FOK l) (k : Nat) (hk : k ≤ l.length) (t : Option Hd) (ht : headGo [] hd0 (l.take k) = t) (lo : Lo) (hlo : shed [] lo = LSq []) (hp0 : Hp) (hg0 : hget hp0 0 = some ⟨6, false, [rowH hd0]⟩) (hlim0 : hp0.lim ≤ 0)
    (tm : Tm) (htm : [0, 2, 4, 6, 7, 8].map (fun x => (x, tm x)) = [(0, .vs 2 (fds l)), (2, .lp 2 0), (4, .it .i64 (Int.ofNat k)), (6, .pt 0 0 0), (7, .lp 7 0), (8, .it .i64 (Int.ofNat 0))]) :
    ∃ r, EvL F [0, 2, 4, 6, 7, 8] [] (lpB (d28.body.lps.getD 0 .skip)) ⟨tm, lo, hp0⟩ r ∧
      ((∃ h seen, t = some h ∧ emp seen h ∧ XtQ 0 [(0, .vs 2 (fds l)), (2, .lp 2 0), (4, .it .i64 (Int.ofNat k)), (6, .pt 0 0 0), (7, .lp 7 0)] (fun lo hp => lo = LSq seen ∧ hget hp 0 = some ⟨6, false, [rowH h]⟩ ∧ hp.lim ≤ 0 ∧ hp.next = hp0.next) r) ∨
       (t = none ∧ RtQ [(2, .lp 2 0), (3, .bo false)] (fun lo hp => ∃ lo', lo = lset lo' 2 zRow) r)) := by
  refine EvL.invQ (S := Nat × List (List Nat) × Hd) (fun x => [(0, .vs 2 (fds l)), (2, .lp 2 0), (4, .it .i64 (Int.ofNat k)), (6, .pt 0 0 0), (7, .lp 7 0), (8, .it .i64 (Int.ofNat x.1))])
    (fun x lo hp => shed [] lo = LSq x.2.1 ∧ x.1 ≤ k ∧ emp x.2.1 x.2.2 ∧ hget hp 0 = some ⟨6, false, [rowH x.2.2]⟩ ∧ hp.lim ≤ 0 ∧ hp.next = hp0.next ∧ headGo x.2.1 x.2.2 ((l.take k).drop x.1) = t) (fun x => k - x.1) _ ?_ (0, [], hd0) tm lo hp0
    ⟨hlo, Nat.zero_le _, ⟨fun _ => rfl, fun _ => rfl⟩, hg0, hlim0, rfl, ht⟩ htm
  intro ⟨i, seen, H⟩ lo hp ⟨e1, e2, e3, hg, hlim, hnx, e4⟩
  simp only at e1 e2 e3 hg hlim hnx e4
  rw [e1]
  by_cases hi : i < k
  · have hil : i < l.length := by omega
    have hlt : i < (l.take k).length := by rw [List.length_take, Nat.min_eq_left hk]; exact hi
    have e6 : (l.take k).getD i f0 = l.getD i f0 := by rw [List.getD, List.getD, List.getElem?_take_of_lt hi]
    have e5 := e4
    rw [drop_getD hlt f0, e6] at e5
    clear e6 e4
    have hv := rvalue_ok (l.getD i f0).2 (by rw [List.getD, List.getElem?_eq_getElem hil]; exact (hl.get hil).2.2.2)
    have hlen := fds_length l
    have hfe : (fds l).getD i [] = fd (l.getD i f0) := fds_getD' hil
    generalize l.getD i f0 = f at *
    obtain ⟨nm, vl⟩ := f
    simp only at hv
    have hll := hl.1
    generalize hR : (l.take k).drop (i + 1) = R at *
    simp only [headGo, putH] at e5
    clear hl hlen hlt
    have nm1 : sScheme ≠ sMethod := by decide
    have nm2 : sAuth ≠ sMethod := by decide
    have nm3 : sPath ≠ sMethod := by decide
    have nm4 : sAuth ≠ sScheme := by decide
    have nm5 : sPath ≠ sScheme := by decide
    have nm6 : sPath ≠ sAuth := by decide
    repeat' (first | refine EvQ.run ?_ | refine EvQ.lift (fun _ zn => X.pcall (hv) X.cq rfl X.al rfl zn) ?_ | refine EvQ.lift (fun _ zn => X.pcallG (hv) rfl X.cq rfl X.al rfl zn) ?_ | refine EvQ.lift (fun _ zn => X.pcallC (hv) rfl X.cq rfl X.al rfl zn) ?_ | refine EvQ.lift (fun _ zn => X.pcallT (hv) (by decide) X.cq rfl X.al rfl zn) ?_ | refine EvQ.lift (fun _ zn => X.call rfl X.al (hv) zn) ?_ | (refine EvQ.pickB rfl rfl rfl ?_) | (refine EvQ.cond rfl (fun h => ?_) (fun h => ?_) <;> ((first | replace h := X.nm h | skip); try have hne := ne_len h)) | (refine EvQ.g1 rfl (fun h => ?_) (fun h => ?_) <;> ((first | replace h := X.nm h | skip); try have hne := ne_len h)) | (refine EvQ.pick rfl (fun _ => rfl) (fun _ => rfl) (fun h => ?_) (fun h => ?_) <;> ((first | replace h := X.nm h | skip); try have hne := ne_len h)) | refine EvQ.fin X.rs ?_ | refine EvQ.fin1 (fun _ => rfl) rfl ?_)
    · obtain rfl : nm = sMethod := by assumption
      rw [if_pos (.inr (by assumption))] at e5
      exact EvQ.rt (.inr ⟨e5.symm, RtQ.mk' X.kv ⟨_, rfl⟩⟩)
    · obtain rfl : nm = sMethod := by assumption
      rw [if_neg (fun q => q.elim (by assumption) (fun z => by rw [show valueB vl = true by assumption] at z; cases z)), if_pos rfl] at e5
      refine EvQ.go (i + 1, seen ++ [sMethod], { H with m := vl }) X.kv ⟨by unfold LSq; rw [flg_m]; exact X.lo, by show i + 1 ≤ _; omega, ⟨fun q => e3.1 fun z => q (List.mem_append_left _ z), fun q => e3.2 fun z => q (List.mem_append_left _ z)⟩, (hget_set _ _ _).trans rfl, hlim, hnx, by show headGo _ _ ((l.take k).drop (i + 1)) = t; rw [hR]; exact e5⟩ (by show k - (i + 1) < k - i; omega)
    · obtain rfl : nm = sMethod := by assumption
      rw [if_pos (.inl (by assumption))] at e5
      exact EvQ.rt (.inr ⟨e5.symm, RtQ.mk' X.kv ⟨_, rfl⟩⟩)
    · obtain rfl : nm = sScheme := by assumption
      rw [if_pos (.inr (by assumption))] at e5
      exact EvQ.rt (.inr ⟨e5.symm, RtQ.mk' X.kv ⟨_, rfl⟩⟩)
    · obtain rfl : nm = sScheme := by assumption
      rw [if_neg (fun q => q.elim (by assumption) (fun z => by rw [show valueB vl = true by assumption] at z; cases z)), if_neg nm1, if_pos rfl] at e5
      refine EvQ.go (i + 1, seen ++ [sScheme], { H with s := vl }) X.kv ⟨by unfold LSq; rw [flg_s]; exact X.lo, by show i + 1 ≤ _; omega, ⟨fun q => absurd (List.mem_append_right _ (by simp)) q, fun q => e3.2 fun z => q (List.mem_append_left _ z)⟩, (hget_set _ _ _).trans rfl, hlim, hnx, by show headGo _ _ ((l.take k).drop (i + 1)) = t; rw [hR]; exact e5⟩ (by show k - (i + 1) < k - i; omega)
    · obtain rfl : nm = sScheme := by assumption
      rw [if_pos (.inl (by assumption))] at e5
      exact EvQ.rt (.inr ⟨e5.symm, RtQ.mk' X.kv ⟨_, rfl⟩⟩)
    · obtain rfl : nm = sAuth := by assumption
      rw [if_pos (.inr (by assumption))] at e5
      exact EvQ.rt (.inr ⟨e5.symm, RtQ.mk' X.kv ⟨_, rfl⟩⟩)
    · obtain rfl : nm = sAuth := by assumption
      rw [if_neg (fun q => q.elim (by assumption) (fun z => by rw [show valueB vl = true by assumption] at z; cases z)), if_neg nm2, if_neg nm4, if_pos rfl] at e5
      refine EvQ.go (i + 1, seen ++ [sAuth], { H with a := vl }) X.kv ⟨by unfold LSq; rw [flg_a]; exact X.lo, by show i + 1 ≤ _; omega, ⟨fun q => e3.1 fun z => q (List.mem_append_left _ z), fun q => e3.2 fun z => q (List.mem_append_left _ z)⟩, (hget_set _ _ _).trans rfl, hlim, hnx, by show headGo _ _ ((l.take k).drop (i + 1)) = t; rw [hR]; exact e5⟩ (by show k - (i + 1) < k - i; omega)
    · obtain rfl : nm = sAuth := by assumption
      rw [if_pos (.inl (by assumption))] at e5
      exact EvQ.rt (.inr ⟨e5.symm, RtQ.mk' X.kv ⟨_, rfl⟩⟩)
    · obtain rfl : nm = sPath := by assumption
      rw [if_pos (.inr (by assumption))] at e5
      exact EvQ.rt (.inr ⟨e5.symm, RtQ.mk' X.kv ⟨_, rfl⟩⟩)
    · obtain rfl : nm = sPath := by assumption
      rw [if_neg (fun q => q.elim (by assumption) (fun z => by rw [show valueB vl = true by assumption] at z; cases z)), if_neg nm3, if_neg nm5, if_neg nm6, if_pos rfl] at e5
      refine EvQ.go (i + 1, seen ++ [sPath], { H with p := vl }) X.kv ⟨by unfold LSq; rw [flg_p]; exact X.lo, by show i + 1 ≤ _; omega, ⟨fun q => e3.1 fun z => q (List.mem_append_left _ z), fun q => absurd (List.mem_append_right _ (by simp)) q⟩, (hget_set _ _ _).trans rfl, hlim, hnx, by show headGo _ _ ((l.take k).drop (i + 1)) = t; rw [hR]; exact e5⟩ (by show k - (i + 1) < k - i; omega)
    · obtain rfl : nm = sPath := by assumption
      rw [if_pos (.inl (by assumption))] at e5
      exact EvQ.rt (.inr ⟨e5.symm, RtQ.mk' X.kv ⟨_, rfl⟩⟩)
    · have x1 : ¬ nm = sMethod := by assumption
      have x2 : ¬ nm = sScheme := by assumption
      have x3 : ¬ nm = sAuth := by assumption
      have x4 : ¬ nm = sPath := by assumption
      rw [if_neg x1, if_neg x2, if_neg x3, if_neg x4] at e5
      have e5 : none = t := by rw [← e5]; split <;> rfl
      exact EvQ.rt (.inr ⟨e5.symm, RtQ.mk' X.kv ⟨_, rfl⟩⟩)
  · have hik : i = k := by omega
    subst hik
    repeat' (first | refine EvQ.run ?_ | (refine EvQ.pickB rfl rfl rfl ?_) | (refine EvQ.cond rfl (fun h => ?_) (fun h => ?_) <;> ((first | replace h := X.nm h | skip); try have hne := ne_len h)) | (refine EvQ.g1 rfl (fun h => ?_) (fun h => ?_) <;> ((first | replace h := X.nm h | skip); try have hne := ne_len h)) | (refine EvQ.pick rfl (fun _ => rfl) (fun _ => rfl) (fun h => ?_) (fun h => ?_) <;> ((first | replace h := X.nm h | skip); try have hne := ne_len h)) | refine EvQ.fin X.rs ?_ | refine EvQ.fin1 (fun _ => rfl) rfl ?_)
    rw [List.drop_of_length_le (by rw [List.length_take]; omega)] at e4
    exact EvQ.xt (.inl ⟨H, seen, e4.symm, e3, XtQ.mk' X.kv ⟨rfl, hg, hlim, hnx⟩⟩)
end Go.Proofs.Ytcbiplmgaiipgaa
