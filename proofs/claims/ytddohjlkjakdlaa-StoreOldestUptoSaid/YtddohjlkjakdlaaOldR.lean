import Derived.Test.YtddohjlkjakdlaaEvE
import Derived.Test.YtddohjlkjakdlaaEvE
import Derived.Test.YtddohjlkjakdlaaOldL
set_option linter.unusedVariables false
set_option linter.unusedSimpArgs false
-- StoreOldest, whole
namespace Go.Proofs.Ytddohjlkjakdlaa
open Go hiding Fn
open Ev tab
attribute [local irreducible] EvP EvD EvL EvC evGds evLs C.run sK bK gK pK fK lpB stepD
set_option maxHeartbeats 16000000 in
theorem old_run (room : Int) (l : List Int) (hl : l.length ≤ 2000000) : ∃ h, EvD F (stepD d4 [.it .i64 room, .vs 1 (iv l)] h0) (Rt (.bo true) h) := by
  obtain ⟨k, h1, h2, W⟩ := within_p room 1 9 (by decide) (by decide) (by decide)
  obtain ⟨n, rfl⟩ : ∃ n : Nat, k = Int.ofNat n := ⟨k.toNat, by simp only [Int.ofNat_eq_natCast]; omega⟩
  have h1 : 1 ≤ n := by simp only [Int.ofNat_eq_natCast] at h1; omega
  have h2 : n ≤ 9 := by simp only [Int.ofNat_eq_natCast] at h2; omega
  have pg := page_ok [97] 0 (by omega)
  have hE := page_eok 97 0 (by omega)
  have hc := cost_ok (pageE [97] 0) hE
  rw [page_cost] at hc
  have c3 := rowEn_clo (pageE [97] 0)
  generalize pageE [97] 0 = pe at *
  have hmul : wr .i64 (Int.ofNat n * Int.ofNat 109) = Int.ofNat (n * 109) := by
    rw [show Int.ofNat n * Int.ofNat 109 = Int.ofNat (n * 109) from rfl]
    exact wr64 (by simp only [Int.ofNat_eq_natCast]; omega) (by simp only [Int.ofNat_eq_natCast]; omega)
  have nw : ∃ w hp', EvC F false 9 [.it .i64 (wr .i64 (Int.ofNat n * Int.ofNat 109))] h0 (.ret w hp') ∧ w = .tu [.pt h0.next 0 0, .it .i64 (Int.ofNat 0)] ∧ StoV hp' h0.next .ns [] (n * 109) ∧ hp'.lim ≤ hp'.next := by
    rw [hmul]
    obtain ⟨w, hp', a, b, c, rfl⟩ := new_ok (own := false) h0 (n * 109) (by omega) (Nat.le_refl _)
    exact ⟨w, _, a, b, c, Nat.zero_le _⟩
  have sr := storeruns_ok
  refine EvQ.law ?_
  repeat (first | refine EvQ.run ?_ | refine EvQ.lift (fun _ zn => X.pcall (W) X.cq rfl X.al rfl zn) ?_ | refine EvQ.lift (fun _ zn => X.pcallG (W) rfl X.cq rfl X.al rfl zn) ?_ | refine EvQ.lift (fun _ zn => X.pcallC (W) rfl X.cq rfl X.al rfl zn) ?_ | refine EvQ.lift (fun _ zn => X.pcallT (W) (by decide) X.cq rfl X.al rfl zn) ?_ | refine EvQ.lift (fun _ zn => X.call rfl X.al (W) zn) ?_ | refine EvQ.lift (fun _ zn => X.pcall (pg) X.cq rfl X.al rfl zn) ?_ | refine EvQ.lift (fun _ zn => X.pcallG (pg) rfl X.cq rfl X.al rfl zn) ?_ | refine EvQ.lift (fun _ zn => X.pcallC (pg) rfl X.cq rfl X.al rfl zn) ?_ | refine EvQ.lift (fun _ zn => X.pcallT (pg) (by decide) X.cq rfl X.al rfl zn) ?_ | refine EvQ.lift (fun _ zn => X.call rfl X.al (pg) zn) ?_ | refine EvQ.lift (fun _ zn => X.pcall (hc) X.cq rfl X.al rfl zn) ?_ | refine EvQ.lift (fun _ zn => X.pcallG (hc) rfl X.cq rfl X.al rfl zn) ?_ | refine EvQ.lift (fun _ zn => X.pcallC (hc) rfl X.cq rfl X.al rfl zn) ?_ | refine EvQ.lift (fun _ zn => X.pcallT (hc) (by decide) X.cq rfl X.al rfl zn) ?_ | refine EvQ.lift (fun _ zn => X.call rfl X.al (hc) zn) ?_ | refine EvQ.fin X.rs ?_ | refine EvQ.fin1 (fun _ => rfl) rfl ?_)
  refine EvQ.call rfl X.al nw ?_
  rintro _ hp1 ⟨rfl, hS, hll⟩
  repeat (first | refine EvQ.run ?_ | refine EvQ.fin X.rs ?_ | refine EvQ.fin1 (fun _ => rfl) rfl ?_)
  refine EvQ.loop (old_loop1 h0.next l hl n h1 h2 hp1 hS hll _ ?_ _ ?_) ?_
  · exact X.lo
  · exact X.kv
  rintro _ ⟨tm, lo, hp2, rfl, -⟩
  repeat (first | refine EvQ.run ?_ | refine EvQ.lift (fun _ zn => X.pcall (sr) X.cq rfl X.al rfl zn) ?_ | refine EvQ.lift (fun _ zn => X.pcallG (sr) rfl X.cq rfl X.al rfl zn) ?_ | refine EvQ.lift (fun _ zn => X.pcallC (sr) rfl X.cq rfl X.al rfl zn) ?_ | refine EvQ.lift (fun _ zn => X.pcallT (sr) (by decide) X.cq rfl X.al rfl zn) ?_ | refine EvQ.lift (fun _ zn => X.call rfl X.al (sr) zn) ?_ | refine EvQ.fin X.rs ?_ | refine EvQ.fin1 (fun _ => rfl) rfl ?_)
  exact ⟨_, rfl⟩
theorem old_law (xs : List V) (h : ShP [(false, [.it .i64]), (false, [.sl [.it .i64]])] xs) (hb : sizP xs ≤ 1048576) : ∃ L k hp', runF (callF F L k) L c4 xs h0 = .ret (.bo true) hp' := by
  obtain ⟨z, r, rfl, h4, h, e4⟩ := h.one'
  obtain ⟨y, r, rfl, h3, h, e3⟩ := h.one'
  cases h.nil'
  obtain ⟨es, rfl, h5, e5⟩ := slice_of h3
  obtain ⟨l, rfl, e6⟩ := ints_of h5
  obtain ⟨c, rfl, _⟩ := int_of h4
  exact law_of d4 rfl (old_run c l (by omega))
end Go.Proofs.Ytddohjlkjakdlaa
