import Derived.Test.YtgofadnggipkpaaEvE
import Derived.Test.YtgofadnggipkpaaRlD
import Derived.KernelRfl
set_option linter.unusedVariables false
set_option linter.unusedSimpArgs false
set_option linter.unusedSectionVars false
-- FrameReads: the law (EvHp EvOwn)
namespace Go.Proofs.Ytgofadnggipkpaa.rf
open Go hiding Fn
open Ev tab rl
attribute [local irreducible] EvP EvD EvL EvC evGds evLs C.run sK bK gK pK fK lpB stepD
set_option maxHeartbeats 32000000 in
theorem reads_bad (most : Int) (pr sy : Bool) (l : List (List Int)) (hm : most < 16384 ∨ 16777215 < most) (hll : l.length ≤ 2000000) (hlb : ∀ b, b ∈ l → Bytes b ∧ b.length ≤ 10000000) : ∃ h, EvD F (stepD d5 [.it .i64 most, .bo pr, .bo sy, .vs 1 (pcs l)] h0) (Rt (.bo true) h) := by
  have ru := runs_ok
  have hpn := pcs_length l
  refine EvQ.law ?_
  have nb := new_bad h0 most pr hm
  rcases hm with hm | hm
  · repeat (first | refine EvQ.run ?_ | refine EvQ.lift (fun _ zn => X.pcall (nb) X.cq rfl X.al rfl zn) ?_ | refine EvQ.lift (fun _ zn => X.pcallG (nb) rfl X.cq rfl X.al rfl zn) ?_ | refine EvQ.lift (fun _ zn => X.pcallC (nb) rfl X.cq rfl X.al rfl zn) ?_ | refine EvQ.lift (fun _ zn => X.pcallT (nb) (by decide) X.cq rfl X.al rfl zn) ?_ | refine EvQ.lift (fun _ zn => X.call rfl X.al (nb) zn) ?_ | refine EvQ.lift (fun _ zn => X.pcall (ru) X.cq rfl X.al rfl zn) ?_ | refine EvQ.lift (fun _ zn => X.pcallG (ru) rfl X.cq rfl X.al rfl zn) ?_ | refine EvQ.lift (fun _ zn => X.pcallC (ru) rfl X.cq rfl X.al rfl zn) ?_ | refine EvQ.lift (fun _ zn => X.pcallT (ru) (by decide) X.cq rfl X.al rfl zn) ?_ | refine EvQ.lift (fun _ zn => X.call rfl X.al (ru) zn) ?_ | refine EvQ.fin X.rs ?_ | refine EvQ.fin1 (fun _ => rfl) rfl ?_)
    exact ⟨_, rfl⟩
  · repeat (first | refine EvQ.run ?_ | refine EvQ.lift (fun _ zn => X.pcall (nb) X.cq rfl X.al rfl zn) ?_ | refine EvQ.lift (fun _ zn => X.pcallG (nb) rfl X.cq rfl X.al rfl zn) ?_ | refine EvQ.lift (fun _ zn => X.pcallC (nb) rfl X.cq rfl X.al rfl zn) ?_ | refine EvQ.lift (fun _ zn => X.pcallT (nb) (by decide) X.cq rfl X.al rfl zn) ?_ | refine EvQ.lift (fun _ zn => X.call rfl X.al (nb) zn) ?_ | refine EvQ.lift (fun _ zn => X.pcall (ru) X.cq rfl X.al rfl zn) ?_ | refine EvQ.lift (fun _ zn => X.pcallG (ru) rfl X.cq rfl X.al rfl zn) ?_ | refine EvQ.lift (fun _ zn => X.pcallC (ru) rfl X.cq rfl X.al rfl zn) ?_ | refine EvQ.lift (fun _ zn => X.pcallT (ru) (by decide) X.cq rfl X.al rfl zn) ?_ | refine EvQ.lift (fun _ zn => X.call rfl X.al (ru) zn) ?_ | refine EvQ.fin X.rs ?_ | refine EvQ.fin1 (fun _ => rfl) rfl ?_)
    exact ⟨_, rfl⟩
set_option maxHeartbeats 32000000 in
theorem reads_ff (most : Int) (l : List (List Int)) (hm1 : 16384 ≤ most) (hm2 : most ≤ 16777215) (hll : l.length ≤ 2000000) (hlb : ∀ b, b ∈ l → Bytes b ∧ b.length ≤ 10000000) : ∃ h, EvD F (stepD d5 [.it .i64 most, .bo false, .bo false, .vs 1 (pcs l)] h0) (Rt (.bo true) h) := by
  have ru := runs_ok
  have hpn := pcs_length l
  refine EvQ.law ?_
  have nk := new_okF most hm1 hm2
  have key := loop_n (most := most) (pr := false) hll hlb
  rw [hF_eq] at key
  repeat (first | refine EvQ.run ?_ | refine EvQ.lift (fun _ zn => X.pcall (nk) X.cq rfl X.al rfl zn) ?_ | refine EvQ.lift (fun _ zn => X.pcallG (nk) rfl X.cq rfl X.al rfl zn) ?_ | refine EvQ.lift (fun _ zn => X.pcallC (nk) rfl X.cq rfl X.al rfl zn) ?_ | refine EvQ.lift (fun _ zn => X.pcallT (nk) (by decide) X.cq rfl X.al rfl zn) ?_ | refine EvQ.lift (fun _ zn => X.call rfl X.al (nk) zn) ?_ | refine EvQ.lift (fun _ zn => X.pcall (ru) X.cq rfl X.al rfl zn) ?_ | refine EvQ.lift (fun _ zn => X.pcallG (ru) rfl X.cq rfl X.al rfl zn) ?_ | refine EvQ.lift (fun _ zn => X.pcallC (ru) rfl X.cq rfl X.al rfl zn) ?_ | refine EvQ.lift (fun _ zn => X.pcallT (ru) (by decide) X.cq rfl X.al rfl zn) ?_ | refine EvQ.lift (fun _ zn => X.call rfl X.al (ru) zn) ?_ | refine EvQ.fin X.rs ?_ | refine EvQ.fin1 (fun _ => rfl) rfl ?_)
  refine EvQ.loop (key _ ?_ _ ?_) ?_
  · rfl
  · exact X.kv
  rintro _ ⟨tm, lo, hp, rfl, -⟩
  repeat (first | refine EvQ.run ?_ | refine EvQ.lift (fun _ zn => X.pcall (ru) X.cq rfl X.al rfl zn) ?_ | refine EvQ.lift (fun _ zn => X.pcallG (ru) rfl X.cq rfl X.al rfl zn) ?_ | refine EvQ.lift (fun _ zn => X.pcallC (ru) rfl X.cq rfl X.al rfl zn) ?_ | refine EvQ.lift (fun _ zn => X.pcallT (ru) (by decide) X.cq rfl X.al rfl zn) ?_ | refine EvQ.lift (fun _ zn => X.call rfl X.al (ru) zn) ?_ | refine EvQ.fin X.rs ?_ | refine EvQ.fin1 (fun _ => rfl) rfl ?_)
  exact ⟨_, rfl⟩
set_option maxHeartbeats 32000000 in
theorem reads_tf (most : Int) (l : List (List Int)) (hm1 : 16384 ≤ most) (hm2 : most ≤ 16777215) (hll : l.length ≤ 2000000) (hlb : ∀ b, b ∈ l → Bytes b ∧ b.length ≤ 10000000) : ∃ h, EvD F (stepD d5 [.it .i64 most, .bo true, .bo false, .vs 1 (pcs l)] h0) (Rt (.bo true) h) := by
  have ru := runs_ok
  have hpn := pcs_length l
  refine EvQ.law ?_
  have nk := new_okT most hm1 hm2
  have key := loop_n (most := most) (pr := true) hll hlb
  rw [hT_eq] at key
  repeat (first | refine EvQ.run ?_ | refine EvQ.lift (fun _ zn => X.pcall (nk) X.cq rfl X.al rfl zn) ?_ | refine EvQ.lift (fun _ zn => X.pcallG (nk) rfl X.cq rfl X.al rfl zn) ?_ | refine EvQ.lift (fun _ zn => X.pcallC (nk) rfl X.cq rfl X.al rfl zn) ?_ | refine EvQ.lift (fun _ zn => X.pcallT (nk) (by decide) X.cq rfl X.al rfl zn) ?_ | refine EvQ.lift (fun _ zn => X.call rfl X.al (nk) zn) ?_ | refine EvQ.lift (fun _ zn => X.pcall (ru) X.cq rfl X.al rfl zn) ?_ | refine EvQ.lift (fun _ zn => X.pcallG (ru) rfl X.cq rfl X.al rfl zn) ?_ | refine EvQ.lift (fun _ zn => X.pcallC (ru) rfl X.cq rfl X.al rfl zn) ?_ | refine EvQ.lift (fun _ zn => X.pcallT (ru) (by decide) X.cq rfl X.al rfl zn) ?_ | refine EvQ.lift (fun _ zn => X.call rfl X.al (ru) zn) ?_ | refine EvQ.fin X.rs ?_ | refine EvQ.fin1 (fun _ => rfl) rfl ?_)
  refine EvQ.loop (key _ ?_ _ ?_) ?_
  · rfl
  · exact X.kv
  rintro _ ⟨tm, lo, hp, rfl, -⟩
  repeat (first | refine EvQ.run ?_ | refine EvQ.lift (fun _ zn => X.pcall (ru) X.cq rfl X.al rfl zn) ?_ | refine EvQ.lift (fun _ zn => X.pcallG (ru) rfl X.cq rfl X.al rfl zn) ?_ | refine EvQ.lift (fun _ zn => X.pcallC (ru) rfl X.cq rfl X.al rfl zn) ?_ | refine EvQ.lift (fun _ zn => X.pcallT (ru) (by decide) X.cq rfl X.al rfl zn) ?_ | refine EvQ.lift (fun _ zn => X.call rfl X.al (ru) zn) ?_ | refine EvQ.fin X.rs ?_ | refine EvQ.fin1 (fun _ => rfl) rfl ?_)
  exact ⟨_, rfl⟩
attribute [local irreducible] fillE
set_option maxHeartbeats 32000000 in
theorem reads_ft (most : Int) (l : List (List Int)) (hm1 : 16384 ≤ most) (hm2 : most ≤ 16777215) (hll : l.length ≤ 2000000) (hlb : ∀ b, b ∈ l → Bytes b ∧ b.length ≤ 10000000) : ∃ h, EvD F (stepD d5 [.it .i64 most, .bo false, .bo true, .vs 1 (pcs l)] h0) (Rt (.bo true) h) := by
  have ru := runs_ok
  have hpn := pcs_length l
  refine EvQ.law ?_
  have nk := new_okF most hm1 hm2
  have key := loop_s (most := most) (pr := false) hll hlb
  rw [hF_eq] at key
  repeat (first | refine EvQ.run ?_ | refine EvQ.lift (fun _ zn => X.pcall (nk) X.cq rfl X.al rfl zn) ?_ | refine EvQ.lift (fun _ zn => X.pcallG (nk) rfl X.cq rfl X.al rfl zn) ?_ | refine EvQ.lift (fun _ zn => X.pcallC (nk) rfl X.cq rfl X.al rfl zn) ?_ | refine EvQ.lift (fun _ zn => X.pcallT (nk) (by decide) X.cq rfl X.al rfl zn) ?_ | refine EvQ.lift (fun _ zn => X.call rfl X.al (nk) zn) ?_ | refine EvQ.lift (fun _ zn => X.pcall (ru) X.cq rfl X.al rfl zn) ?_ | refine EvQ.lift (fun _ zn => X.pcallG (ru) rfl X.cq rfl X.al rfl zn) ?_ | refine EvQ.lift (fun _ zn => X.pcallC (ru) rfl X.cq rfl X.al rfl zn) ?_ | refine EvQ.lift (fun _ zn => X.pcallT (ru) (by decide) X.cq rfl X.al rfl zn) ?_ | refine EvQ.lift (fun _ zn => X.call rfl X.al (ru) zn) ?_ | refine EvQ.fin X.rs ?_ | refine EvQ.fin1 (fun _ => rfl) rfl ?_)
  refine EvQ.lift (fun _ zn => X.bsl (es' := bs preB) (id' := 2) (by kernel_rfl) (by kernel_rfl) zn) ?_
  refine EvQ.lift (fun _ zn => X_mrk (id := 2) (i := 0) (n := 24) (es := bs preB) (by kernel_rfl) (by kernel_rfl) rfl zn) ?_
  refine EvQ.lift (fun _ zn => X.bsl1 (id' := 3) (w := .hs 2 0 24) (by kernel_rfl) rfl rfl rfl (by kernel_rfl) zn) ?_
  refine EvQ.run ?_
  refine EvQ.loop (key _ ?_ _ ?_) ?_
  · rfl
  · exact X.kv
  rintro _ ⟨tm, lo, hp, rfl, -⟩
  repeat (first | refine EvQ.run ?_ | refine EvQ.lift (fun _ zn => X.pcall (ru) X.cq rfl X.al rfl zn) ?_ | refine EvQ.lift (fun _ zn => X.pcallG (ru) rfl X.cq rfl X.al rfl zn) ?_ | refine EvQ.lift (fun _ zn => X.pcallC (ru) rfl X.cq rfl X.al rfl zn) ?_ | refine EvQ.lift (fun _ zn => X.pcallT (ru) (by decide) X.cq rfl X.al rfl zn) ?_ | refine EvQ.lift (fun _ zn => X.call rfl X.al (ru) zn) ?_ | refine EvQ.fin X.rs ?_ | refine EvQ.fin1 (fun _ => rfl) rfl ?_)
  exact ⟨_, rfl⟩
set_option maxHeartbeats 32000000 in
theorem reads_tt (most : Int) (l : List (List Int)) (hm1 : 16384 ≤ most) (hm2 : most ≤ 16777215) (hll : l.length ≤ 2000000) (hlb : ∀ b, b ∈ l → Bytes b ∧ b.length ≤ 10000000) : ∃ h, EvD F (stepD d5 [.it .i64 most, .bo true, .bo true, .vs 1 (pcs l)] h0) (Rt (.bo true) h) := by
  have ru := runs_ok
  have hpn := pcs_length l
  refine EvQ.law ?_
  have nk := new_okT most hm1 hm2
  have key := loop_s (most := most) (pr := true) hll hlb
  rw [hT_eq] at key
  repeat (first | refine EvQ.run ?_ | refine EvQ.lift (fun _ zn => X.pcall (nk) X.cq rfl X.al rfl zn) ?_ | refine EvQ.lift (fun _ zn => X.pcallG (nk) rfl X.cq rfl X.al rfl zn) ?_ | refine EvQ.lift (fun _ zn => X.pcallC (nk) rfl X.cq rfl X.al rfl zn) ?_ | refine EvQ.lift (fun _ zn => X.pcallT (nk) (by decide) X.cq rfl X.al rfl zn) ?_ | refine EvQ.lift (fun _ zn => X.call rfl X.al (nk) zn) ?_ | refine EvQ.lift (fun _ zn => X.pcall (ru) X.cq rfl X.al rfl zn) ?_ | refine EvQ.lift (fun _ zn => X.pcallG (ru) rfl X.cq rfl X.al rfl zn) ?_ | refine EvQ.lift (fun _ zn => X.pcallC (ru) rfl X.cq rfl X.al rfl zn) ?_ | refine EvQ.lift (fun _ zn => X.pcallT (ru) (by decide) X.cq rfl X.al rfl zn) ?_ | refine EvQ.lift (fun _ zn => X.call rfl X.al (ru) zn) ?_ | refine EvQ.fin X.rs ?_ | refine EvQ.fin1 (fun _ => rfl) rfl ?_)
  refine EvQ.lift (fun _ zn => X.bsl (es' := bs preB) (id' := 2) (by kernel_rfl) (by kernel_rfl) zn) ?_
  refine EvQ.lift (fun _ zn => X_mrk (id := 2) (i := 0) (n := 24) (es := bs preB) (by kernel_rfl) (by kernel_rfl) rfl zn) ?_
  refine EvQ.lift (fun _ zn => X.bsl1 (id' := 3) (w := .hs 2 0 24) (by kernel_rfl) rfl rfl rfl (by kernel_rfl) zn) ?_
  refine EvQ.run ?_
  refine EvQ.loop (key _ ?_ _ ?_) ?_
  · rfl
  · exact X.kv
  rintro _ ⟨tm, lo, hp, rfl, -⟩
  repeat (first | refine EvQ.run ?_ | refine EvQ.lift (fun _ zn => X.pcall (ru) X.cq rfl X.al rfl zn) ?_ | refine EvQ.lift (fun _ zn => X.pcallG (ru) rfl X.cq rfl X.al rfl zn) ?_ | refine EvQ.lift (fun _ zn => X.pcallC (ru) rfl X.cq rfl X.al rfl zn) ?_ | refine EvQ.lift (fun _ zn => X.pcallT (ru) (by decide) X.cq rfl X.al rfl zn) ?_ | refine EvQ.lift (fun _ zn => X.call rfl X.al (ru) zn) ?_ | refine EvQ.fin X.rs ?_ | refine EvQ.fin1 (fun _ => rfl) rfl ?_)
  exact ⟨_, rfl⟩
theorem reads_run (most : Int) (pr sy : Bool) (l : List (List Int)) (hll : l.length ≤ 2000000) (hlb : ∀ b, b ∈ l → Bytes b ∧ b.length ≤ 10000000) : ∃ h, EvD F (stepD d5 [.it .i64 most, .bo pr, .bo sy, .vs 1 (pcs l)] h0) (Rt (.bo true) h) := by
  by_cases hm : most < 16384 ∨ 16777215 < most
  · exact reads_bad most pr sy l hm hll hlb
  · cases pr <;> cases sy
    · exact reads_ff most l (by omega) (by omega) hll hlb
    · exact reads_ft most l (by omega) (by omega) hll hlb
    · exact reads_tf most l (by omega) (by omega) hll hlb
    · exact reads_tt most l (by omega) (by omega) hll hlb
end Go.Proofs.Ytgofadnggipkpaa.rf
