import Derived.Test.YtpncefcicfhibaaGreatDoorTabx2
import Derived.Test.YtpncefcicfhibaaGreatDoorEvD
/- a server that has heard a client's beginning, as it lies in memory -/
set_option linter.unusedVariables false
set_option linter.unusedSimpArgs false
namespace Go.Proofs.YtpncefcicfhibaaGreatDoor.back
open Go hiding Fn
open Ev tab
def stat : V := (.vs 2 [[(.st [58, 97, 117, 116, 104, 111, 114, 105, 116, 121]), (.st [])], [(.st [58, 109, 101, 116, 104, 111, 100]), (.st [71, 69, 84])], [(.st [58, 109, 101, 116, 104, 111, 100]), (.st [80, 79, 83, 84])], [(.st [58, 112, 97, 116, 104]), (.st [47])], [(.st [58, 112, 97, 116, 104]), (.st [47, 105, 110, 100, 101, 120, 46, 104, 116, 109, 108])], [(.st [58, 115, 99, 104, 101, 109, 101]), (.st [104, 116, 116, 112])], [(.st [58, 115, 99, 104, 101, 109, 101]), (.st [104, 116, 116, 112, 115])], [(.st [58, 115, 116, 97, 116, 117, 115]), (.st [50, 48, 48])], [(.st [58, 115, 116, 97, 116, 117, 115]), (.st [50, 48, 52])], [(.st [58, 115, 116, 97, 116, 117, 115]), (.st [50, 48, 54])], [(.st [58, 115, 116, 97, 116, 117, 115]), (.st [51, 48, 52])], [(.st [58, 115, 116, 97, 116, 117, 115]), (.st [52, 48, 48])], [(.st [58, 115, 116, 97, 116, 117, 115]), (.st [52, 48, 52])], [(.st [58, 115, 116, 97, 116, 117, 115]), (.st [53, 48, 48])], [(.st [97, 99, 99, 101, 112, 116, 45, 99, 104, 97, 114, 115, 101, 116]), (.st [])], [(.st [97, 99, 99, 101, 112, 116, 45, 101, 110, 99, 111, 100, 105, 110, 103]), (.st [103, 122, 105, 112, 44, 32, 100, 101, 102, 108, 97, 116, 101])], [(.st [97, 99, 99, 101, 112, 116, 45, 108, 97, 110, 103, 117, 97, 103, 101]), (.st [])], [(.st [97, 99, 99, 101, 112, 116, 45, 114, 97, 110, 103, 101, 115]), (.st [])], [(.st [97, 99, 99, 101, 112, 116]), (.st [])], [(.st [97, 99, 99, 101, 115, 115, 45, 99, 111, 110, 116, 114, 111, 108, 45, 97, 108, 108, 111, 119, 45, 111, 114, 105, 103, 105, 110]), (.st [])], [(.st [97, 103, 101]), (.st [])], [(.st [97, 108, 108, 111, 119]), (.st [])], [(.st [97, 117, 116, 104, 111, 114, 105, 122, 97, 116, 105, 111, 110]), (.st [])], [(.st [99, 97, 99, 104, 101, 45, 99, 111, 110, 116, 114, 111, 108]), (.st [])], [(.st [99, 111, 110, 116, 101, 110, 116, 45, 100, 105, 115, 112, 111, 115, 105, 116, 105, 111, 110]), (.st [])], [(.st [99, 111, 110, 116, 101, 110, 116, 45, 101, 110, 99, 111, 100, 105, 110, 103]), (.st [])], [(.st [99, 111, 110, 116, 101, 110, 116, 45, 108, 97, 110, 103, 117, 97, 103, 101]), (.st [])], [(.st [99, 111, 110, 116, 101, 110, 116, 45, 108, 101, 110, 103, 116, 104]), (.st [])], [(.st [99, 111, 110, 116, 101, 110, 116, 45, 108, 111, 99, 97, 116, 105, 111, 110]), (.st [])], [(.st [99, 111, 110, 116, 101, 110, 116, 45, 114, 97, 110, 103, 101]), (.st [])], [(.st [99, 111, 110, 116, 101, 110, 116, 45, 116, 121, 112, 101]), (.st [])], [(.st [99, 111, 111, 107, 105, 101]), (.st [])], [(.st [100, 97, 116, 101]), (.st [])], [(.st [101, 116, 97, 103]), (.st [])], [(.st [101, 120, 112, 101, 99, 116]), (.st [])], [(.st [101, 120, 112, 105, 114, 101, 115]), (.st [])], [(.st [102, 114, 111, 109]), (.st [])], [(.st [104, 111, 115, 116]), (.st [])], [(.st [105, 102, 45, 109, 97, 116, 99, 104]), (.st [])], [(.st [105, 102, 45, 109, 111, 100, 105, 102, 105, 101, 100, 45, 115, 105, 110, 99, 101]), (.st [])], [(.st [105, 102, 45, 110, 111, 110, 101, 45, 109, 97, 116, 99, 104]), (.st [])], [(.st [105, 102, 45, 114, 97, 110, 103, 101]), (.st [])], [(.st [105, 102, 45, 117, 110, 109, 111, 100, 105, 102, 105, 101, 100, 45, 115, 105, 110, 99, 101]), (.st [])], [(.st [108, 97, 115, 116, 45, 109, 111, 100, 105, 102, 105, 101, 100]), (.st [])], [(.st [108, 105, 110, 107]), (.st [])], [(.st [108, 111, 99, 97, 116, 105, 111, 110]), (.st [])], [(.st [109, 97, 120, 45, 102, 111, 114, 119, 97, 114, 100, 115]), (.st [])], [(.st [112, 114, 111, 120, 121, 45, 97, 117, 116, 104, 101, 110, 116, 105, 99, 97, 116, 101]), (.st [])], [(.st [112, 114, 111, 120, 121, 45, 97, 117, 116, 104, 111, 114, 105, 122, 97, 116, 105, 111, 110]), (.st [])], [(.st [114, 97, 110, 103, 101]), (.st [])], [(.st [114, 101, 102, 101, 114, 101, 114]), (.st [])], [(.st [114, 101, 102, 114, 101, 115, 104]), (.st [])], [(.st [114, 101, 116, 114, 121, 45, 97, 102, 116, 101, 114]), (.st [])], [(.st [115, 101, 114, 118, 101, 114]), (.st [])], [(.st [115, 101, 116, 45, 99, 111, 111, 107, 105, 101]), (.st [])], [(.st [115, 116, 114, 105, 99, 116, 45, 116, 114, 97, 110, 115, 112, 111, 114, 116, 45, 115, 101, 99, 117, 114, 105, 116, 121]), (.st [])], [(.st [116, 114, 97, 110, 115, 102, 101, 114, 45, 101, 110, 99, 111, 100, 105, 110, 103]), (.st [])], [(.st [117, 115, 101, 114, 45, 97, 103, 101, 110, 116]), (.st [])], [(.st [118, 97, 114, 121]), (.st [])], [(.st [118, 105, 97]), (.st [])], [(.st [119, 119, 119, 45, 97, 117, 116, 104, 101, 110, 116, 105, 99, 97, 116, 101]), (.st [])]])
def hpR : Hp := ⟨32, 0,
  (.n (some ⟨26, false, [[(.bo true), (.it .i64 2), (.it .i64 65535), (.it .i64 65536), (.it .i64 4096), (.it .i64 2147483647), (.it .i64 65535), (.it .i64 16384), (.it .i64 2147483647), (.pt 1 0 0), (.pt 3 0 0), (.pt 5 0 0), (.hs 28 0 13), (.it .i64 65535), (.it .i64 65535), (.hs 25 0 0), (.it .i64 1), (.it .i64 1), (.hs 30 0 1), (.it .i64 0), (.bo false), .ns, (.bo true), (.bo false), (.bo false), .ns]]⟩)
  (.n (some ⟨6, false, [[(.it .i64 16384), (.st []), (.hs 14 10 0), (.it .i64 0), (.it .i64 0), (.it .i64 0)]]⟩)
  (.n (some ⟨4, false, [[(.pt 2 0 0), (.it .i64 4096), (.it .i64 65536), (.bo false)]]⟩)
  (.n none
  (.n (some ⟨1, true, [[(.it .u8 130)]]⟩)
  (.n (some ⟨1, false, [[(.it .i64 1)]]⟩) .e .e) .e)
  (.n (some ⟨6, false, [[(.it .i64 1), (.it .i64 1), (.it .i64 65535), (.it .i64 65535), (.bo true), (.bo false)]]⟩) .e .e))
  (.n (some ⟨4, false, [[(.it .i64 4), (.it .i64 0), (.it .i64 0), .ns]]⟩)
  (.n (some ⟨6, false, [[(.pt 3 0 0), (.vs 1 [[(.it .u8 130)]]), (.it .i64 1), (.hs 21 0 1), (.it .i64 42), (.it .i64 0)]]⟩) .e .e)
  (.n (some ⟨6, false, [[(.it .i64 1), (.it .i64 1), (.hs 22 0 1), (.st []), (.bo false), (.it .i64 0)]]⟩) .e .e)))
  (.n (some ⟨3, false, [[(.pt 4 0 0), (.bo true), (.it .i64 0)]]⟩)
  (.n (some ⟨1, false, [[(.it .u8 0)], [(.it .u8 0)], [(.it .u8 0)], [(.it .u8 4)], [(.it .u8 0)], [(.it .u8 0)], [(.it .u8 0)], [(.it .u8 0)], [(.it .u8 0)]]⟩)
  (.n (some ⟨4, false, [[(.it .i64 1), (.it .i64 4), (.it .i64 1), (.hs 15 0 1)]]⟩) .e .e)
  (.n (some ⟨1, false, [[.np]]⟩) .e .e))
  (.n (some ⟨1, false, [[(.it .u8 0)], [(.it .u8 0)], [(.it .u8 18)], [(.it .u8 4)], [(.it .u8 0)], [(.it .u8 0)], [(.it .u8 0)], [(.it .u8 0)], [(.it .u8 0)], [(.it .u8 0)], [(.it .u8 3)], [(.it .u8 0)], [(.it .u8 0)], [(.it .u8 0)], [(.it .u8 2)], [(.it .u8 0)], [(.it .u8 4)], [(.it .u8 0)], [(.it .u8 0)], [(.it .u8 255)], [(.it .u8 255)], [(.it .u8 0)], [(.it .u8 6)], [(.it .u8 0)], [(.it .u8 1)], [(.it .u8 0)], [(.it .u8 0)], [(.it .u8 0)], [(.it .u8 0)], [(.it .u8 0)], [(.it .u8 4)], [(.it .u8 1)], [(.it .u8 0)], [(.it .u8 0)], [(.it .u8 0)], [(.it .u8 0)]]⟩)
  (.n (some ⟨3, false, [[(.st [58, 109, 101, 116, 104, 111, 100]), (.st [71, 69, 84]), (.it .i64 1)]]⟩) .e .e)
  (.n (some ⟨1, false, [[(.it .i64 1)]]⟩) .e .e))))
  (.n (some ⟨4, false, [[.ns, stat, (.it .i64 0), (.it .i64 4096)]]⟩)
  (.n (some ⟨4, false, [[.ns, stat, (.it .i64 0), (.it .i64 4096)]]⟩)
  (.n (some ⟨1, false, [[(.it .u8 80)], [(.it .u8 82)], [(.it .u8 73)], [(.it .u8 32)], [(.it .u8 42)], [(.it .u8 32)], [(.it .u8 72)], [(.it .u8 84)], [(.it .u8 84)], [(.it .u8 80)], [(.it .u8 47)], [(.it .u8 50)], [(.it .u8 46)], [(.it .u8 48)], [(.it .u8 13)], [(.it .u8 10)], [(.it .u8 13)], [(.it .u8 10)], [(.it .u8 83)], [(.it .u8 77)], [(.it .u8 13)], [(.it .u8 10)], [(.it .u8 13)], [(.it .u8 10)], [(.it .u8 0)], [(.it .u8 0)], [(.it .u8 0)], [(.it .u8 4)], [(.it .u8 0)], [(.it .u8 0)], [(.it .u8 0)], [(.it .u8 0)], [(.it .u8 0)]]⟩)
  (.n (some ⟨4, false, [[(.it .i64 1), (.it .i64 4), (.it .i64 1), (.hs 15 0 1)]]⟩) .e .e)
  (.n (some ⟨1, false, [[(.pt 23 0 0)]]⟩) .e .e))
  (.n (some ⟨1, false, [[(.it .u8 0)], [(.it .u8 0)], [(.it .u8 18)], [(.it .u8 4)], [(.it .u8 0)], [(.it .u8 0)], [(.it .u8 0)], [(.it .u8 0)], [(.it .u8 0)], [(.it .u8 0)], [(.it .u8 3)], [(.it .u8 0)], [(.it .u8 0)], [(.it .u8 0)], [(.it .u8 2)], [(.it .u8 0)], [(.it .u8 4)], [(.it .u8 0)], [(.it .u8 0)], [(.it .u8 255)], [(.it .u8 255)], [(.it .u8 0)], [(.it .u8 6)], [(.it .u8 0)], [(.it .u8 1)], [(.it .u8 0)], [(.it .u8 0)], [(.it .u8 0)], [(.it .u8 0)], [(.it .u8 0)], [(.it .u8 4)], [(.it .u8 1)], [(.it .u8 0)], [(.it .u8 0)], [(.it .u8 0)], [(.it .u8 0)]]⟩)
  (.n (some ⟨1, false, [[(.pt 19 0 0)]]⟩) .e .e)
  (.n (some ⟨1, false, [[(.it .u8 0)], [(.it .u8 0)], [(.it .u8 4)], [(.it .u8 3)], [(.it .u8 0)], [(.it .u8 0)], [(.it .u8 0)], [(.it .u8 0)], [(.it .u8 1)], [(.it .u8 0)], [(.it .u8 0)], [(.it .u8 0)], [(.it .u8 8)]]⟩) .e .e)))
  (.n none
  (.n (some ⟨4, false, [[(.it .i64 4), (.it .i64 0), (.it .i64 0), .ns]]⟩)
  (.n (some ⟨1, false, [[(.vs 1 [[(.it .u8 130)]])]]⟩) .e .e)
  (.n (some ⟨6, false, [[(.it .i64 1), (.it .i64 1), (.hs 22 0 1), (.st []), (.bo false), (.it .i64 0)]]⟩) .e .e))
  (.n (some ⟨1, false, [[(.it .u8 0)], [(.it .u8 0)], [(.it .u8 1)], [(.it .u8 1)], [(.it .u8 4)], [(.it .u8 0)], [(.it .u8 0)], [(.it .u8 0)], [(.it .u8 1)], [(.it .u8 130)]]⟩)
  (.n (some ⟨2, false, [[(.st [58, 109, 101, 116, 104, 111, 100]), (.st [71, 69, 84])]]⟩) .e .e)
  (.n (some ⟨1, false, [[(.it .i64 1)]]⟩) .e .e)))))⟩
abbrev cfg : V := .ag [.it .i64 2, .it .i64 65535, .it .i64 65536]
def hpC : CR → Hp
  | .ret _ hp => hp
  | _ => h0
abbrev fr1 : V := .ag [.it .i64 1, .it .i64 4, .it .i64 1, .vs 1 [[.it .u8 130]]]
abbrev by1 : V := .vs 1 [[.it .u8 0], [.it .u8 0], [.it .u8 1], [.it .u8 1], [.it .u8 4], [.it .u8 0], [.it .u8 0], [.it .u8 0], [.it .u8 1], [.it .u8 130]]
def hpA : Hp := hpC (callF F 3000 100 false 23 [cfg] h0)
def hpH : Hp := hpC (callF F 3000 100 false 17 [.pt 0 0 0, by1] hpA)
theorem kb (N M : Nat) : callF F (N + 3000) (M + 100) false 11 [] h0 = .ret cfg h0 ∧ callF F (N + 3000) (M + 100) false 23 [cfg] h0 = .ret (.pt 0 0 0) hpA ∧ callF F (N + 3000) (M + 100) false 24 [.ns, fr1] hpA = .ret by1 hpA ∧
    callF F (N + 3000) (M + 100) false 17 [.pt 0 0 0, by1] hpA = .ret (.hs 27 0 1) hpH ∧ callF F (N + 3000) (M + 100) false 26 [.pt 0 0 0, .it .i64 1, .it .i64 8] hpH = .ret (.bo true) hpR := ⟨by kernel_rfl, by kernel_rfl, by kernel_rfl, by kernel_rfl, by kernel_rfl⟩
theorem own_ok : EvC F false 11 [] h0 (.ret cfg h0) := .kern 3000 100 fun N M => (kb N M).1
theorem new_ok : EvC F false 23 [cfg] h0 (.ret (.pt 0 0 0) hpA) := .kern 3000 100 fun N M => (kb N M).2.1
theorem put1_ok : EvC F false 24 [.ns, fr1] hpA (.ret by1 hpA) := .kern 3000 100 fun N M => (kb N M).2.2.1
theorem head_ok : EvC F false 17 [.pt 0 0 0, by1] hpA (.ret (.hs 27 0 1) hpH) := .kern 3000 100 fun N M => (kb N M).2.2.2.1
theorem reset_ok : EvC F false 26 [.pt 0 0 0, .it .i64 1, .it .i64 8] hpH (.ret (.bo true) hpR) := .kern 3000 100 fun N M => (kb N M).2.2.2.2
theorem cr_ok (hp : Hp) : EvC F false 3 [] hp (.ret (.bo true) hp) := ⟨3100, fun L n hL hn => by
  obtain ⟨m, rfl⟩ : ∃ m, n = m + 100 := ⟨n - 100, by omega⟩
  obtain ⟨k, rfl⟩ : ∃ k, L = k + 3000 := ⟨L - 3000, by omega⟩
  have hF : F 3 = some c3 := rfl
  have hm : c3.md = .pure := rfl
  have hc : closeAll c3.ps [] hp = some ([], hp) := rfl
  have crR : yes (runF (callF F (k + 3000) (m + 99)) (k + 3000) c3 [] h0) = true := by kernel_rfl
  obtain ⟨hp', hr⟩ := yes_ret crR
  show callF F (k + 3000) (m + 99 + 1) false 3 [] hp = _
  generalize m + 99 = q at hr ⊢
  simp only [callF, hF, hm, runP, hc, hr]
  rfl⟩

/-- the numbers at which something lies -/
def keys : Tr → List Nat
  | .e => []
  | .n b l r => (match b with | some _ => [0] | none => []) ++ (keys l).map (fun k => 2 * k + 1) ++ (keys r).map (fun k => 2 * k + 2)
theorem keys_of : ∀ (t : Tr) (j : Nat) (b : Bk), t.get j = some b → j ∈ keys t := by
  intro t
  induction t with
  | e => intro j b h; cases h
  | n x l r ihl ihr =>
    intro j b h
    unfold Tr.get at h
    simp only [keys, List.mem_append, List.mem_map]
    by_cases h0 : j = 0
    · subst h0
      have h : x = some b := h
      subst h
      exact .inl (.inl (by simp))
    · have e0 : Nat.beq j 0 = false := by cases j with
        | zero => exact absurd rfl h0
        | succ j => rfl
      rw [e0, cond_false] at h
      by_cases h1 : j % 2 = 1
      · rw [h1, show Nat.beq 1 1 = true from rfl, cond_true] at h
        exact .inl (.inr ⟨j / 2, ihl _ _ h, by omega⟩)
      · have h2 : j % 2 = 0 := by omega
        rw [h2, show Nat.beq 0 1 = false from rfl, cond_false] at h
        exact .inr ⟨j / 2 - 1, ihr _ _ h, by omega⟩
theorem keysR : ∀ k, k ∈ keys hpR.tr → k < 32 := by
  have : (keys hpR.tr).all (fun k => Nat.blt k 32) = true := by kernel_rfl
  intro k hk
  have := List.all_eq_true.1 this k hk
  have : Nat.ble (k + 1) 32 = true := this
  exact Nat.le_of_ble_eq_true this
theorem rowR0 : hget hpR 0 = some ⟨26, false, [[.bo true, .it .i64 2, .it .i64 65535, .it .i64 65536, .it .i64 4096, .it .i64 2147483647, .it .i64 65535, .it .i64 16384, .it .i64 2147483647, .pt 1 0 0, .pt 3 0 0, .pt 5 0 0, .hs 28 0 13, .it .i64 65535, .it .i64 65535, .hs 25 0 0, .it .i64 1, .it .i64 1, .hs 30 0 1, .it .i64 0, .bo false, .ns, .bo true, .bo false, .bo false, .ns]]⟩ := by kernel_rfl
theorem readR : hget hpR 1 = some ⟨6, false, [[.it .i64 16384, .st [], .hs 14 10 0, .it .i64 0, .it .i64 0, .it .i64 0]]⟩ := by kernel_rfl
theorem restR : hget hpR 14 = some ⟨1, false, [[.it .u8 0], [.it .u8 0], [.it .u8 1], [.it .u8 1], [.it .u8 4], [.it .u8 0], [.it .u8 0], [.it .u8 0], [.it .u8 1], [.it .u8 130]]⟩ := by kernel_rfl
theorem queueR : hget hpR 28 = some ⟨1, false, [[.it .u8 0], [.it .u8 0], [.it .u8 4], [.it .u8 3], [.it .u8 0], [.it .u8 0], [.it .u8 0], [.it .u8 0], [.it .u8 1], [.it .u8 0], [.it .u8 0], [.it .u8 0], [.it .u8 8]]⟩ := by kernel_rfl
theorem muteR : hget hpR 30 = some ⟨1, false, [[.it .i64 1]]⟩ := by kernel_rfl
end Go.Proofs.YtpncefcicfhibaaGreatDoor.back
