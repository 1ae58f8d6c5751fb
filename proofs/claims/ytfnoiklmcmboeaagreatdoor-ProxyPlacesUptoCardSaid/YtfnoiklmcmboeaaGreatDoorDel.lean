import Derived.Test.YtfnoiklmcmboeaaGreatDoorGl
import Derived.Test.YtfnoiklmcmboeaaGreatDoorEvF
import Derived.Test.YtfnoiklmcmboeaaGreatDoorProg
import Derived.Shelf.Slices.Delete
import Derived.KernelRfl
set_option linter.unusedVariables false
set_option linter.unusedSimpArgs false
set_option linter.unusedSectionVars false
set_option linter.unusedVariables false
set_option linter.unusedSimpArgs false
-- slices.Delete at this seat's elements, walked
namespace Go.Proofs.YtfnoiklmcmboeaaGreatDoor.del
open Go Go.Shelf Go.RowKit Go.Lib
theorem mixedP : Tryz.prog.follows .mixedOrders = true := by kernel_rfl
set_option maxHeartbeats 4000000 in
set_option maxRecDepth 1000000 in
theorem del_real : Ev.DelReal Tryz.prog 283 12 := by
 intro b off n c i j cs w hij hj hc hn hcl hcs hfz h1
 simp only [Ev.ad] at hcs hfz ⊢
 simp only [Int.ofNat_eq_natCast]
 have mixed := mixedP
 have t0 := Tryz.underlying0; have a0 := Tryz.isAgg0; have z0 := Tryz.sizeOf0; have v0 := Tryz.zeroValue0; have t3 := Tryz.underlying3; have a3 := Tryz.isAgg3; have z3 := Tryz.sizeOf3; have v3 := Tryz.zeroValue3; have t4 := Tryz.underlying4; have a4 := Tryz.isAgg4; have z4 := Tryz.sizeOf4; have v4 := Tryz.zeroValue4
 have t166 := Tryz.underlying166; have a166 := Tryz.isAgg166; have z166 := Tryz.sizeOf166; have v166 := Tryz.zeroValue166; have t153 := Tryz.underlying153; have a153 := Tryz.isAgg153; have z153 := Tryz.sizeOf153; have v153 := Tryz.zeroValue153
 obtain ⟨i0, hi0, hz1⟩ : ∃ i0, Tryz.prog.info? 166 = some i0 /\ i0.size = 12 := ⟨_, rfl, rfl⟩
 obtain ⟨news, hnews⟩ : ∃ news, news = cs.drop (j * 12) := ⟨_, rfl⟩
 have hlen : news.length = (n - j) * 12 := by rw [hnews, List.length_drop, hcl, Nat.sub_mul]
 have hex : ∀ k, k < n * 12 -> (w.cell? ⟨b, off + k, none⟩).isSome = true := fun k hk => by
  rw [hcs k _ (List.getElem?_eq_getElem (by omega))]; rfl
 obtain ⟨A, hA, hsrc⟩ : ∃ A : Addr, (if c = j then some (⟨b, off, none⟩ : Addr) else some ⟨b, off + j * 12, none⟩) = some A /\ Hid (∀ t u, news[t]? = some u -> w.drew.cell? (A.add t) = some u) := by
  by_cases h : c = j
  ·refine ⟨⟨b, off, none⟩, by simp [h], fun t u hu => ?_⟩
   have h0 : news.length = 0 := by rw [hlen]; omega
   rw [List.length_eq_zero_iff.1 h0] at hu
   simp at hu
  ·refine ⟨⟨b, off + j * 12, none⟩, by simp [h], fun t u hu => ?_⟩
   rw [hnews, List.getElem?_drop] at hu
   have := hcs _ u hu
   rw [Addr.add_lit, Nat.add_assoc]
   exact this
 have s1 : Hid (news.length = (n - j) * 12) := hlen
 have s2 : Hid (∀ u ∈ news, u.oneCell' = true) := fun u hu => h1 u (by rw [hnews] at hu; exact List.mem_of_mem_drop hu)
 have s3 : Hid (∀ t, t < news.length -> (w.drew.cell? ⟨b, off + i * 12 + t, none⟩).isSome = true /\ w.drew.frozen? ⟨b, off + i * 12 + t, none⟩ = false) := by
  intro t ht
  rw [hlen] at ht
  rw [Nat.add_assoc]
  have hb : i * 12 + t < n * 12 := by have := Nat.mul_le_mul_right 12 hij; omega
  exact ⟨hex _ hb, hfz _ hb⟩
 obtain ⟨W1, hW1⟩ : ∃ W1, W1 = w.drew.setCells b (off + i * 12) news := ⟨_, rfl⟩
 have hex1 : ∀ k, k < n * 12 -> (W1.cell? ⟨b, off + k, none⟩).isSome = true := fun k hk => by
  rw [hW1]
  exact isSome_setCells b _ _ _ (fun t ht => (s3 t ht).1) _ (hex k hk)
 have hfz1 : ∀ k, k < n * 12 -> W1.frozen? ⟨b, off + k, none⟩ = false := fun k hk => by
  rw [hW1, World.frozen?_setCells]; exact hfz k hk
 have hcl : ∀ ty, (Builtin.clear_ #[153] ty #[.slice (some ⟨b, off + (i + (n - j)) * 12, none⟩) (n - (i + (n - j))) (c - (i + (n - j)))]).run Tryz.prog W1 = .ok (.tuple #[]) (Ev.setCs W1 b (off + (i + (n - j)) * 12) (Builtin.zeroCells _ (n - (i + (n - j)))).toList) :=
  fun ty => Ev.run_clear_gen W1 153 166 ty _ 12 t153 v166 rfl (by decide) (by decide) b _ _ _ (by omega) (fun t ht => by rw [Nat.add_assoc]; exact hex1 _ (by have := Nat.mul_le_mul_right 12 (show i + (n - j) + (n - (i + (n - j))) <= n by omega); rw [Nat.add_mul] at this; omega)) (fun t ht => by rw [Nat.add_assoc]; exact hfz1 _ (by have := Nat.mul_le_mul_right 12 (show i + (n - j) + (n - (i + (n - j))) <= n by omega); rw [Nat.add_mul] at this; omega))
 have hW : Hid (W1 = w.drew.setCells b (off + i * 12) news) := hW1
 have hN : Hid (news = cs.drop (j * 12)) := hnews
 have hic : i <= c := by omega
 have hjc : j <= c := by omega
 have hne : i ≠ j := by omega
 clear hW1 hcs hfz hnews hlen hex hex1 hfz1
 go_enter Tryz.func283, Tryz.ntmps283
 go_wp2_with fail
 go_region_law_o (refine step_append_room rfl (.tmp 22) (.tmp 25) 153 rfl 166 i0 12 t153 hi0 hz1 b off i c (by simp [Act.eval, Act.put]) A (n - j) (c - j) news (by simp [Act.eval, Act.put]) s1.out hsrc.out s2.out (by omega) s3.out ?_; rw [<- hW.out])
 go_wp2
 go_ret
 have en : n - (j - i) = i + (n - j) := by omega
 refine ⟨by rw [en]; rfl, w.drew, _, ⟨rfl, rfl, rfl⟩, ?_, by rw [hW.out, hN.out, <- Ev.setCs_eq, en]⟩
 rw [Array.length_toList, Ev.zeroCells_size, show n - (i + (n - j)) = j - i by omega]; rfl
def fn283 : Ev.Fn := Ev.delFn 12
theorem del_run (call : Ev.Call) (L : Nat) : Ev.RunOK Tryz.prog call L 283 (Ev.delFn 12) := Ev.delete_ok (by decide) ⟨_, Tryz.func283, by decide +kernel, by kernel_rfl⟩ del_real call L
end Go.Proofs.YtfnoiklmcmboeaaGreatDoor.del
