import Derived.Test.YtpncefcicfhibaaGreatDoorGl
import Derived.Test.YtpncefcicfhibaaGreatDoorEvF
import Derived.Test.YtpncefcicfhibaaGreatDoorProg
import Derived.Shelf.Slices.Delete
import Derived.Shelf.Spec.SlicesInsertGrow
import Derived.KernelRfl
set_option linter.unusedVariables false
set_option linter.unusedSimpArgs false
set_option linter.unusedSectionVars false
set_option linter.unusedVariables false
set_option linter.unusedSimpArgs false
-- slices.Insert at this seat's elements, walked
namespace Go.Proofs.YtpncefcicfhibaaGreatDoor
open Go Go.Shelf Go.RowKit Go.Lib
theorem mixedP : Tryz.prog.follows .mixedOrders = true := by kernel_rfl
set_option maxHeartbeats 4000000 in
set_option maxRecDepth 1000000 in
theorem ins_shift (b off n c i vb voff vc : Nat) (cs vs : List Value) (w : World) (hi : i < n) (hroom : n + 1 ≤ c) (hn : n + 1 ≤ 140737488355328) (hvb : b ≠ vb)
    (hcl : cs.length = n * 2) (hvl : vs.length = 2)
    (hcs : ∀ j v, cs[j]? = some v → w.cell? ⟨b, off + j, none⟩ = some v) (hsp : ∀ j, j < (n + 1) * 2 → (w.cell? ⟨b, off + j, none⟩).isSome = true) (hfz : ∀ j, j < (n + 1) * 2 → w.frozen? ⟨b, off + j, none⟩ = false)
    (hvs : ∀ j v, vs[j]? = some v → w.cell? ⟨vb, voff + j, none⟩ = some v) (h1c : ∀ v ∈ cs, v.oneCell' = true) (h1v : ∀ v ∈ vs, v.oneCell' = true)
    (tA tB : TypeId) (kA kB : Nat) (hsa : w.shape? vb = some (tA, kA)) (hsb : w.shape? b = some (tB, kB)) (hkB : kB ≠ 0) (hfa : w.frozen? ⟨vb, voff, none⟩ = false) (hfe : w.frozen? ⟨vb, kA, none⟩ = false) :
    Calls Tryz.prog 112 #[.slice (some ⟨b, off, none⟩) n c, .int .i64 i, .slice (some ⟨vb, voff, none⟩) 1 vc] w fun e w' =>
      e = .returned (.slice (some ⟨b, off, none⟩) (n + 1) c) ∧ w' = (w.drew.setCells b (off + (i + 1) * 2) (cs.drop (i * 2))).setCells b (off + i * 2) vs := by
  have mixed := mixedP
  have t0 := Tryz.underlying0; have a0 := Tryz.isAgg0; have z0 := Tryz.sizeOf0; have v0 := Tryz.zeroValue0; have t3 := Tryz.underlying3; have a3 := Tryz.isAgg3; have z3 := Tryz.sizeOf3; have v3 := Tryz.zeroValue3; have t4 := Tryz.underlying4; have a4 := Tryz.isAgg4; have z4 := Tryz.sizeOf4; have v4 := Tryz.zeroValue4
  have t37 := Tryz.underlying37; have a37 := Tryz.isAgg37; have z37 := Tryz.sizeOf37; have v37 := Tryz.zeroValue37; have t50 := Tryz.underlying50; have a50 := Tryz.isAgg50; have z50 := Tryz.sizeOf50; have v50 := Tryz.zeroValue50
  have u0 := run_underlying Tryz.underlying0; have u3 := run_underlying Tryz.underlying3; have u4 := run_underlying Tryz.underlying4; have u37 := run_underlying Tryz.underlying37; have u50 := run_underlying Tryz.underlying50
  have hz2 : ¬ ((i : Int) = (n : Int)) := by omega
  have hov : ∀ lb cb, (callFunc 131 #[.slice (some ⟨vb, voff, none⟩) 1 vc, .slice (some ⟨b, off + (i + 1) * 2, none⟩) lb cb]).run Tryz.prog w = .ok (.value (.bool false)) w := fun lb cb => by
    rw [run_callFunc_extern Tryz.func131 (by kernel_rfl) (by kernel_rfl) (by kernel_rfl) (e := Extern.SlicesOverlaps.overlaps #[50, 50] #[4]) (by kernel_rfl),
      Lib.run_overlaps_apart w 50 4 37 Tryz.underlying50 2 Tryz.sizeOf37 ⟨vb, voff, none⟩ ⟨b, off + (i + 1) * 2, none⟩ 1 vc lb cb (fun e => hvb e.symm) tA tB kA kB hsa hsb hkB hfa hfe]
    rfl
  have hdl : (cs.drop (i * 2)).length = (n - i) * 2 := by rw [List.length_drop, hcl, Nat.sub_mul]
  have hw1 : IntKind.i64.wrap ((i : Int) + (1 : Int)) = (i : Int) + (1 : Int) := by rw [IntKind.wrap_i64]; omega
  have hw2 : IntKind.i64.wrap ((n : Int) + (1 : Int)) = (n : Int) + (1 : Int) := by rw [IntKind.wrap_i64]; omega
  have hb1 : (0 : Int) ≤ (i : Int) + (1 : Int) := by omega
  have hin : i ≤ n := by omega
  have htn : ((i : Int) + (1 : Int)).toNat = i + 1 := by omega
  have hb2 : ¬ (c = i + 1) := by omega
  have hb3 : (i : Int) ≤ (n : Int) + (1 : Int) := by omega
  have hb4 : ¬ (c = i) := by omega
  have hmi := Nat.mul_le_mul_right 2 hi
  have hfc : ∀ (W : World), (∀ x, W.cell? x = w.cell? x) → (Builtin.firstCells 2 (n - i) (.slice (some ⟨b, off + i * 2, none⟩) (n + 1 - i) (c - i))).run Tryz.prog W = .ok (cs.drop (i * 2)).toArray W := fun W hW =>
    run_firstCells_some W 2 (n - i) ⟨b, off + i * 2, none⟩ _ _ _ hdl (fun j v hj => by
      rw [hW, Addr.add_lit, Nat.add_assoc]; rw [List.getElem?_drop] at hj; exact hcs _ v hj)
  have hcp1 : ∀ ty dc, (Builtin.copy_ #[50, 50] ty #[.slice (some ⟨b, off + (i + 1) * 2, none⟩) (n - i) dc, .slice (some ⟨b, off + i * 2, none⟩) (n + 1 - i) (c - i)]).run Tryz.prog w.drew = .ok (goInt (n - i : Nat)) (w.drew.setCells b (off + (i + 1) * 2) (cs.drop (i * 2))) := fun ty dc =>
    Ev.run_copy_gen w.drew 50 50 ty 37 2 t50 z37 b (off + (i + 1) * 2) _ dc _ _ _ (n - i) (by simp only [Nat.min_def]; split <;> omega) (cs.drop (i * 2)) (hfc w.drew (fun _ => rfl))
      (fun j hj => by rw [Nat.add_assoc]; exact hsp _ (by omega)) (fun j hj => by rw [Nat.add_assoc]; exact hfz _ (by omega)) (fun v hv => h1c v (List.mem_of_mem_drop hv))
  obtain ⟨W1, hW1⟩ : ∃ W1, W1 = w.drew.setCells b (off + (i + 1) * 2) (cs.drop (i * 2)) := ⟨_, rfl⟩
  have hsp1 : ∀ k, k < (n + 1) * 2 → (W1.cell? ⟨b, off + k, none⟩).isSome = true := fun k hk => by
    rw [hW1]
    exact isSome_setCells b _ _ _ (fun j hj => by rw [Nat.add_assoc]; exact hsp _ (by omega)) _ (hsp k hk)
  have hfv : ∀ (W : World), (∀ x, W.cell? x = W1.cell? x) → (Builtin.firstCells 2 1 (.slice (some ⟨vb, voff, none⟩) 1 vc)).run Tryz.prog W = .ok vs.toArray W := fun W hW =>
    run_firstCells_some W 2 1 ⟨vb, voff, none⟩ _ _ _ (by rw [hvl]) (fun j v hj => by
      rw [hW, Addr.add_lit, hW1, World.cell?_setCells_out b _ _ _ _ (fun h _ => absurd h.symm hvb)]; exact hvs j v hj)
  have hcp2 : ∀ (W : World), (∀ x, W.cell? x = W1.cell? x) → (∀ x, W.frozen? x = W1.frozen? x) → ∀ ty dc, (Builtin.copy_ #[50, 50] ty #[.slice (some ⟨b, off + i * 2, none⟩) (n + 1 - i) dc, .slice (some ⟨vb, voff, none⟩) 1 vc]).run Tryz.prog W = .ok (goInt (1 : Nat)) (W.setCells b (off + i * 2) vs) := fun W hWc hWf ty dc =>
    Ev.run_copy_gen W 50 50 ty 37 2 t50 z37 b (off + i * 2) _ dc _ _ _ 1 (by simp only [Nat.min_def]; split <;> omega) vs (hfv W hWc)
      (fun j hj => by rw [hWc, Nat.add_assoc]; exact hsp1 _ (by omega)) (fun j hj => by rw [hWf, hW1, World.frozen?_setCells, Nat.add_assoc]; exact hfz _ (by omega)) h1v
  rw [← hW1] at hcp1
  clear hfc hfv hsp hfz hcs hvs
  go_enter Tryz.func112, Tryz.ntmps112
  go_wp2_with (simp only [hov])
  go_region_law_o (refine step_copy_runI rfl _ _ 50 50 rfl _ _ (by simp [Act.eval, Act.put]) (by simp [Act.eval, Act.put]) (hcp1 _ _) ?_)
  go_wp2_with (at_builtin; refine wpList_copy_runI _ rfl _ _ 50 50 rfl _ _ rfl rfl (hcp2 _ (fun _ => rfl) (fun _ => rfl) _ _) ?_)
  go_ret
  first | exact ⟨rfl, rfl⟩ | exact ⟨rfl, by rw [hW1]⟩
theorem src_v (vb voff vc : Nat) (vs : List Value) (w : World) (hvl : vs.length = 2) (hvs : ∀ j v, vs[j]? = some v → w.cell? ⟨vb, voff + j, none⟩ = some v) (h1v : ∀ v ∈ vs, v.oneCell' = true) :
    Src Tryz.prog 2 50 (.slice (some ⟨vb, voff, none⟩) 1 vc) 1 vs w :=
  ⟨.inl ⟨37, Tryz.underlying50⟩, fun _ => rfl, run_firstCells_some w 2 1 ⟨vb, voff, none⟩ 1 vc vs (by rw [hvl]) (fun j v hj => by rw [Addr.add_lit]; exact hvs j v hj),
    run_firstCells_some w.drew 2 1 ⟨vb, voff, none⟩ 1 vc vs (by rw [hvl]) (fun j v hj => by rw [Addr.add_lit]; exact hvs j v hj), by rw [hvl], h1v⟩
set_option maxHeartbeats 4000000 in
set_option maxRecDepth 1000000 in
theorem ins_end_room (b off n c vb voff vc : Nat) (vs : List Value) (w : World) (hroom : n + 1 ≤ c)
    (hvl : vs.length = 2) (hsp : ∀ j, j < 2 → (w.cell? ⟨b, off + n * 2 + j, none⟩).isSome = true) (hfz : ∀ j, j < 2 → w.frozen? ⟨b, off + n * 2 + j, none⟩ = false)
    (hvs : ∀ j v, vs[j]? = some v → w.cell? ⟨vb, voff + j, none⟩ = some v) (h1v : ∀ v ∈ vs, v.oneCell' = true) :
    Calls Tryz.prog 112 #[.slice (some ⟨b, off, none⟩) n c, .int .i64 n, .slice (some ⟨vb, voff, none⟩) 1 vc] w fun e w' =>
      e = .returned (.slice (some ⟨b, off, none⟩) (n + 1) c) ∧ w' = w.setCells b (off + n * 2) vs := by
  have mixed := mixedP
  have t0 := Tryz.underlying0; have a0 := Tryz.isAgg0; have z0 := Tryz.sizeOf0; have v0 := Tryz.zeroValue0; have t3 := Tryz.underlying3; have a3 := Tryz.isAgg3; have z3 := Tryz.sizeOf3; have v3 := Tryz.zeroValue3; have t4 := Tryz.underlying4; have a4 := Tryz.isAgg4; have z4 := Tryz.sizeOf4; have v4 := Tryz.zeroValue4
  have t37 := Tryz.underlying37; have a37 := Tryz.isAgg37; have z37 := Tryz.sizeOf37; have v37 := Tryz.zeroValue37; have t50 := Tryz.underlying50; have a50 := Tryz.isAgg50; have z50 := Tryz.sizeOf50; have v50 := Tryz.zeroValue50
  have u0 := run_underlying Tryz.underlying0; have u3 := run_underlying Tryz.underlying3; have u4 := run_underlying Tryz.underlying4; have u37 := run_underlying Tryz.underlying37; have u50 := run_underlying Tryz.underlying50
  obtain ⟨i0, hi0, hz1⟩ : ∃ i0, Tryz.prog.info? 37 = some i0 ∧ i0.size = 2 := ⟨_, rfl, rfl⟩
  have hsrc := src_v vb voff vc vs w hvl hvs h1v
  have hrun : ∀ ty, (Builtin.append_ #[50, 50] ty #[.slice (some ⟨b, off, none⟩) n c, .slice (some ⟨vb, voff, none⟩) 1 vc]).run Tryz.prog w = .ok (.slice (some ⟨b, off, none⟩) (n + 1) c) (w.setCells b (off + n * 2) vs) := fun ty => by
    have := run_append_room_src (P := Tryz.prog) w 50 50 ty 37 i0 Tryz.underlying50 hi0 b off n c _ 1 vs (by rw [hz1]; exact hsrc) hroom (fun j hj => by rw [hz1]; exact hsp j (by omega)) (fun j hj => by rw [hz1]; exact hfz j (by omega))
    rw [hz1] at this; exact this
  clear hvs hsp hfz hsrc
  go_enter Tryz.func112, Tryz.ntmps112
  go_wp2_with (at_builtin; refine Lib.wpList_append_run _ rfl _ _ _ _ rfl _ _ rfl rfl _ _ (hrun _) ?_)
  go_ret
  exact ⟨rfl, rfl⟩
set_option maxHeartbeats 4000000 in
set_option maxRecDepth 1000000 in
theorem ins_end_grow (base : Option Addr) (n c vb voff vc : Nat) (cs vs : List Value) (w : World) (hnc : n ≤ c) (hroom : c < n + 1) (hn : n + 1 ≤ 140737488355328) (hbig : (n + 1) * 32 ≤ 140737488355328)
    (hcl : cs.length = n * 2) (hvl : vs.length = 2) (hnil : n ≠ 0 → base ≠ none)
    (hcs : ∀ a, base = some a → ∀ j v, cs[j]? = some v → w.cell? (a.add j) = some v)
    (hvs : ∀ j v, vs[j]? = some v → w.cell? ⟨vb, voff + j, none⟩ = some v) (h1v : ∀ v ∈ vs, v.oneCell' = true) :
    ∃ zs : Array Value, zs.size = (grownCap w (n + 1) c 37 - (n + 1)) * 2 ∧ Calls Tryz.prog 112 #[.slice base n c, .int .i64 n, .slice (some ⟨vb, voff, none⟩) 1 vc] w fun e w' =>
      e = .returned (.slice (some ⟨w.heap.size, 0, none⟩) (n + 1) (grownCap w (n + 1) c 37)) ∧
      w' = w.drew.alloc (.cells ((cs ++ vs).toArray ++ zs) 37) := by
  have mixed := mixedP
  have t0 := Tryz.underlying0; have a0 := Tryz.isAgg0; have z0 := Tryz.sizeOf0; have v0 := Tryz.zeroValue0; have t3 := Tryz.underlying3; have a3 := Tryz.isAgg3; have z3 := Tryz.sizeOf3; have v3 := Tryz.zeroValue3; have t4 := Tryz.underlying4; have a4 := Tryz.isAgg4; have z4 := Tryz.sizeOf4; have v4 := Tryz.zeroValue4
  have t37 := Tryz.underlying37; have a37 := Tryz.isAgg37; have z37 := Tryz.sizeOf37; have v37 := Tryz.zeroValue37; have t50 := Tryz.underlying50; have a50 := Tryz.isAgg50; have z50 := Tryz.sizeOf50; have v50 := Tryz.zeroValue50
  have u0 := run_underlying Tryz.underlying0; have u3 := run_underlying Tryz.underlying3; have u4 := run_underlying Tryz.underlying4; have u37 := run_underlying Tryz.underlying37; have u50 := run_underlying Tryz.underlying50
  obtain ⟨i0, zv, hi0, hz1, hzz, hzb, hzc⟩ : ∃ i0 zv, Tryz.prog.info? 37 = some i0 ∧ i0.size = 2 ∧ i0.zero = some zv ∧ i0.bytes = 32 ∧ zv.cells.size = 2 := ⟨_, _, rfl, rfl, rfl, rfl, rfl⟩
  have hsrc := src_v vb voff vc vs w hvl hvs h1v
  have hold : (Builtin.firstCells i0.size n (.slice base n c)).run Tryz.prog w.drew = .ok cs.toArray w.drew := by
    rw [hz1]
    cases base with
    | none =>
      have h0 : n = 0 := Classical.byContradiction fun q => hnil q rfl
      subst h0
      rw [List.length_eq_zero_iff.1 hcl]
      exact run_firstCells_none w.drew 2 0 0 c
    | some a => exact run_firstCells_some w.drew 2 n a n c cs hcl (fun j v hj => hcs a rfl j v hj)
  have hrun : ∀ ty, (Builtin.append_ #[50, 50] ty #[.slice base n c, .slice (some ⟨vb, voff, none⟩) 1 vc]).run Tryz.prog w = _ := fun ty =>
    run_append_grow_src w 50 50 ty 37 i0 zv Tryz.underlying50 hi0 hzz base n c cs hold _ 1 vs (by rw [hz1]; exact hsrc) hroom (by omega) (by rw [hzb]; exact growslice_fits hroom hbig)
  refine ⟨Builtin.zeroCells zv.cells (grownCap w (n + 1) c 37 - (n + 1)), by rw [Ev.zeroCells_size, hzc], ?_⟩
  clear hvs hcs hsrc hold
  generalize Builtin.zeroCells zv.cells (grownCap w (n + 1) c 37 - (n + 1)) = zs at *
  go_enter Tryz.func112, Tryz.ntmps112
  cases base with
  | none =>
    have h0 : n = 0 := Classical.byContradiction fun q => hnil q rfl
    subst h0
    go_wp2_with (at_builtin; refine Lib.wpList_append_run _ rfl _ _ _ _ rfl _ _ rfl rfl _ _ (hrun _) ?_)
    go_ret
    exact ⟨rfl, rfl⟩
  | some a =>
    obtain ⟨ab, ao, asp⟩ := a
    go_wp2_with (at_builtin; refine Lib.wpList_append_run _ rfl _ _ _ _ rfl _ _ rfl rfl _ _ (hrun _) ?_)
    go_ret
    exact ⟨rfl, rfl⟩
set_option maxHeartbeats 4000000 in
set_option maxRecDepth 1000000 in
theorem ins_mid_grow (b off n c i vb voff vc : Nat) (cs vs : List Value) (w : World) (hi : i < n) (hnc : n ≤ c) (hroom : c < n + 1) (hn : n + 1 ≤ 140737488355328) (hbig : (n + 1) * 32 ≤ 140737488355328)
    (hcl : cs.length = n * 2) (hvl : vs.length = 2)
    (hcs : ∀ j v, cs[j]? = some v → w.cell? ⟨b, off + j, none⟩ = some v)
    (hvs : ∀ j v, vs[j]? = some v → w.cell? ⟨vb, voff + j, none⟩ = some v) (h1c : ∀ v ∈ cs, v.oneCell' = true) (h1v : ∀ v ∈ vs, v.oneCell' = true) :
    ∃ zs zs' : Array Value, zs.size = (n + 1 - i) * 2 ∧ zs'.size = (grownCap w (n + 1) c 37 - (n + 1)) * 2 ∧ Calls Tryz.prog 112 #[.slice (some ⟨b, off, none⟩) n c, .int .i64 i, .slice (some ⟨vb, voff, none⟩) 1 vc] w fun e w' =>
      e = .returned (.slice (some ⟨w.heap.size, 0, none⟩) (n + 1) (grownCap w (n + 1) c 37)) ∧
      w' = (((w.alloc (.cells ((cs.take (i * 2)).toArray ++ zs ++ zs') 37)).drew.setCells w.heap.size (i * 2) vs).drew).setCells w.heap.size ((i + 1) * 2) (cs.drop (i * 2)) := by
  have mixed := mixedP
  have t0 := Tryz.underlying0; have a0 := Tryz.isAgg0; have z0 := Tryz.sizeOf0; have v0 := Tryz.zeroValue0; have t3 := Tryz.underlying3; have a3 := Tryz.isAgg3; have z3 := Tryz.sizeOf3; have v3 := Tryz.zeroValue3; have t4 := Tryz.underlying4; have a4 := Tryz.isAgg4; have z4 := Tryz.sizeOf4; have v4 := Tryz.zeroValue4
  have t37 := Tryz.underlying37; have a37 := Tryz.isAgg37; have z37 := Tryz.sizeOf37; have v37 := Tryz.zeroValue37; have t50 := Tryz.underlying50; have a50 := Tryz.isAgg50; have z50 := Tryz.sizeOf50; have v50 := Tryz.zeroValue50
  have u0 := run_underlying Tryz.underlying0; have u3 := run_underlying Tryz.underlying3; have u4 := run_underlying Tryz.underlying4; have u37 := run_underlying Tryz.underlying37; have u50 := run_underlying Tryz.underlying50
  obtain ⟨i0, zv, hi0, hz1, hzz, hzb, hzc⟩ : ∃ i0 zv, Tryz.prog.info? 37 = some i0 ∧ i0.size = 2 ∧ i0.zero = some zv ∧ i0.bytes = 32 ∧ zv.cells.size = 2 := ⟨_, _, rfl, rfl, rfl, rfl, rfl⟩
  have hz2 : ¬ ((i : Int) = (n : Int)) := by omega
  have hz3 : (c : Int) < (n : Int) + (1 : Int) := by omega
  have hmi := Nat.mul_le_mul_right 2 hi
  have hbw : b < w.heap.size := block_lt_of_cell (hcs 0 _ (List.getElem?_eq_getElem (by omega)))
  have hvw : vb < w.heap.size := block_lt_of_cell (hvs 0 _ (List.getElem?_eq_getElem (by omega)))
  have hkk : (n : Int) + (1 : Int) - (i : Int) = ((n + 1 - i : Nat) : Int) := by omega
  have hik : i + (n + 1 - i) = n + 1 := by omega
  have hold : (Builtin.firstCells i0.size i (.slice (some ⟨b, off, none⟩) i c)).run Tryz.prog w.drew = .ok (cs.take (i * 2)).toArray w.drew := by
    rw [hz1]
    exact run_firstCells_some w.drew 2 i ⟨b, off, none⟩ i c (cs.take (i * 2)) (by rw [List.length_take]; omega) (fun j v hj => by
      rw [Addr.add_lit]
      rw [List.getElem?_take] at hj
      split at hj
      · exact hcs j v hj
      · cases hj)
  have hrz : ∀ ty, (Builtin.append_ #[50, 3] ty #[.slice (some ⟨b, off, none⟩) i c, .int .i64 ((n : Int) + (1 : Int) - (i : Int))]).run Tryz.prog w =
      .ok (.slice (some ⟨w.heap.size, 0, none⟩) (n + 1) (grownCap w (n + 1) c 37)) (w.drew.alloc (.cells ((cs.take (i * 2)).toArray ++ Builtin.zeroCells zv.cells (n + 1 - i) ++ Builtin.zeroCells zv.cells (grownCap w (n + 1) c 37 - (n + 1))) 37)) := fun ty => by
    have h := Lib.run_append_grow_zeros w 50 3 ty 37 i0 zv .i64 .i64 t50 t3 hi0 hzz (some ⟨b, off, none⟩) i c (cs.take (i * 2)) hold (n + 1 - i) (by omega) (by omega) (by omega) (by omega) (by rw [hzb]; omega) (by rw [hzb, hik]; exact growslice_fits hroom hbig)
    rw [hik] at h
    rw [hkk]
    exact h
  refine ⟨Builtin.zeroCells zv.cells (n + 1 - i), Builtin.zeroCells zv.cells (grownCap w (n + 1) c 37 - (n + 1)), by rw [Ev.zeroCells_size, hzc], by rw [Ev.zeroCells_size, hzc], ?_⟩
  obtain ⟨G, hG⟩ : ∃ G, G = grownCap w (n + 1) c 37 := ⟨_, rfl⟩
  obtain ⟨ROW, hROW⟩ : ∃ ROW : Array Value, ROW = (cs.take (i * 2)).toArray ++ Builtin.zeroCells zv.cells (n + 1 - i) ++ Builtin.zeroCells zv.cells (G - (n + 1)) := ⟨_, rfl⟩
  rw [← hG] at hrz ⊢
  rw [← hROW] at hrz ⊢
  have hRl : (n + 1) * 2 ≤ ROW.size := by
    rw [hROW]
    simp only [Array.size_append, Ev.zeroCells_size, hzc, List.size_toArray, List.length_take, hcl]
    omega
  obtain ⟨W1, hW1⟩ : ∃ W1, W1 = w.drew.alloc (.cells ROW 37) := ⟨_, rfl⟩
  rw [← hW1] at hrz
  have hN : ∀ j, j < (n + 1) * 2 → (W1.cell? ⟨w.heap.size, j, none⟩).isSome = true := fun j hj => by
    rw [hW1, World.cell?_alloc_at (w := w.drew) ROW _ w.heap.size j rfl, Array.getElem?_eq_getElem (by omega)]; rfl
  have hNf : ∀ j, W1.frozen? ⟨w.heap.size, j, none⟩ = false := fun j => by rw [hW1]; exact World.frozen?_alloc_at (w := w.drew) ROW _ w.heap.size j rfl
  have hOb : ∀ j v, w.cell? ⟨b, j, none⟩ = some v → W1.cell? ⟨b, j, none⟩ = some v := fun j v h => by rw [hW1, World.cell?_alloc_past (w := w.drew) _ b j hbw]; exact h
  have hOv : ∀ j v, w.cell? ⟨vb, j, none⟩ = some v → W1.cell? ⟨vb, j, none⟩ = some v := fun j v h => by rw [hW1, World.cell?_alloc_past (w := w.drew) _ vb j hvw]; exact h
  have hcpA : ∀ (W : World), (∀ x, W.cell? x = W1.cell? x) → (∀ x, W.frozen? x = W1.frozen? x) → ∀ ty dc, (Builtin.copy_ #[50, 50] ty #[.slice (some ⟨w.heap.size, i * 2, none⟩) (n + 1 - i) dc, .slice (some ⟨vb, voff, none⟩) 1 vc]).run Tryz.prog W = .ok (goInt (1 : Nat)) (W.setCells w.heap.size (i * 2) vs) := fun W hWc hWf ty dc =>
    Ev.run_copy_gen W 50 50 ty 37 2 t50 z37 w.heap.size (i * 2) _ dc _ _ _ 1 (by simp only [Nat.min_def]; split <;> omega) vs
      (run_firstCells_some W 2 1 ⟨vb, voff, none⟩ _ _ _ (by rw [hvl]) (fun j v hj => by rw [hWc, Addr.add_lit]; exact hOv _ v (hvs j v hj)))
      (fun j hj => by rw [hWc]; exact hN _ (by omega)) (fun j hj => by rw [hWf]; exact hNf _) h1v
  have hGn : n + 1 ≤ G := by rw [hG]; exact grownCap_ge w _ _ _
  have hGi : ¬ (G = i) := by omega
  have hGim : ¬ (G = i + 1) := by omega
  have hci : ¬ (c = i) := by omega
  have hbN : b ≠ w.heap.size := by omega
  have hdl : (cs.drop (i * 2)).length = (n - i) * 2 := by rw [List.length_drop, hcl, Nat.sub_mul]
  have hcpB : ∀ (W : World), (∀ x, W.cell? x = (W1.setCells w.heap.size (i * 2) vs).cell? x) → (∀ x, W.frozen? x = (W1.setCells w.heap.size (i * 2) vs).frozen? x) → ∀ ty dc sc, (Builtin.copy_ #[50, 50] ty #[.slice (some ⟨w.heap.size, (i + 1) * 2, none⟩) (n - i) dc, .slice (some ⟨b, off + i * 2, none⟩) (n - i) sc]).run Tryz.prog W = .ok (goInt (n - i : Nat)) (W.setCells w.heap.size ((i + 1) * 2) (cs.drop (i * 2))) := fun W hWc hWf ty dc sc =>
    Ev.run_copy_gen W 50 50 ty 37 2 t50 z37 w.heap.size ((i + 1) * 2) _ dc _ _ _ (n - i) (by simp only [Nat.min_def]; split <;> omega) (cs.drop (i * 2))
      (run_firstCells_some W 2 (n - i) ⟨b, off + i * 2, none⟩ _ _ _ hdl (fun j v hj => by
        rw [hWc, Addr.add_lit, World.cell?_setCells_out _ _ _ _ _ (fun h _ => absurd h hbN), Nat.add_assoc]
        rw [List.getElem?_drop] at hj
        exact hOb _ v (hcs _ v hj)))
      (fun j hj => by rw [hWc]; exact isSome_setCells _ _ _ _ (fun t ht => hN _ (by omega)) _ (hN _ (by omega)))
      (fun j hj => by rw [hWf, World.frozen?_setCells]; exact hNf _) (fun v hv => h1c v (List.mem_of_mem_drop hv))
  subst hW1
  have hE1 : ∀ x, ((w.alloc (.cells ROW 37)).drew).cell? x = (w.drew.alloc (.cells ROW 37)).cell? x := fun x => rfl
  have hE2 : ∀ x, ((w.alloc (.cells ROW 37)).drew).frozen? x = (w.drew.alloc (.cells ROW 37)).frozen? x := fun x => rfl
  have hF1 : ∀ x, (((w.alloc (.cells ROW 37)).drew.setCells w.heap.size (i * 2) vs).drew).cell? x = ((w.drew.alloc (.cells ROW 37)).setCells w.heap.size (i * 2) vs).cell? x := fun x => rfl
  have hF2 : ∀ x, (((w.alloc (.cells ROW 37)).drew.setCells w.heap.size (i * 2) vs).drew).frozen? x = ((w.drew.alloc (.cells ROW 37)).setCells w.heap.size (i * 2) vs).frozen? x := fun x => rfl
  have hw1 : IntKind.i64.wrap ((i : Int) + (1 : Int)) = (i : Int) + (1 : Int) := by rw [IntKind.wrap_i64]; omega
  have hb1 : (0 : Int) ≤ (i : Int) + (1 : Int) := by omega
  have hin : i ≤ n := by omega
  have htn : ((i : Int) + (1 : Int)).toNat = i + 1 := by omega
  have hb3 : (i : Int) ≤ (n : Int) := by omega
  clear hkk hik hold hROW hG hRl hcs hvs hN hNf hOb hOv
  go_enter Tryz.func112, Tryz.ntmps112
  go_wp2_with (first
    | (at_builtin; refine Lib.wpList_append_run _ rfl _ _ _ _ rfl _ _ rfl rfl _ _ (hrz _) ?_)
    | (at_builtin; refine wpList_copy_runI _ rfl _ _ 50 50 rfl _ _ rfl rfl (hcpA _ hE1 hE2 _ _) ?_)
    | (at_builtin; refine wpList_copy_runI _ rfl _ _ 50 50 rfl _ _ rfl rfl (hcpB _ (fun _ => rfl) (fun _ => rfl) _ _ _) ?_))
  go_region_law_o (refine step_copy_runI rfl _ _ 50 50 rfl (.slice (some ⟨w.heap.size, (i + 1) * 2, none⟩) (n - i) (G - (i + 1))) (.slice (some ⟨b, off + i * 2, none⟩) (n - i) (c - i)) (by simp [Act.eval, Act.put]) (by simp [Act.eval, Act.put]) (hcpB _ hF1 hF2 3 (G - (i + 1)) (c - i)) ?_)
  go_wp2
  go_ret
  exact ⟨rfl, rfl⟩
end Go.Proofs.YtpncefcicfhibaaGreatDoor
namespace Go.Proofs.YtpncefcicfhibaaGreatDoor
open Go
theorem ins_real : Ev.InsReal Tryz.prog 112 2 32 := Ev.ins_real (el := 37) (by decide) ins_shift ins_end_room ins_end_grow ins_mid_grow
def fn112 : Ev.Fn := Ev.insFn 2 32
theorem ins_run (call : Ev.Call) (L : Nat) : Ev.RunOK Tryz.prog call L 112 fn112 := Ev.insert_ok (by decide) (by decide) ⟨_, Tryz.func112, by decide +kernel, by kernel_rfl⟩ ins_real call L
end Go.Proofs.YtpncefcicfhibaaGreatDoor
