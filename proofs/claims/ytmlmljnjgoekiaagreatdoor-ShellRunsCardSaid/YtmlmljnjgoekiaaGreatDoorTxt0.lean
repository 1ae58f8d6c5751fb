import Derived.Test.YtmlmljnjgoekiaaGreatDoorProg
import Derived.Lib.Strings
import Derived.Lib.Walk
import Derived.WalkKit
import Derived.WalkLawsBesides
import Derived.Laws.Externs
import Derived.Laws.Strings
import Derived.Lib.Bytealg
import Derived.RegionTactic
import Derived.BigRegion
import Derived.Deep.RegionWith
import Derived.KernelRfl
set_option linter.unusedVariables false
set_option linter.unusedSimpArgs false
set_option linter.unusedSectionVars false
set_option linter.unusedVariables false
-- shell.text of a text that is no word, walked
namespace Go.Proofs.YtmlmljnjgoekiaaGreatDoor.txt
open Go Go.Proofs
theorem must_t (a b : Int) (w : World) : Calls Tryz.prog 43 #[.bool true, .int .i64 a, .int .i64 b] w fun e w' => e = .returned (.tuple #[]) ∧ w' = w := by
  go_enter Tryz.func43, Tryz.ntmps43
  go_wp2
  go_end0
  exact ⟨rfl, rfl⟩
set_option maxRecDepth 100000 in
theorem ixb0 (s : ByteArray) (c : Int) (w : World) : Calls Tryz.prog 132 #[.string s, .int .u8 c] w fun e w' => e = .returned (.int .i64 (Lib.indexByte s.data.toList c.toNat.toUInt8)) ∧ w' = w := by
  go_enter Tryz.func132, Tryz.ntmps132
  go_wp2_with fail
  rw [run_callFunc_extern Tryz.func172 (by kernel_rfl) (by kernel_rfl) (by kernel_rfl) (e := Extern.BytealgIndexByte.indexByte) (by kernel_rfl)]
  rw [Lib.run_indexByteString]
  simp only [Result.andThen]
  rw [Oper.upon_value]
  go_wp2
  go_ret
  exact ⟨rfl, rfl⟩
theorem ixb (s : ByteArray) (c : Int) (w : World) : Calls Tryz.prog 99 #[.string s, .int .u8 c] w fun e w' => e = .returned (.int .i64 (Lib.indexByte s.data.toList c.toNat.toUInt8)) ∧ w' = w := by
  go_enter Tryz.func99, Tryz.ntmps99
  go_wp2_with (go_at_call 132; refine (ixb0 _ _ _).mono ?_; rintro e w' ⟨rfl, rfl⟩)
  go_wp2
  go_ret
  exact ⟨rfl, rfl⟩
theorem must_f (a b : Int) (w : World) : Calls Tryz.prog 43 #[.bool false, .int .i64 a, .int .i64 b] w fun e w' => e = .panicked [{ v := .iface 60 (.agg #[.int .i64 a, .int .i64 b]), recovered := false }] ∧ w' = w := by
  go_enter Tryz.func43, Tryz.ntmps43
  go_wp2
  exact ⟨rfl, rfl, rfl, rfl⟩
theorem i50 : Lib.indexByte [48, 49, 50, 51, 52, 53, 54, 55, 56, 57, 97, 98, 99, 100, 101, 102] 50 = 2 := by decide
theorem i70 : Lib.indexByte [48, 49, 50, 51, 52, 53, 54, 55, 56, 57, 97, 98, 99, 100, 101, 102] 70 = -1 := by decide
theorem ixb50 (w : World) : Calls Tryz.prog 99 #[.string { data := #[48, 49, 50, 51, 52, 53, 54, 55, 56, 57, 97, 98, 99, 100, 101, 102] }, .int .u8 50] w fun e w' => e = .returned (.int .i64 2) ∧ w' = w := by
  have h := ixb { data := #[48, 49, 50, 51, 52, 53, 54, 55, 56, 57, 97, 98, 99, 100, 101, 102] } 50 w
  rw [show Lib.indexByte ({ data := #[48, 49, 50, 51, 52, 53, 54, 55, 56, 57, 97, 98, 99, 100, 101, 102] } : ByteArray).data.toList (50 : Int).toNat.toUInt8 = 2 from i50] at h
  exact h
theorem ixb70 (w : World) : Calls Tryz.prog 99 #[.string { data := #[48, 49, 50, 51, 52, 53, 54, 55, 56, 57, 97, 98, 99, 100, 101, 102] }, .int .u8 70] w fun e w' => e = .returned (.int .i64 (-1)) ∧ w' = w := by
  have h := ixb { data := #[48, 49, 50, 51, 52, 53, 54, 55, 56, 57, 97, 98, 99, 100, 101, 102] } 70 w
  rw [show Lib.indexByte ({ data := #[48, 49, 50, 51, 52, 53, 54, 55, 56, 57, 97, 98, 99, 100, 101, 102] } : ByteArray).data.toList (70 : Int).toNat.toUInt8 = -1 from i70] at h
  exact h
theorem dig_t (w : World) : Calls Tryz.prog 71 #[.int .u8 50] w fun e w' => e = .returned (.int .u8 2) ∧ w' = w := by
  go_enter Tryz.func71, Tryz.ntmps71
  go_wp2_with (first | (go_at_call 99; refine (ixb50 _).mono ?_; rintro e w' ⟨rfl, rfl⟩) | (go_at_call 43; refine (must_t _ _ _).mono ?_; rintro e w' ⟨rfl, rfl⟩))
  go_ret
  exact ⟨rfl, rfl⟩
theorem dig_f (w : World) : Calls Tryz.prog 71 #[.int .u8 70] w fun e w' => e = .panicked [{ v := .iface 60 (.agg #[.int .i64 4, .int .i64 0]), recovered := false }] ∧ w' = w := by
  go_enter Tryz.func71, Tryz.ntmps71
  go_wp2_with (first | (go_at_call 99; refine (ixb70 _).mono ?_; rintro e w' ⟨rfl, rfl⟩) | (go_at_call 43; refine (must_f _ _ _).mono ?_; rintro e w' ⟨rfl, rfl⟩))
  exact ⟨rfl, rfl, rfl⟩
theorem wp_gen {c : Code} {Q : Exit → Act → World → Prop} {a : Act} {w : World} (ch : List PanicEntry) (hQ : ∀ a : Act, a.defers = [] → Q (.panic ch) a w.drew) (hP : ∀ ch a d v w, Q (.panic ch) (Act.put a d v) w → Q (.panic ch) a w)
    (h : ∀ Q' : Exit → Act → World → Prop, (∀ a : Act, a.defers = [] → Q' (.panic ch) a w.drew) → (∀ ch a d v w, Q' (.panic ch) (Act.put a d v) w → Q' (.panic ch) a w) → Code.wp Tryz.prog c Q' a w) : Code.wp Tryz.prog c Q a w := h Q hQ hP
set_option maxRecDepth 100000 in
set_option maxHeartbeats 32000000 in
theorem text_f (w : World) : Calls Tryz.prog 44 #[.string { data := #[37, 50, 70] }] w fun e w' => e = .panicked [{ v := .iface 60 (.agg #[.int .i64 4, .int .i64 0]), recovered := false }] ∧ w' = w.drew := by
  go_enter Tryz.func44, Tryz.ntmps44
  go_wp2_with fail
  refine wp_loop_once ?_
  go_wp2_with (go_at_call 43; refine (must_t _ _ _).mono ?_; rintro e w' ⟨rfl, rfl⟩)
  refine wp_gen [{ v := .iface 60 (.agg #[.int .i64 4, .int .i64 0]), recovered := false }] (fun a ha => ⟨ha, rfl, rfl⟩) (fun _ _ d _ _ h => by cases d <;> exact h) ?_
  intro Q hQ hP
  rename_i k3 k2 k1 hh q1 a3 q0 a2 a1 k0 a0
  clear a0 k0 a1 a2 a3 q0 q1 hh k1 k2 k3
  have x1 : IntKind.i64.wrap 1 = 1 := by decide
  have x2 : IntKind.i64.wrap 2 = 2 := by decide
  refine wp_region_any (by kernel_rfl) ?_
  try (change wpAny _ _ _ _ _ _ _ (World.drew _))
  refine wpAny_take (i := 0) (v := ?_) rfl (by kernel_rfl) (by kernel_rfl) (by kernel_rfl) (fun _ _ _ h => hP _ _ _ _ _ h) (Or.inl ⟨by rfl, ?_⟩) ?_
  rotate_left
  · intro w; go_simp <;> with_reducible rfl
  refine wpAny_take (i := 1) (v := ?_) rfl (by kernel_rfl) (by kernel_rfl) (by kernel_rfl) (fun _ _ _ h => hP _ _ _ _ _ h) (Or.inl ⟨by rfl, ?_⟩) ?_
  rotate_left
  · intro w; go_simp <;> with_reducible rfl
  refine wpAny_take (i := 2) (v := ?_) rfl (by kernel_rfl) (by kernel_rfl) (by kernel_rfl) (fun _ _ _ h => hP _ _ _ _ _ h) (Or.inl ⟨by rfl, ?_⟩) ?_
  rotate_left
  · intro w; go_simp <;> with_reducible rfl
  refine wpAny_take (i := 6) (v := ?_) rfl (by kernel_rfl) (by kernel_rfl) (by kernel_rfl) (fun _ _ _ h => hP _ _ _ _ _ h) (Or.inl ⟨by rfl, ?_⟩) ?_
  rotate_left
  · intro w; go_simp <;> with_reducible rfl
  refine wpAny_take (i := 7) (v := ?_) rfl (by kernel_rfl) (by kernel_rfl) (by kernel_rfl) (fun _ _ _ h => hP _ _ _ _ _ h) (Or.inl ⟨by rfl, ?_⟩) ?_
  rotate_left
  · intro w; go_simp <;> with_reducible rfl
  refine wpAny_take (i := 8) (v := ?_) rfl (by kernel_rfl) (by kernel_rfl) (by kernel_rfl) (fun _ _ _ h => hP _ _ _ _ _ h) (Or.inl ⟨by rfl, ?_⟩) ?_
  rotate_left
  · intro w; go_simp <;> with_reducible rfl
  refine wpAny_ready (rs := [3, 9]) (by kernel_rfl) (by simp) ?_
  refine AllReady.cons rfl (fun K hK => ?_) ?_
  · go_simp
    refine hK _ _ ?_
    clear hK K
    refine wpAny_ready (rs := [4, 9]) (by kernel_rfl) (by simp) ?_
    refine AllReady.cons rfl (fun K hK => ?_) ?_
    · go_simp
      go_wp2_with (go_at_call 71; refine (dig_t _).mono ?_; rintro e w'' ⟨rfl, rfl⟩)
      skip
      refine wpAny_take (i := 5) (v := ?_) rfl (by kernel_rfl) (by kernel_rfl) (by kernel_rfl) (fun _ _ _ h => hP _ _ _ _ _ h) (Or.inl ⟨by rfl, ?_⟩) ?_
      rotate_left
      · intro w; go_simp <;> with_reducible rfl
      refine wpAny_ready (rs := [9]) (by kernel_rfl) (by simp) ?_
      refine AllReady.cons rfl (fun K hK => ?_) ?_
      · go_simp
        refine hK _ _ ?_
        clear hK K
        refine wpAny_ready (rs := [10]) (by kernel_rfl) (by simp) ?_
        refine AllReady.cons rfl (fun K hK => ?_) ?_
        · go_simp
          go_wp2_with (go_at_call 71; refine (dig_f _).mono ?_; rintro e w'' ⟨rfl, rfl⟩)
          exact hQ _ rfl
        exact AllReady.nil
      exact AllReady.nil
    refine AllReady.cons rfl (fun K hK => ?_) ?_
    · go_simp
      refine hK _ _ ?_
      clear hK K
      refine wpAny_ready (rs := [4]) (by kernel_rfl) (by simp) ?_
      refine AllReady.cons rfl (fun K hK => ?_) ?_
      · go_simp
        go_wp2_with (go_at_call 71; refine (dig_t _).mono ?_; rintro e w'' ⟨rfl, rfl⟩)
        skip
        refine wpAny_take (i := 5) (v := ?_) rfl (by kernel_rfl) (by kernel_rfl) (by kernel_rfl) (fun _ _ _ h => hP _ _ _ _ _ h) (Or.inl ⟨by rfl, ?_⟩) ?_
        rotate_left
        · intro w; go_simp <;> with_reducible rfl
        refine wpAny_ready (rs := [10]) (by kernel_rfl) (by simp) ?_
        refine AllReady.cons rfl (fun K hK => ?_) ?_
        · go_simp
          go_wp2_with (go_at_call 71; refine (dig_f _).mono ?_; rintro e w'' ⟨rfl, rfl⟩)
          exact hQ _ rfl
        exact AllReady.nil
      exact AllReady.nil
    exact AllReady.nil
  refine AllReady.cons rfl (fun K hK => ?_) ?_
  · go_simp
    refine hK _ _ ?_
    clear hK K
    refine wpAny_ready (rs := [3]) (by kernel_rfl) (by simp) ?_
    refine AllReady.cons rfl (fun K hK => ?_) ?_
    · go_simp
      refine hK _ _ ?_
      clear hK K
      refine wpAny_ready (rs := [4]) (by kernel_rfl) (by simp) ?_
      refine AllReady.cons rfl (fun K hK => ?_) ?_
      · go_simp
        go_wp2_with (go_at_call 71; refine (dig_t _).mono ?_; rintro e w'' ⟨rfl, rfl⟩)
        skip
        refine wpAny_take (i := 5) (v := ?_) rfl (by kernel_rfl) (by kernel_rfl) (by kernel_rfl) (fun _ _ _ h => hP _ _ _ _ _ h) (Or.inl ⟨by rfl, ?_⟩) ?_
        rotate_left
        · intro w; go_simp <;> with_reducible rfl
        refine wpAny_ready (rs := [10]) (by kernel_rfl) (by simp) ?_
        refine AllReady.cons rfl (fun K hK => ?_) ?_
        · go_simp
          go_wp2_with (go_at_call 71; refine (dig_f _).mono ?_; rintro e w'' ⟨rfl, rfl⟩)
          exact hQ _ rfl
        exact AllReady.nil
      exact AllReady.nil
    exact AllReady.nil
  exact AllReady.nil
end Go.Proofs.YtmlmljnjgoekiaaGreatDoor.txt
