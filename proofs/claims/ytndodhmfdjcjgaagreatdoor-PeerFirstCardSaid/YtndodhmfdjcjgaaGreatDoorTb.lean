import Derived.Test.YtndodhmfdjcjgaaGreatDoorEvE
import Derived.Test.YtndodhmfdjcjgaaGreatDoorTa
set_option linter.unusedSectionVars false
set_option linter.unusedVariables false
set_option linter.unusedSimpArgs false
-- the document's shape of DATA and HEADERS (EvHp EvOwn)
namespace Go.Proofs.YtndodhmfdjcjgaaGreatDoor
open Go hiding Fn
open Ev tab
abbrev PTq : List Ty := [.one, .one, .one, .one, .one, .sl [.one], .one, .one, .one, .one, .sl [.one, .one]]
theorem cs_mid2 {m : Nat} {hp h' : Hp} {a b f g h i : Int} {c d e : Bool} {v w y : V} (q : ∀ n, m <= n -> closeC n (.sl [.one]) v hp = some (w, h')) (hy : Clo2 (.sl [.one, .one]) y (.vs 2 [])) (n : Nat) (hn : m + 12 <= n) :
  closeCs n PTq [.it .i64 a, .it .i64 b, .bo c, .bo d, .bo e, v, .it .i64 f, .it .i64 g, .it .i64 h, .it .i64 i, y] hp = some ([.it .i64 a, .it .i64 b, .bo c, .bo d, .bo e, w, .it .i64 f, .it .i64 g, .it .i64 h, .it .i64 i, .vs 2 []], h') := by
 obtain ⟨k, rfl⟩ : ∃ k, n = k + 12 := ⟨n - 12, by omega⟩
 have x1 : ∀ (k : Nat) (x : Int) (hp : Hp), closeC (k + 1) .one (.it .i64 x) hp = some (.it .i64 x, hp) := fun _ _ _ => rfl
 have x2 : ∀ (k : Nat) (x : Bool) (hp : Hp), closeC (k + 1) .one (.bo x) hp = some (.bo x, hp) := fun _ _ _ => rfl
 have x3 : ∀ (k : Nat) (hp : Hp), closeC (k + 1) (.sl [.one, .one]) y hp = some (.vs 2 [], hp) := fun k hp => hy k hp
 simp only [closeCs, x1, x2, x3, q (k + 6) (by omega)]
theorem ys_vs : Clo2 (.sl [.one, .one]) (.vs 2 []) (.vs 2 []) := fun n hp => clo_vs [.one, .one] [] n hp
/-- a part whose bytes are one's own -/
theorem ptB_close {hp : Hp} {id len : Nat} {es : List (List V)} {x : List Int} {a b f g h i : Int} {c d e : Bool} {y : V} (q : hget hp id = some ⟨1, false, es⟩) (hl : hp.lim <= id) (he : es = bs x) (hn : len = x.length) (hx : x.length <= 1000) (hy : Clo2 (.sl [.one, .one]) y (.vs 2 [])) :
  closeCs depth PTq [.it .i64 a, .it .i64 b, .bo c, .bo d, .bo e, .hs id 0 len, .it .i64 f, .it .i64 g, .it .i64 h, .it .i64 i, y] hp = some ([.it .i64 a, .it .i64 b, .bo c, .bo d, .bo e, .vs 1 (bs x), .it .i64 f, .it .i64 g, .it .i64 h, .it .i64 i, .vs 2 []], hset hp id (some ⟨1, true, bs x⟩)) := by
 subst he; subst hn
 have e : ((bs x).drop 0).take x.length = bs x := by rw [List.drop_zero]; exact List.take_of_length_le (by rw [bs_length]; exact Nat.le_refl _)
 refine cs_mid2 (m := x.length + 5) (fun n hn => ?_) hy depth (by show x.length + 5 + 12 <= 100000000; omega)
 have c := closeC_hs (n := n) (ts := [.one]) (i := 0) (len := x.length) q hl rfl (by rw [bs_length]; omega) (by rw [e]; exact bs_clo x) (by simp; omega)
 rw [e] at c
 exact c
attribute [local irreducible] EvP EvD EvL EvC EvO evGds evLs C.run sK bK gK pK fK lpB stepD numE
set_option maxHeartbeats 32000000 in
theorem long_any (ty fl s : Int) (p : List Int) (hb : ByL p) (hp : p.length <= 1000) (hty : ty = 0 \/ ty = 1) : ∃ P a b c, EvP F 17 c17 [.ag (fr ty fl s p), .ag (ptV ty s)] [.ag P, .ag [.it .i64 a, .it .i64 b, .it .i64 c]] /\ PtF P := by
 have b6 := bad2_any (Int.ofNat 6) (Int.ofNat 0)
 have b1 := bad2_any (Int.ofNat 1) (Int.ofNat 0)
 have bs1 := bad1_any (Int.ofNat 1) s
 have hl := bs_length p
 have main : EvQ F (d17.body.run ⟨argT [.ag (fr ty fl s p), .ag (ptV ty s)], fun _ => none, h0⟩ (fK d17)) (fun r => ∃ P a b c, PQ d17.rs [.ag P, .ag [.it .i64 a, .it .i64 b, .it .i64 c]] r /\ PtF P) := by
  unfold fr at *
  rcases hty with rfl | rfl
  ·repeat (first | refine EvQ.run ?_ | refine EvQ.fin X.rs ?_ | refine EvQ.fin1 (fun _ => rfl) rfl ?_)
   refine EvQ.cond rfl (fun h => ?_) (fun h => ?_)
   ·clear h
    match p, hb with
    | [], _ =>
     repeat (first | refine EvQ.run ?_ | refine EvQ.lift (fun _ zn => X.pcall (b6) X.cq rfl X.al rfl zn) ?_ | refine EvQ.lift (fun _ zn => X.pcallG (b6) rfl X.cq rfl X.al rfl zn) ?_ | refine EvQ.lift (fun _ zn => X.pcallC (b6) rfl X.cq rfl X.al rfl zn) ?_ | refine EvQ.lift (fun _ zn => X.pcallT (b6) (by decide) X.cq rfl X.al rfl zn) ?_ | refine EvQ.lift (fun _ zn => X.call rfl X.al (b6) zn) ?_ | refine EvQ.fin X.rs ?_ | refine EvQ.fin1 (fun _ => rfl) rfl ?_)
     refine fin2 (fun _ => rfl) rfl rfl ?_
     exact ⟨_, _, _, _, PQ.of (.gs pt_clo (.gs bd_clo (.nil _))), _, _, _, _, _, _, _, _, _, _, _, rfl⟩
    | x :: xs, hb =>
     obtain ⟨k, hk, rfl⟩ : ∃ k : Nat, k <= 255 /\ x = Int.ofNat k := by
      obtain ⟨h1, h2⟩ := hb x (by simp)
      exact ⟨x.toNat, by omega, by simp only [Int.ofNat_eq_natCast]; omega⟩
     have e1 : wr .i64 ((Int.ofNat k :: xs)[0]?.getD 0) = Int.ofNat k := show wr .i64 (Int.ofNat k) = Int.ofNat k from wr64 (by simp only [Int.ofNat_eq_natCast]; omega) (by simp only [Int.ofNat_eq_natCast]; omega)
     have e2 : List.take ((bs (Int.ofNat k :: xs)).length - (Int.ofNat 1).toNat) (List.drop (Int.ofNat 1).toNat (bs (Int.ofNat k :: xs))) = bs xs :=
      List.take_of_length_le (by show (bs xs).length <= _; rw [bs_length, bs_length]; show xs.length <= xs.length + 1 - 1; omega)
     have hb2 : xs.length <= 1000 := by simp only [List.length_cons] at hp; omega
     repeat (first | refine EvQ.run ?_ | refine EvQ.fin X.rs ?_ | refine EvQ.fin1 (fun _ => rfl) rfl ?_)
     rw [e1, e2]
     clear e1 e2
     generalize xs = b at *
     have hl2 := bs_length b
     by_cases hg : b.length < k
     ·have z : ilt (Int.ofNat (bs b).length) (Int.ofNat k) = true := by rw [hl2, ilt_eq]; exact decide_eq_true (by simp only [Int.ofNat_eq_natCast]; omega)
      repeat (first | refine EvQ.run ?_ | refine EvQ.lift (fun _ zn => X.pcall (b1) X.cq rfl X.al rfl zn) ?_ | refine EvQ.lift (fun _ zn => X.pcallG (b1) rfl X.cq rfl X.al rfl zn) ?_ | refine EvQ.lift (fun _ zn => X.pcallC (b1) rfl X.cq rfl X.al rfl zn) ?_ | refine EvQ.lift (fun _ zn => X.pcallT (b1) (by decide) X.cq rfl X.al rfl zn) ?_ | refine EvQ.lift (fun _ zn => X.call rfl X.al (b1) zn) ?_ | refine EvQ.fin X.rs ?_ | refine EvQ.fin1 (fun _ => rfl) rfl ?_)
      refine fin2 (fun _ => rfl) rfl rfl ?_
      exact ⟨_, _, _, _, PQ.of (.gs pt_clo (.gs bd_clo (.nil _))), _, _, _, _, _, _, _, _, _, _, _, rfl⟩
     ·have z : ilt (Int.ofNat (bs b).length) (Int.ofNat k) = false := by rw [hl2, ilt_eq]; exact decide_eq_false (by simp only [Int.ofNat_eq_natCast]; omega)
      have e37 : List.take ((Int.ofNat ((bs b).length - k)).toNat - 0) (List.drop 0 (bs b)) = bs (b.take (b.length - k)) := by
       show List.take ((bs b).length - k) (bs b) = _
       rw [hl2, bs_take]
      have tl : (bs (b.take (b.length - k))).length <= 1000 := by rw [bs_length, List.length_take]; omega
      repeat (first | refine EvQ.run ?_ | refine EvQ.fin X.rs ?_ | refine EvQ.fin1 (fun _ => rfl) rfl ?_)
      refine fin2 (fun _ => rfl) rfl rfl ?_
      refine ⟨_, _, _, _, PQ.of (.g (ptB_close (id := 1) (x := b.take (b.length - k)) rfl (Nat.le_of_ble_eq_true rfl) ((List.nil_append _).trans e37) ?_ (by rw [List.length_take]; omega) ys_vs) (.gs bd_clo (.nil _))), _, _, _, _, _, _, _, _, _, _, _, rfl⟩
      rw [e37, bs_length]; exact Nat.zero_add _
   ·clear h
    have e37 : List.take ((Int.ofNat ((bs p).length - 0)).toNat - 0) (List.drop 0 (bs p)) = bs p := by show List.take (bs p).length (bs p) = _; exact List.take_length
    repeat (first | refine EvQ.run ?_ | refine EvQ.fin X.rs ?_ | refine EvQ.fin1 (fun _ => rfl) rfl ?_)
    refine fin2 (fun _ => rfl) rfl rfl ?_
    refine ⟨_, _, _, _, PQ.of (.g (ptB_close (id := 1) (x := p) rfl (Nat.le_of_ble_eq_true rfl) ((List.nil_append _).trans e37) ?_ hp ys_vs) (.gs bd_clo (.nil _))), _, _, _, _, _, _, _, _, _, _, _, rfl⟩
    rw [e37, bs_length]; exact Nat.zero_add _
  ·repeat (first | refine EvQ.run ?_ | refine EvQ.fin X.rs ?_ | refine EvQ.fin1 (fun _ => rfl) rfl ?_)
   refine EvQ.cond rfl (fun h => ?_) (fun h => ?_)
   ·clear h
    match p, hb with
    | [], _ =>
     repeat (first | refine EvQ.run ?_ | refine EvQ.lift (fun _ zn => X.pcall (b6) X.cq rfl X.al rfl zn) ?_ | refine EvQ.lift (fun _ zn => X.pcallG (b6) rfl X.cq rfl X.al rfl zn) ?_ | refine EvQ.lift (fun _ zn => X.pcallC (b6) rfl X.cq rfl X.al rfl zn) ?_ | refine EvQ.lift (fun _ zn => X.pcallT (b6) (by decide) X.cq rfl X.al rfl zn) ?_ | refine EvQ.lift (fun _ zn => X.call rfl X.al (b6) zn) ?_ | refine EvQ.fin X.rs ?_ | refine EvQ.fin1 (fun _ => rfl) rfl ?_)
     refine fin2 (fun _ => rfl) rfl rfl ?_
     exact ⟨_, _, _, _, PQ.of (.gs pt_clo (.gs bd_clo (.nil _))), _, _, _, _, _, _, _, _, _, _, _, rfl⟩
    | x :: xs, hb =>
     obtain ⟨k, hk, rfl⟩ : ∃ k : Nat, k <= 255 /\ x = Int.ofNat k := by
      obtain ⟨h1, h2⟩ := hb x (by simp)
      exact ⟨x.toNat, by omega, by simp only [Int.ofNat_eq_natCast]; omega⟩
     have e1 : wr .i64 ((Int.ofNat k :: xs)[0]?.getD 0) = Int.ofNat k := show wr .i64 (Int.ofNat k) = Int.ofNat k from wr64 (by simp only [Int.ofNat_eq_natCast]; omega) (by simp only [Int.ofNat_eq_natCast]; omega)
     have e2 : List.take ((bs (Int.ofNat k :: xs)).length - (Int.ofNat 1).toNat) (List.drop (Int.ofNat 1).toNat (bs (Int.ofNat k :: xs))) = bs xs :=
      List.take_of_length_le (by show (bs xs).length <= _; rw [bs_length, bs_length]; show xs.length <= xs.length + 1 - 1; omega)
     have hb2 : xs.length <= 1000 := by simp only [List.length_cons] at hp; omega
     repeat (first | refine EvQ.run ?_ | refine EvQ.fin X.rs ?_ | refine EvQ.fin1 (fun _ => rfl) rfl ?_)
     rw [e1, e2]
     clear e1 e2
     generalize xs = b at *
     refine EvQ.cond rfl (fun h => ?_) (fun h => ?_)
     ·clear h
      have hl3 := bs_length b
      by_cases h5 : b.length < 5
      ·have z5 : ilt (Int.ofNat (bs b).length) (Int.ofNat 5) = true := by rw [hl3, ilt_eq]; exact decide_eq_true (by simp only [Int.ofNat_eq_natCast]; omega)
       repeat (first | refine EvQ.run ?_ | refine EvQ.lift (fun _ zn => X.pcall (b6) X.cq rfl X.al rfl zn) ?_ | refine EvQ.lift (fun _ zn => X.pcallG (b6) rfl X.cq rfl X.al rfl zn) ?_ | refine EvQ.lift (fun _ zn => X.pcallC (b6) rfl X.cq rfl X.al rfl zn) ?_ | refine EvQ.lift (fun _ zn => X.pcallT (b6) (by decide) X.cq rfl X.al rfl zn) ?_ | refine EvQ.lift (fun _ zn => X.call rfl X.al (b6) zn) ?_ | refine EvQ.fin X.rs ?_ | refine EvQ.fin1 (fun _ => rfl) rfl ?_)
       refine fin2 (fun _ => rfl) rfl rfl ?_
       exact ⟨_, _, _, _, PQ.of (.gs pt_clo (.gs bd_clo (.nil _))), _, _, _, _, _, _, _, _, _, _, _, rfl⟩
      ·have z5 : ilt (Int.ofNat (bs b).length) (Int.ofNat 5) = false := by rw [hl3, ilt_eq]; exact decide_eq_false (by simp only [Int.ofNat_eq_natCast]; omega)
       obtain ⟨n, ba⟩ := four_any b (by omega)
       repeat (first | refine EvQ.run ?_ | refine EvQ.lift (fun _ zn => X.pcall (ba) X.cq rfl X.al rfl zn) ?_ | refine EvQ.lift (fun _ zn => X.pcallG (ba) rfl X.cq rfl X.al rfl zn) ?_ | refine EvQ.lift (fun _ zn => X.pcallC (ba) rfl X.cq rfl X.al rfl zn) ?_ | refine EvQ.lift (fun _ zn => X.pcallT (ba) (by decide) X.cq rfl X.al rfl zn) ?_ | refine EvQ.lift (fun _ zn => X.call rfl X.al (ba) zn) ?_ | refine EvQ.fin X.rs ?_ | refine EvQ.fin1 (fun _ => rfl) rfl ?_)
       refine EvQ.cond rfl (fun h => ?_) (fun h => ?_)
       ·repeat (first | refine EvQ.run ?_ | refine EvQ.lift (fun _ zn => X.pcall (bs1) X.cq rfl X.al rfl zn) ?_ | refine EvQ.lift (fun _ zn => X.pcallG (bs1) rfl X.cq rfl X.al rfl zn) ?_ | refine EvQ.lift (fun _ zn => X.pcallC (bs1) rfl X.cq rfl X.al rfl zn) ?_ | refine EvQ.lift (fun _ zn => X.pcallT (bs1) (by decide) X.cq rfl X.al rfl zn) ?_ | refine EvQ.lift (fun _ zn => X.call rfl X.al (bs1) zn) ?_ | refine EvQ.fin X.rs ?_ | refine EvQ.fin1 (fun _ => rfl) rfl ?_)
        refine fin2 (fun _ => rfl) rfl rfl ?_
        exact ⟨_, _, _, _, PQ.of (.gs pt_clo (.gs bd_clo (.nil _))), _, _, _, _, _, _, _, _, _, _, _, rfl⟩
       ·clear h
        repeat (first | refine EvQ.run ?_ | refine EvQ.fin X.rs ?_ | refine EvQ.fin1 (fun _ => rfl) rfl ?_)
        have eb : List.take ((bs b).length - (Int.ofNat 5).toNat) (List.drop (Int.ofNat 5).toNat (bs b)) = bs (b.drop 5) := by
         rw [List.take_of_length_le (by simp)]
         simp [bs, List.map_drop]
        rw [eb]
        have hb3 : (b.drop 5).length <= 1000 := by simp; omega
        clear hl3 z5 ba hb2 h5
        generalize b.drop 5 = b2 at *
        clear eb
        have hb2 := hb3
        clear hb3
        generalize b2 = b at *
        have hl2 := bs_length b
        by_cases hg : b.length < k
        ·have z : ilt (Int.ofNat (bs b).length) (Int.ofNat k) = true := by rw [hl2, ilt_eq]; exact decide_eq_true (by simp only [Int.ofNat_eq_natCast]; omega)
         repeat (first | refine EvQ.run ?_ | refine EvQ.lift (fun _ zn => X.pcall (b1) X.cq rfl X.al rfl zn) ?_ | refine EvQ.lift (fun _ zn => X.pcallG (b1) rfl X.cq rfl X.al rfl zn) ?_ | refine EvQ.lift (fun _ zn => X.pcallC (b1) rfl X.cq rfl X.al rfl zn) ?_ | refine EvQ.lift (fun _ zn => X.pcallT (b1) (by decide) X.cq rfl X.al rfl zn) ?_ | refine EvQ.lift (fun _ zn => X.call rfl X.al (b1) zn) ?_ | refine EvQ.fin X.rs ?_ | refine EvQ.fin1 (fun _ => rfl) rfl ?_)
         refine fin2 (fun _ => rfl) rfl rfl ?_
         exact ⟨_, _, _, _, PQ.of (.gs pt_clo (.gs bd_clo (.nil _))), _, _, _, _, _, _, _, _, _, _, _, rfl⟩
        ·have z : ilt (Int.ofNat (bs b).length) (Int.ofNat k) = false := by rw [hl2, ilt_eq]; exact decide_eq_false (by simp only [Int.ofNat_eq_natCast]; omega)
         have e37 : List.take ((Int.ofNat ((bs b).length - k)).toNat - 0) (List.drop 0 (bs b)) = bs (b.take (b.length - k)) := by
          show List.take ((bs b).length - k) (bs b) = _
          rw [hl2, bs_take]
         have tl : (bs (b.take (b.length - k))).length <= 1000 := by rw [bs_length, List.length_take]; omega
         repeat (first | refine EvQ.run ?_ | refine EvQ.fin X.rs ?_ | refine EvQ.fin1 (fun _ => rfl) rfl ?_)
         refine fin2 (fun _ => rfl) rfl rfl ?_
         refine ⟨_, _, _, _, PQ.of (.g (ptB_close (id := 1) (x := b.take (b.length - k)) rfl (Nat.le_of_ble_eq_true rfl) ((List.nil_append _).trans e37) ?_ (by rw [List.length_take]; omega) ys_vs) (.gs bd_clo (.nil _))), _, _, _, _, _, _, _, _, _, _, _, rfl⟩
         rw [e37, bs_length]; exact Nat.zero_add _
     ·clear h
      have hl2 := bs_length b
      by_cases hg : b.length < k
      ·have z : ilt (Int.ofNat (bs b).length) (Int.ofNat k) = true := by rw [hl2, ilt_eq]; exact decide_eq_true (by simp only [Int.ofNat_eq_natCast]; omega)
       repeat (first | refine EvQ.run ?_ | refine EvQ.lift (fun _ zn => X.pcall (b1) X.cq rfl X.al rfl zn) ?_ | refine EvQ.lift (fun _ zn => X.pcallG (b1) rfl X.cq rfl X.al rfl zn) ?_ | refine EvQ.lift (fun _ zn => X.pcallC (b1) rfl X.cq rfl X.al rfl zn) ?_ | refine EvQ.lift (fun _ zn => X.pcallT (b1) (by decide) X.cq rfl X.al rfl zn) ?_ | refine EvQ.lift (fun _ zn => X.call rfl X.al (b1) zn) ?_ | refine EvQ.fin X.rs ?_ | refine EvQ.fin1 (fun _ => rfl) rfl ?_)
       refine fin2 (fun _ => rfl) rfl rfl ?_
       exact ⟨_, _, _, _, PQ.of (.gs pt_clo (.gs bd_clo (.nil _))), _, _, _, _, _, _, _, _, _, _, _, rfl⟩
      ·have z : ilt (Int.ofNat (bs b).length) (Int.ofNat k) = false := by rw [hl2, ilt_eq]; exact decide_eq_false (by simp only [Int.ofNat_eq_natCast]; omega)
       have e37 : List.take ((Int.ofNat ((bs b).length - k)).toNat - 0) (List.drop 0 (bs b)) = bs (b.take (b.length - k)) := by
        show List.take ((bs b).length - k) (bs b) = _
        rw [hl2, bs_take]
       have tl : (bs (b.take (b.length - k))).length <= 1000 := by rw [bs_length, List.length_take]; omega
       repeat (first | refine EvQ.run ?_ | refine EvQ.fin X.rs ?_ | refine EvQ.fin1 (fun _ => rfl) rfl ?_)
       refine fin2 (fun _ => rfl) rfl rfl ?_
       refine ⟨_, _, _, _, PQ.of (.g (ptB_close (id := 1) (x := b.take (b.length - k)) rfl (Nat.le_of_ble_eq_true rfl) ((List.nil_append _).trans e37) ?_ (by rw [List.length_take]; omega) ys_vs) (.gs bd_clo (.nil _))), _, _, _, _, _, _, _, _, _, _, _, rfl⟩
       rw [e37, bs_length]; exact Nat.zero_add _
   ·clear h
    have hb2 := hp
    clear hp hl
    repeat (first | refine EvQ.run ?_ | refine EvQ.fin X.rs ?_ | refine EvQ.fin1 (fun _ => rfl) rfl ?_)
    generalize p = b at *
    refine EvQ.cond rfl (fun h => ?_) (fun h => ?_)
    ·clear h
     have hl3 := bs_length b
     by_cases h5 : b.length < 5
     ·have z5 : ilt (Int.ofNat (bs b).length) (Int.ofNat 5) = true := by rw [hl3, ilt_eq]; exact decide_eq_true (by simp only [Int.ofNat_eq_natCast]; omega)
      repeat (first | refine EvQ.run ?_ | refine EvQ.lift (fun _ zn => X.pcall (b6) X.cq rfl X.al rfl zn) ?_ | refine EvQ.lift (fun _ zn => X.pcallG (b6) rfl X.cq rfl X.al rfl zn) ?_ | refine EvQ.lift (fun _ zn => X.pcallC (b6) rfl X.cq rfl X.al rfl zn) ?_ | refine EvQ.lift (fun _ zn => X.pcallT (b6) (by decide) X.cq rfl X.al rfl zn) ?_ | refine EvQ.lift (fun _ zn => X.call rfl X.al (b6) zn) ?_ | refine EvQ.fin X.rs ?_ | refine EvQ.fin1 (fun _ => rfl) rfl ?_)
      refine fin2 (fun _ => rfl) rfl rfl ?_
      exact ⟨_, _, _, _, PQ.of (.gs pt_clo (.gs bd_clo (.nil _))), _, _, _, _, _, _, _, _, _, _, _, rfl⟩
     ·have z5 : ilt (Int.ofNat (bs b).length) (Int.ofNat 5) = false := by rw [hl3, ilt_eq]; exact decide_eq_false (by simp only [Int.ofNat_eq_natCast]; omega)
      obtain ⟨n, ba⟩ := four_any b (by omega)
      repeat (first | refine EvQ.run ?_ | refine EvQ.lift (fun _ zn => X.pcall (ba) X.cq rfl X.al rfl zn) ?_ | refine EvQ.lift (fun _ zn => X.pcallG (ba) rfl X.cq rfl X.al rfl zn) ?_ | refine EvQ.lift (fun _ zn => X.pcallC (ba) rfl X.cq rfl X.al rfl zn) ?_ | refine EvQ.lift (fun _ zn => X.pcallT (ba) (by decide) X.cq rfl X.al rfl zn) ?_ | refine EvQ.lift (fun _ zn => X.call rfl X.al (ba) zn) ?_ | refine EvQ.fin X.rs ?_ | refine EvQ.fin1 (fun _ => rfl) rfl ?_)
      refine EvQ.cond rfl (fun h => ?_) (fun h => ?_)
      ·repeat (first | refine EvQ.run ?_ | refine EvQ.lift (fun _ zn => X.pcall (bs1) X.cq rfl X.al rfl zn) ?_ | refine EvQ.lift (fun _ zn => X.pcallG (bs1) rfl X.cq rfl X.al rfl zn) ?_ | refine EvQ.lift (fun _ zn => X.pcallC (bs1) rfl X.cq rfl X.al rfl zn) ?_ | refine EvQ.lift (fun _ zn => X.pcallT (bs1) (by decide) X.cq rfl X.al rfl zn) ?_ | refine EvQ.lift (fun _ zn => X.call rfl X.al (bs1) zn) ?_ | refine EvQ.fin X.rs ?_ | refine EvQ.fin1 (fun _ => rfl) rfl ?_)
       refine fin2 (fun _ => rfl) rfl rfl ?_
       exact ⟨_, _, _, _, PQ.of (.gs pt_clo (.gs bd_clo (.nil _))), _, _, _, _, _, _, _, _, _, _, _, rfl⟩
      ·clear h
       repeat (first | refine EvQ.run ?_ | refine EvQ.fin X.rs ?_ | refine EvQ.fin1 (fun _ => rfl) rfl ?_)
       have eb : List.take ((bs b).length - (Int.ofNat 5).toNat) (List.drop (Int.ofNat 5).toNat (bs b)) = bs (b.drop 5) := by
        rw [List.take_of_length_le (by simp)]
        simp [bs, List.map_drop]
       rw [eb]
       have hb3 : (b.drop 5).length <= 1000 := by simp; omega
       clear hl3 z5 ba hb2 h5
       generalize b.drop 5 = b2 at *
       clear eb
       have hb2 := hb3
       clear hb3
       generalize b2 = b at *
       have e37 : List.take ((Int.ofNat ((bs b).length - 0)).toNat - 0) (List.drop 0 (bs b)) = bs b := by show List.take (bs b).length (bs b) = _; exact List.take_length
       repeat (first | refine EvQ.run ?_ | refine EvQ.fin X.rs ?_ | refine EvQ.fin1 (fun _ => rfl) rfl ?_)
       refine fin2 (fun _ => rfl) rfl rfl ?_
       refine ⟨_, _, _, _, PQ.of (.g (ptB_close (id := 1) (x := b) rfl (Nat.le_of_ble_eq_true rfl) ((List.nil_append _).trans e37) ?_ hb2 ys_vs) (.gs bd_clo (.nil _))), _, _, _, _, _, _, _, _, _, _, _, rfl⟩
       rw [e37, bs_length]; exact Nat.zero_add _
    ·clear h
     have e37 : List.take ((Int.ofNat ((bs b).length - 0)).toNat - 0) (List.drop 0 (bs b)) = bs b := by show List.take (bs b).length (bs b) = _; exact List.take_length
     repeat (first | refine EvQ.run ?_ | refine EvQ.fin X.rs ?_ | refine EvQ.fin1 (fun _ => rfl) rfl ?_)
     refine fin2 (fun _ => rfl) rfl rfl ?_
     refine ⟨_, _, _, _, PQ.of (.g (ptB_close (id := 1) (x := b) rfl (Nat.le_of_ble_eq_true rfl) ((List.nil_append _).trans e37) ?_ hb2 ys_vs) (.gs bd_clo (.nil _))), _, _, _, _, _, _, _, _, _, _, _, rfl⟩
     rw [e37, bs_length]; exact Nat.zero_add _
 obtain ⟨r, h, P, a, b, c, q, z⟩ := main
 exact ⟨P, a, b, c, EvP.ofQ d17 rfl rfl rfl ⟨r, h, q⟩, z⟩
end Go.Proofs.YtndodhmfdjcjgaaGreatDoor
