import Derived.Test.YtpncefcicfhibaaGreatDoorEvE
import Derived.Test.YtpncefcicfhibaaGreatDoorCw4
set_option linter.unusedVariables false
set_option linter.unusedSimpArgs false
set_option linter.unusedSectionVars false
-- DATA, said by a connection (EvHp EvOwn)
namespace Go.Proofs.YtpncefcicfhibaaGreatDoor.win
open Go hiding Fn
open Ev tab back
attribute [local irreducible] EvP EvD EvL EvC EvO evGds evLs C.run sK bK gK pK fK lpB stepD numE bareE
def Gd (pw : Int) (o n len : Nat) (hp : Hp) : Prop := ∃ q qs, WS hp pw (Int.ofNat o) q qs (Int.ofNat n) ∧ qs.length ≤ len
section
variable {hp : Hp} {pw : Int} {q : V} {qs : List Int}
theorem put_ws {n o : Int} (hS : WS hp pw o q qs n) (hpB : Hp) (z1 : Ez hp hpB) (g1 : ∀ j, idOf q ≠ some j → hget hpB j = hget hp j) (fb : List Int) (o' n' : Int) (hpZ : Hp)
    (e : hpZ = hset (hset (hset (hnew hpB ⟨1, false, bs fb⟩) 0 (some ⟨26, false, [rowC (cW pw o (.hs hpB.next 0 (bs fb).length))]⟩)) 0 (some ⟨26, false, [rowC (cW pw o' (.hs hpB.next 0 (bs fb).length))]⟩)) 29 (some ⟨6, false, [rowW n']⟩)) : WS hpZ pw o' (.hs hpB.next 0 (bs fb).length) fb n' := by
  subst e
  have hlt := hS.lt
  have hl := z1.lim
  have hn := z1.next
  have hlim := hS.ps.lim
  have gN : ∀ j, j ≠ 0 → j ≠ 29 → j < hp.next → idOf q ≠ some j → hget (hset (hset (hset (hnew hpB ⟨1, false, bs fb⟩) 0 (some ⟨26, false, [rowC (cW pw o (.hs hpB.next 0 (bs fb).length))]⟩)) 0 (some ⟨26, false, [rowC (cW pw o' (.hs hpB.next 0 (bs fb).length))]⟩)) 29 (some ⟨6, false, [rowW n']⟩)) j = hget hp j := by
    intro j h0 h29 hj hjq
    rw [hget_other h29, hget_other h0, hget_other h0, hget_old (by omega), g1 j hjq]
  obtain ⟨bv, r1, r2⟩ := hS.ps.rd
  have hB2 : By hpB bv [] := r2.mono1 z1.to1
  have q1n : idOf q ≠ some 1 := fun e => by have := hS.ps.q0 1 e; omega
  refine ⟨⟨?_, .inr ⟨hpB.next, rfl, by rw [hset_next, hset_next, hset_next, hnew_next]; omega, by rw [hset_lim, hset_lim, hset_lim, hnew_lim]; omega, ?_⟩, fun id e => by cases e; have := hS.ps.next; omega, ⟨bv, ?_, ?_⟩, ?_, by rw [hset_lim, hset_lim, hset_lim, hnew_lim]; omega, by rw [hset_next, hset_next, hset_next, hnew_next]; omega⟩, fun e => by injection e with e; omega, ?_, hget_set _ _ _⟩
  · show hget _ _ = _
    rw [hget_other (by decide)]; exact hget_set _ _ _
  · rw [hget_other (by omega), hget_other (by omega), hget_other (by omega)]; exact hget_new _ _
  · show hget _ _ = _
    rw [gN 1 (by decide) (by decide) (by omega) q1n]; exact r1
  · rcases hB2 with ⟨e1, _⟩ | e1 | ⟨id, i, fr, rows, e1, p1, p2, p3, p4, p5⟩
    · exact .inl ⟨e1, rfl⟩
    · exact .inr (.inl e1)
    · have hid0 : id ≠ 0 := fun e => by
        subst e
        have : hget hpB 0 = hget hp 0 := g1 0 (fun e => by have := hS.ps.q0 0 e; omega)
        rw [this, show hget hp 0 = _ from hS.ps.cn] at p3; cases p3
      have hid29 : id ≠ 29 := fun e => by
        subst e
        rw [g1 29 hS.q29, hS.way] at p3; cases p3
      exact .inr (.inr ⟨id, i, fr, rows, e1, by rw [hset_next, hset_next, hset_next, hnew_next]; omega, by rw [hset_lim, hset_lim, hset_lim, hnew_lim]; exact p2, by rw [hget_other hid29, hget_other hid0, hget_other hid0, hget_old (by omega)]; exact p3, p4, p5⟩)
  · exact (((z1.nil hS.ps.nil).new _).set (by rw [hnew_next]; omega) _ |>.set (by rw [hset_next, hnew_next]; omega) _).set (by rw [hset_next, hset_next, hnew_next]; omega) _
  · rw [gN 31 (by decide) (by decide) (by omega) hS.qn]; exact hS.ways
theorem mn3_ok (a q : Nat) (ha : a ≤ 8000) (hq : q ≤ 100000) : (bif ilt (Int.ofNat (131072 - q)) (bif ilt 16384 (Int.ofNat a) then 16384 else Int.ofNat a) then Int.ofNat (131072 - q) else (bif ilt 16384 (Int.ofNat a) then 16384 else Int.ofNat a)) = Int.ofNat a := by
  have c1 : ilt 16384 (Int.ofNat a) = false := by rw [ilt_eq]; exact decide_eq_false (by simp only [Int.ofNat_eq_natCast]; omega)
  have c2 : ilt (Int.ofNat (131072 - q)) (Int.ofNat a) = false := by rw [ilt_eq]; exact decide_eq_false (by simp only [Int.ofNat_eq_natCast]; omega)
  rw [c1, cond_false, c2, cond_false]
theorem pay_ok (L : List Nat) (m : Nat) : (((L.drop 0).take (0 + m - 0)).map fun n => [byte n]) = bs ((L.take m).map Int.ofNat) := by
  rw [List.drop_zero, Nat.zero_add, Nat.sub_zero]
  simp only [bs, byte, List.map_take, List.map_map]
  rfl
set_option maxHeartbeats 64000000 in
theorem data_ok (o n : Nat) (hS : WS hp pw (Int.ofNat o) q qs (Int.ofNat n)) (l : List Nat) (hl : l.length ≤ 8000) (ho : l.length ≤ o) (ho2 : o ≤ 65535) (hn : n ≤ 60000) (hq : qs.length ≤ 50000) :
    ∃ w hp', EvC F false 19 [.pt 0 0 0, .it .i64 1, .st l, .bo false] hp (.ret w hp') ∧ (w = .tu [.it .i64 (Int.ofNat (min n l.length)), .bo true] ∧ Gd pw (o - min n l.length) (n - min n l.length) (qs.length + 9 + min n l.length) hp') := by
  have hcR : hget hp 0 = some ⟨26, false, [rowC (cW pw (Int.ofNat o) q)]⟩ := hS.ps.cn
  have hw := hS.way
  have hlim := hS.ps.lim
  have fn := find_ok hS.ps.cn hS.ways hS.way
  have gv := giving_ok hS.way
  have ql : isLp q = false := hS.ps.q.lp
  have qc : q.cells = [q] := hS.ps.q.cells
  have qk : q.keep = true := hS.ps.q.keep
  have qn : lenOf false q = some qs.length := by have := hS.ps.q.len; rw [bs_length] at this; exact this
  generalize hm : min n l.length = m at *
  have start : ∀ {Q : R → Prop}, True := fun {Q} => trivial
  cases l with
  | nil =>
    have hm0 : m = 0 := by simp at hm; omega
    subst hm0
    refine EvC.ofQ d19 rfl rfl rfl ?_
    repeat (first | refine EvQ.run ?_ | refine EvQ.fin X.rs ?_ | refine EvQ.fin1 (fun _ => rfl) rfl ?_)
    refine EvQ.call rfl X.al fn ?_
    rintro _ hp1 ⟨rfl, rfl⟩
    repeat (first | refine EvQ.run ?_ | refine EvQ.fin X.rs ?_ | refine EvQ.fin1 (fun _ => rfl) rfl ?_)
    refine EvQ.call rfl X.al gv ?_
    rintro _ hp1 ⟨rfl, rfl⟩
    repeat (first | refine EvQ.run ?_ | refine EvQ.fin X.rs ?_ | refine EvQ.fin1 (fun _ => rfl) rfl ?_)
    refine EvQ.loop (QL := XtQ 0 [(3, .bo false), (11, .it .i64 (Int.ofNat 0))] (fun lo hp' => hp' = hp1)) ?_ ?_
    · refine EvL.invQ (S := Unit) (fun _ => [(0, .pt 0 0 0), (1, .it .i64 1), (2, .st []), (3, .bo false), (10, .pt 29 0 0), (11, .it .i64 (Int.ofNat 0))]) (fun _ _ hp' => hp' = hp1) (fun _ => 0) _ ?_ () _ _ _ rfl X.kv
      rintro _ lo hp' rfl
      repeat (first | refine EvQ.run ?_ | refine EvQ.fin X.rs ?_ | refine EvQ.fin1 (fun _ => rfl) rfl ?_)
      exact EvQ.xt (.mk' X.kv rfl)
    · rintro _ ⟨tm, lo, hp', rfl, rfl⟩
      repeat (first | refine EvQ.run ?_ | refine EvQ.fin X.rs ?_ | refine EvQ.fin1 (fun _ => rfl) rfl ?_)
      exact ⟨_, _, rfl, rfl, q, qs, hS, by omega⟩
  | cons x l =>
    refine EvC.ofQ d19 rfl rfl rfl ?_
    repeat (first | refine EvQ.run ?_ | refine EvQ.fin X.rs ?_ | refine EvQ.fin1 (fun _ => rfl) rfl ?_)
    refine EvQ.call rfl X.al fn ?_
    rintro _ hp1 ⟨rfl, rfl⟩
    repeat (first | refine EvQ.run ?_ | refine EvQ.fin X.rs ?_ | refine EvQ.fin1 (fun _ => rfl) rfl ?_)
    refine EvQ.call rfl X.al gv ?_
    rintro _ hp1 ⟨rfl, rfl⟩
    repeat (first | refine EvQ.run ?_ | refine EvQ.fin X.rs ?_ | refine EvQ.fin1 (fun _ => rfl) rfl ?_)
    have hL0 : 0 < (x :: l).length := Nat.succ_pos _
    generalize x :: l = L at *
    have hmL : m ≤ L.length := by omega
    have hmn : m ≤ n := by omega
    refine EvQ.loop (QL := fun r => XtQ 0 [(3, .bo false), (11, .it .i64 (Int.ofNat m))] (fun lo hp' => Gd pw (o - m) (n - m) (qs.length + 9 + m) hp') r ∨ RtQ [(8, .it .i64 (Int.ofNat m)), (9, .bo true)] (fun lo hp' => Gd pw (o - m) (n - m) (qs.length + 9 + m) hp') r) ?_ ?_
    · refine EvL.invQ (S := Nat) (fun w => [(0, .pt 0 0 0), (1, .it .i64 1), (2, .st L), (3, .bo false), (10, .pt 29 0 0), (11, .it .i64 (Int.ofNat w))])
        (fun w lo hp' => shed [13] lo = (fun _ => none) ∧ ((w = 0 ∧ hp' = hp1) ∨ (w = m ∧ 0 < m ∧ Gd pw (o - m) (n - m) (qs.length + 9 + m) hp'))) (fun w => L.length - w) _ ?_ 0 _ _ _ ⟨X.lo, .inl ⟨rfl, rfl⟩⟩ X.kv
      rintro w lo hp' ⟨e1, ⟨rfl, rfl⟩ | ⟨rfl, hm0, q', qs', hS', hl'⟩⟩
      · rw [e1]
        have z1 : ilt (Int.ofNat 0) (Int.ofNat L.length) = true := by rw [ilt_eq]; exact decide_eq_true (by simp only [Int.ofNat_eq_natCast]; omega)
        have le := least_ok (L.length - 0) o n (by omega)
        rw [show min (L.length - 0) n = m by omega] at le
        repeat (first | refine EvQ.run ?_ | refine EvQ.fin X.rs ?_ | refine EvQ.fin1 (fun _ => rfl) rfl ?_)
        refine EvQ.lift (fun _ zn => X.pcall le (.s (clo_it _ _) (.s (clo_vs [.one] _) (.nil _))) (congrArg (fun z => [V.it .i64 z, V.vs 1 [[V.it .i64 (Int.ofNat o)], [V.it .i64 (Int.ofNat n)]]]) (mn3_ok (L.length - 0) qs.length (by omega) (by omega))) X.al rfl zn) ?_
        rcases Nat.eq_zero_or_pos m with hm0 | hm0
        · subst hm0
          repeat (first | refine EvQ.run ?_ | refine EvQ.fin X.rs ?_ | refine EvQ.fin1 (fun _ => rfl) rfl ?_)
          exact EvQ.rt (.inr (.mk' X.kv ⟨q, qs, hS, by omega⟩))
        · have z2 : ilt (Int.ofNat m) (Int.ofNat 1) = false := by rw [ilt_eq]; exact decide_eq_false (by simp only [Int.ofNat_eq_natCast]; omega)
          have pay := pay_ok L m
          have hpl : ((L.take m).map Int.ofNat).length = m := by rw [List.length_map, List.length_take]; omega
          generalize (L.take m).map Int.ofNat = p at *
          obtain ⟨hpB, z1', g1, c1⟩ := close_by2 (ow_by hS.ps.q)
          have pt := put_ok qs 0 0 1 p (by omega)
          have erp : putL qs 0 0 1 p = qs ++ (h9 0 0 1 p.length ++ p) := by
            have : rightB 0 0 1 p.length = true := by unfold rightB; rw [hpl]; simp only [Bool.and_eq_true, decide_eq_true_eq]; omega
            unfold putL; rw [this]; simp
          rw [erp] at pt
          have hfl : (qs ++ (h9 0 0 1 p.length ++ p)).length = qs.length + 9 + m := by simp [h9, hpl]; omega
          have hcl : ClP c20.ps [q, .ag [.it .i64 0, .it .i64 0, .it .i64 1, .vs 1 (bs p)]] hp' [.vs 1 (bs qs), .ag (fr 0 0 1 p)] hpB := .c (c1 _ (by show qs.length + 5 ≤ 100000000; omega)) (.gs (fr_clo 0 0 1 p) (.nil _))
          generalize qs ++ (h9 0 0 1 p.length ++ p) = fb at *
          have pw1 := put_ws hS hpB z1' g1 fb (Int.ofNat o - Int.ofNat m) (Int.ofNat n - Int.ofNat m) _ rfl
          have hlB : hpB.lim = 0 := by rw [z1'.lim]; exact hlim
          have hnB : hpB.next = hp'.next := z1'.next
          have h30 := hS.lt
          have g0 : hget hpB 0 = some ⟨26, false, [rowC (cW pw (Int.ofNat o) q)]⟩ := by rw [g1 0 (fun e => by have := hS.ps.q0 0 e; omega)]; exact hcR
          have g29 : hget hpB 29 = some ⟨6, false, [rowW (Int.ofNat n)]⟩ := by rw [g1 29 hS.q29]; exact hw
          have hcN : hget (hnew hpB ⟨1, false, bs fb⟩) 0 = some ⟨26, false, [rowC (cW pw (Int.ofNat o) q)]⟩ := by rw [hget_old (by omega)]; exact g0
          have hwN : hget (hnew hpB ⟨1, false, bs fb⟩) 29 = some ⟨6, false, [rowW (Int.ofNat n)]⟩ := by rw [hget_old (by omega)]; exact g29
          have hwN2 : hget (hset (hset (hnew hpB ⟨1, false, bs fb⟩) 0 (some ⟨26, false, [rowC (cW pw (Int.ofNat o) (.hs hpB.next 0 (bs fb).length))]⟩)) 0 (some ⟨26, false, [rowC (cW pw (Int.ofNat o - Int.ofNat m) (.hs hpB.next 0 (bs fb).length))]⟩)) 29 = some ⟨6, false, [rowW (Int.ofNat n)]⟩ := by rw [hget_other (by decide), hget_other (by decide)]; exact hwN
          have tk1 := take_ok (Int.ofNat o) (Int.ofNat m) (by simp only [Int.ofNat_eq_natCast]; omega) (by simp only [Int.ofNat_eq_natCast]; omega) (by simp only [Int.ofNat_eq_natCast]; omega)
          have tk2 := take_ok (Int.ofNat n) (Int.ofNat m) (by simp only [Int.ofNat_eq_natCast]; omega) (by simp only [Int.ofNat_eq_natCast]; omega) (by simp only [Int.ofNat_eq_natCast]; omega)
          have cc1 : CloL [.one] [V.it .i64 (Int.ofNat o)] := .cons (clo_it _ _) .nil
          have cc2 : CloL [.one] [V.it .i64 (Int.ofNat n)] := .cons (clo_it _ _) .nil
          repeat (first | refine EvQ.run ?_ | refine EvQ.fin X.rs ?_ | refine EvQ.fin1 (fun _ => rfl) rfl ?_)
          refine EvQ.lift (fun _ zn => X.ocall pt hcl (congrArg (fun z => [q, V.ag [.it .i64 0, .it .i64 0, .it .i64 1, .vs 1 z]]) pay) (by show (isLp q || false) = false; rw [ql]; rfl) zn (fun e => absurd (congrArg List.length e) (by rw [bs_length, hfl]; simp))) ?_
          repeat (first | refine EvQ.run ?_ | refine EvQ.lift (fun _ zn => X.pcall (tk1) X.cq rfl X.al rfl zn) ?_ | refine EvQ.lift (fun _ zn => X.pcallG (tk1) rfl X.cq rfl X.al rfl zn) ?_ | refine EvQ.lift (fun _ zn => X.pcallC (tk1) rfl X.cq rfl X.al rfl zn) ?_ | refine EvQ.lift (fun _ zn => X.pcallT (tk1) (by decide) X.cq rfl X.al rfl zn) ?_ | refine EvQ.lift (fun _ zn => X.call rfl X.al (tk1) zn) ?_ | refine EvQ.lift (fun _ zn => X.pcall (tk2) X.cq rfl X.al rfl zn) ?_ | refine EvQ.lift (fun _ zn => X.pcallG (tk2) rfl X.cq rfl X.al rfl zn) ?_ | refine EvQ.lift (fun _ zn => X.pcallC (tk2) rfl X.cq rfl X.al rfl zn) ?_ | refine EvQ.lift (fun _ zn => X.pcallT (tk2) (by decide) X.cq rfl X.al rfl zn) ?_ | refine EvQ.lift (fun _ zn => X.call rfl X.al (tk2) zn) ?_ | refine EvQ.fin X.rs ?_ | refine EvQ.fin1 (fun _ => rfl) rfl ?_)
          have eo : Int.ofNat (o - m) = Int.ofNat o - Int.ofNat m := by simp only [Int.ofNat_eq_natCast]; omega
          have en : Int.ofNat (n - m) = Int.ofNat n - Int.ofNat m := by simp only [Int.ofNat_eq_natCast]; omega
          refine EvQ.go (0 + m) X.kv ⟨X.lo, .inr ⟨Nat.zero_add m, hm0, .hs hpB.next 0 (bs fb).length, fb, ?_, by omega⟩⟩ (by show L.length - (0 + m) < L.length - 0; omega)
          rw [eo, en]
          exact pw1
      · rw [e1]
        have hgood : Gd pw (o - w) (n - w) (qs.length + 9 + w) hp' := ⟨q', qs', hS', hl'⟩
        by_cases hx : w = L.length
        · have z1 : ilt (Int.ofNat w) (Int.ofNat L.length) = false := by rw [ilt_eq]; exact decide_eq_false (by simp only [Int.ofNat_eq_natCast]; omega)
          repeat (first | refine EvQ.run ?_ | refine EvQ.fin X.rs ?_ | refine EvQ.fin1 (fun _ => rfl) rfl ?_)
          exact EvQ.xt (.inl (.mk' X.kv hgood))
        · have hnw : n - w = 0 := by omega
          have hcR' : hget hp' 0 = some ⟨26, false, [rowC (cW pw (Int.ofNat (o - w)) q')]⟩ := hS'.ps.cn
          have hw' := hS'.way
          have hlim' := hS'.ps.lim
          have ql' : isLp q' = false := hS'.ps.q.lp
          have qc' : q'.cells = [q'] := hS'.ps.q.cells
          have qk' : q'.keep = true := hS'.ps.q.keep
          have qn' : lenOf false q' = some qs'.length := by have := hS'.ps.q.len; rw [bs_length] at this; exact this
          have z1 : ilt (Int.ofNat w) (Int.ofNat L.length) = true := by rw [ilt_eq]; exact decide_eq_true (by simp only [Int.ofNat_eq_natCast]; omega)
          have le := least_ok (L.length - w) (o - w) (n - w) (by omega)
          rw [show min (L.length - w) (n - w) = 0 by omega] at le
          repeat (first | refine EvQ.run ?_ | refine EvQ.fin X.rs ?_ | refine EvQ.fin1 (fun _ => rfl) rfl ?_)
          refine EvQ.lift (fun _ zn => X.pcall le (.s (clo_it _ _) (.s (clo_vs [.one] _) (.nil _))) (congrArg (fun z => [V.it .i64 z, V.vs 1 [[V.it .i64 (Int.ofNat (o - w))], [V.it .i64 (Int.ofNat (n - w))]]]) (mn3_ok (L.length - w) qs'.length (by omega) (by omega))) X.al rfl zn) ?_
          repeat (first | refine EvQ.run ?_ | refine EvQ.fin X.rs ?_ | refine EvQ.fin1 (fun _ => rfl) rfl ?_)
          exact EvQ.rt (.inr (.mk' X.kv hgood))
    · rintro _ (⟨tm, lo, hp', rfl, hG⟩ | ⟨tm, lo, hp', rfl, hG⟩)
      · repeat (first | refine EvQ.run ?_ | refine EvQ.fin X.rs ?_ | refine EvQ.fin1 (fun _ => rfl) rfl ?_)
        exact ⟨_, _, rfl, rfl, hG⟩
      · repeat (first | refine EvQ.run ?_ | refine EvQ.fin X.rs ?_ | refine EvQ.fin1 (fun _ => rfl) rfl ?_)
        exact ⟨_, _, rfl, rfl, hG⟩
end
end Go.Proofs.YtpncefcicfhibaaGreatDoor.win
