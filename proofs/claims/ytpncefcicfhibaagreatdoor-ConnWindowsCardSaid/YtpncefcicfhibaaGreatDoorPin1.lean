import Derived.Test.YtpncefcicfhibaaGreatDoorEvE
import Derived.Test.YtpncefcicfhibaaGreatDoorRdE
set_option linter.unusedVariables false
set_option linter.unusedSimpArgs false
set_option linter.unusedSectionVars false
set_option linter.unusedVariables false
set_option linter.unusedSimpArgs false
-- a connection that hears one frame (EvHp EvOwn)
namespace Go.Proofs.YtpncefcicfhibaaGreatDoor
open Go hiding Fn
open Ev tab
attribute [local irreducible] EvP EvD EvL EvC evGds evLs C.run sK bK gK pK fK lpB stepD
/-- a server's connection that has begun, between two blocks of fields -/
structure CnV where
  pw : Int
  q : V
  out : Int
  inn : Int
  ways : V
  last : Int
  mute : V
  ev : V
abbrev rowC (c : CnV) : List V := [.bo true, .it .i64 2, .it .i64 65535, .it .i64 65536, .it .i64 4096, .it .i64 2147483647, .it .i64 c.pw, .it .i64 16384, .it .i64 2147483647, .pt 1 0 0, .pt 3 0 0, .pt 5 0 0, c.q, .it .i64 c.out, .it .i64 c.inn, c.ways, .it .i64 c.last, .it .i64 1, c.mute, .it .i64 0, .bo false, .ns, .bo true, .bo false, .bo false, c.ev]
def CnO (hp : Hp) (c : CnV) : Prop := hget hp 0 = some ⟨26, false, [rowC c]⟩
abbrev CnV.calm (c : CnV) : CnV := ⟨c.pw, c.q, c.out, c.inn, c.ways, c.last, c.mute, .ns⟩
/-- all but the connection and its reader stays -/
structure Kp (hp hp' : Hp) : Prop where
  next : hp.next ≤ hp'.next
  lim : hp'.lim = hp.lim
  nil : Nil hp → Nil hp'
  get : ∀ j x, 2 ≤ j → hget hp j = some x → hget hp' j = some x
theorem Kp.refl (hp : Hp) : Kp hp hp := ⟨Nat.le_refl _, rfl, id, fun _ _ _ h => h⟩
theorem Kp.trans {a b c : Hp} (h : Kp a b) (h' : Kp b c) : Kp a c := ⟨Nat.le_trans h.next h'.next, h'.lim.trans h.lim, fun n => h'.nil (h.nil n), fun j x hj hx => h'.get j x hj (h.get j x hj hx)⟩
theorem Kp.set {hp : Hp} {i : Nat} (hi : i < 2) (hn : 2 ≤ hp.next) (b : Option Bk) : Kp hp (hset hp i b) := ⟨Nat.le_refl _, rfl, fun n => n.set (by omega) _, fun j x hj hx => by rw [hget_other (by omega)]; exact hx⟩
/-- the reader has nothing left -/
def RdE (hp : Hp) : Prop := ∃ bv, RdO hp 1 16384 [] bv 0 0 ∧ By hp bv []
/-- what a frame does -/
def FrQ (hp0 : Hp) (c : CnV) (ty fl s : Int) (p : List Int) (P : Hp → CnV → Prop) : Prop :=
  ∀ hp1 pv bv, CnO hp1 c.calm → RdO hp1 1 16384 [] bv 0 0 → By hp1 bv [] → (∀ id, idOf bv = some id → hp0.next ≤ id) → By hp1 pv p → (∀ id, idOf pv = some id → hp0.next ≤ id) → Kp hp0 hp1 → ∃ w hp2, EvC F false 43 [.pt 0 0 0, .ag [.it .i64 ty, .it .i64 fl, .it .i64 s, pv]] hp1 (.ret w hp2) ∧ (w = .tu [] ∧ ∃ c2, CnO hp2 c2 ∧ isLp c2.ev = false ∧ hp2.lim = 0 ∧ P hp2 c2)
set_option maxHeartbeats 16000000 in
theorem feed_frame {hp : Hp} {c : CnV} {v : V} {b p : List Int} {ty fl s : Int} (hc : CnO hp c) (hr : RdE hp) (hV : By hp v b) (hby : Bytes b) (hl : b.length ≤ 40000000) (hlim : hp.lim = 0) (h2 : 2 ≤ hp.next) (hN : Nil hp)
    (hf : feedA 16384 b = ([(ty, fl, s, p)], [], false)) {P : Hp → CnV → Prop} (hfr : FrQ hp c ty fl s p P) :
    ∃ w hp3, EvC F false 17 [.pt 0 0 0, v] hp (.ret w hp3) ∧ ∃ hp2 c2, w = c2.ev ∧ CnO hp2 c2 ∧ hp3 = hset hp2 0 (some ⟨26, false, [rowC c2.calm]⟩) ∧ isLp c2.ev = false ∧ hp2.lim = 0 ∧ P hp2 c2 := by
  obtain ⟨bv, hr, hB⟩ := hr
  have hcR : hget hp 0 = some ⟨26, false, [rowC c]⟩ := hc
  have hvl := hV.lp
  have hQs : ∀ b, hget hp 0 = some b → b.sz ≠ 1 := fun b hb => by rw [hcR] at hb; cases hb; exact (by decide : (26 : Nat) ≠ 1)
  have x0 : Ex hp (hset hp 0 (some ⟨26, false, [rowC c.calm]⟩)) 0 := Ex.set _ _ _
  obtain ⟨out, bv', hp1, hcall, hout, hrd, hby', hex, hnil, hbz⟩ := feed_ok (hp := hset hp 0 (some ⟨26, false, [rowC c.calm]⟩)) (Q := 1) (most := 16384) (by show hget _ _ = _; rw [hget_other (by decide)]; exact hr) (hB.mono x0 hQs) (hV.mono x0 hQs) (by simpa using hby) (by simpa using hl) (by rw [hset_lim, hlim]; decide) (by rw [hset_next]; omega) (hN.set (by omega) _)
  rw [List.nil_append, hf] at hcall hout hrd hby'
  have hcall : EvC F false 42 [.pt 1 0 0, v] (hset hp 0 (some ⟨26, false, [rowC c.calm]⟩)) (.ret (.tu [out, .ag [.it .i64 0, .it .i64 0, .it .i64 0]]) hp1) := hcall
  have hrd : RdO hp1 1 16384 [] bv' 0 0 := hrd
  have hby' : By hp1 bv' [] := hby'
  have hc1 : hget hp1 0 = some ⟨26, false, [rowC c.calm]⟩ := hex.get 0 _ (by decide) (hget_set _ _ _)
  have k1 : Kp hp hp1 := ⟨hex.next, hex.lim, fun _ => hnil, fun j x hj hx => hex.get j x (by omega) (by rw [hget_other (by omega)]; exact hx)⟩
  rcases hout with ⟨_, q⟩ | ⟨id, rows, rfl, hz, hlt, hil, hg4, hF⟩
  · cases q
  cases hF with
  | cons hpv hfz hrest =>
  cases hrest
  rename_i pv
  have pvl := hpv.lp
  have pvc := hpv.cells
  have pvk := hpv.keep
  obtain ⟨w, hp2, hcall2, rfl, c2, hc2, e2l, e2m, hP⟩ := hfr hp1 pv bv' hc1 hrd hby' hbz hpv hfz k1
  have hc2R : hget hp2 0 = some ⟨26, false, [rowC c2]⟩ := hc2
  have main : ∃ w hp3, EvC F false 17 [.pt 0 0 0, v] hp (.ret w hp3) ∧ (w = c2.ev ∧ hp3 = hset hp2 0 (some ⟨26, false, [rowC c2.calm]⟩)) := by
    refine EvC.ofQ d17 rfl rfl rfl ?_
    repeat (first | refine EvQ.run ?_ | refine EvQ.fin X.rs ?_ | refine EvQ.fin1 (fun _ => rfl) rfl ?_)
    refine EvQ.lift (fun _ zn => X.call rfl X.al hcall zn) ?_
    repeat (first | refine EvQ.run ?_ | refine EvQ.fin X.rs ?_ | refine EvQ.fin1 (fun _ => rfl) rfl ?_)
    refine EvQ.loop (QL := XtQ 0 [(0, .pt 0 0 0), (6, .lp 6 0)] (fun lo hp' => lo = lset (fun _ => none) 6 [.it .i64 0, .it .i64 0, .it .i64 0] ∧ hp' = hp2)) ?_ ?_
    · refine EvL.invQ (S := Nat) (fun i => [(0, .pt 0 0 0), (6, .lp 6 0), (26, .hs id 0 1), (27, .it .i64 (Int.ofNat 1)), (28, .it .i64 (Int.ofNat i))])
        (fun i lo hp' => shed [8] lo = lset (fun _ => none) 6 [.it .i64 0, .it .i64 0, .it .i64 0] ∧ ((i = 0 ∧ hp' = hp1) ∨ (i = 1 ∧ hp' = hp2))) (fun i => 1 - i) _ ?_ 0 _ _ _ ⟨X.lo, .inl ⟨rfl, rfl⟩⟩ X.kv
      rintro i lo hp' ⟨e1, ⟨rfl, rfl⟩ | ⟨rfl, rfl⟩⟩
      · rw [e1]
        repeat (first | refine EvQ.run ?_ | refine EvQ.fin X.rs ?_ | refine EvQ.fin1 (fun _ => rfl) rfl ?_)
        refine EvQ.lift (fun _ zn => X.call rfl X.al hcall2 zn) ?_
        repeat (first | refine EvQ.run ?_ | refine EvQ.fin X.rs ?_ | refine EvQ.fin1 (fun _ => rfl) rfl ?_)
        exact EvQ.go 1 X.kv ⟨X.lo, .inr ⟨rfl, rfl⟩⟩ (by decide)
      · rw [e1]
        repeat (first | refine EvQ.run ?_ | refine EvQ.fin X.rs ?_ | refine EvQ.fin1 (fun _ => rfl) rfl ?_)
        exact EvQ.xt (.mk' X.kv ⟨X.lo, rfl⟩)
    · rintro _ ⟨tm, lo, hp', rfl, rfl, rfl⟩
      repeat (first | refine EvQ.run ?_ | refine EvQ.fin X.rs ?_ | refine EvQ.fin1 (fun _ => rfl) rfl ?_)
      exact ⟨_, _, rfl, rfl, rfl⟩
  obtain ⟨w, hp3, m1, rfl, m3⟩ := main
  exact ⟨_, hp3, m1, hp2, c2, rfl, hc2, m3, e2l, e2m, hP⟩
end Go.Proofs.YtpncefcicfhibaaGreatDoor
