import Derived.Test.YtfnoiklmcmboeaaGreatDoorEvE
import Derived.Test.YtfnoiklmcmboeaaGreatDoorCnw6
set_option linter.unusedSectionVars false
set_option linter.unusedVariables false
set_option linter.unusedSimpArgs false
-- script.New with any configuration (EvHp EvOwn)
namespace Go.Proofs.YtfnoiklmcmboeaaGreatDoor.cnw
open Go hiding Fn
open Ev tab
attribute [local irreducible] EvP EvD EvL EvC EvO evGds evLs C.run sK bK gK pK fK lpB stepD stat
/-- addresses of ends -/
def pts (l : List Nat) : List (List V) := l.map fun e => [.pt e 0 0]
theorem pts_length (l : List Nat) : (pts l).length = l.length := by simp [pts]
theorem pts_append (a b : List Nat) : pts a ++ pts b = pts (a ++ b) := by simp [pts]
abbrev end0 : Bk := ⟨3, false, [[.np, .it .i64 0, .ns]]⟩
def wdR (c : Cfg) (p : Nat) (a b : V) : List V := [.it .i64 c.bud, .fl .f64 c.sh, .it .i64 c.st, .it .i64 c.wn, .it .i64 c.ls, .it .i64 c.tr, .it .i64 c.ups, .pt p 0 0, a, b, .ns, .ns]
/-- a world, whose places nobody took -/
structure WdJ (hp : Hp) (c : Cfg) (w p : Nat) (a b : V) (x y : List Nat) : Prop where
  obj : hget hp w = some ⟨12, false, [wdR c p a b]⟩
  lim : hp.lim ≤ w
  lt : w < hp.next
  oa : Ow hp a 1 (pts x)
  ob : Ow hp b 1 (pts y)
  ends : ∀ e, e ∈ x ++ y → hget hp e = some end0 ∧ w < e ∧ e < hp.next
  ai : ∀ id, idOf a = some id → w < id
  bi : ∀ id, idOf b = some id → w < id
  ab : ∀ id, idOf a = some id → idOf b ≠ some id
set_option maxHeartbeats 32000000 in
theorem wd_loop1 (hp0 : Hp) (c : Cfg) (w p : Nat) (hJ : WdJ hp0 c w p .ns .ns [] []) (lo : Lo) (hlo : shed [1] lo = fun _ => none) (tm : Tm)
    (hk : [6, 19].map (fun x => (x, tm x)) = [(6, .pt w 0 0), (19, .it .i64 (Int.ofNat 0))]) :
    ∃ r, EvL Fq [6, 19] [1] (lpB (d10.body.lps.getD 0 .skip)) ⟨tm, lo, hp0⟩ r ∧ XtQ 0 [(6, .pt w 0 0)] (fun lo hp => lo = (fun _ => none) ∧ ∃ a x, WdJ hp c w p a .ns x [] ∧ x.length = 8 ∧ Up w hp0 hp) r := by
  refine EvL.invQ (S := Nat) (fun i => [(6, .pt w 0 0), (19, .it .i64 (Int.ofNat i))]) (fun i lo hp => shed [1] lo = (fun _ => none) ∧ i ≤ 8 ∧ ∃ a x, WdJ hp c w p a .ns x [] ∧ x.length = i ∧ Up w hp0 hp) (fun i => 8 - i) _ ?_ 0 tm lo hp0 ⟨hlo, Nat.zero_le _, .ns, [], hJ, rfl, .refl _ _⟩ hk
  intro i lo hp ⟨e1, e2, a, x, hW, hx, hU⟩
  rw [e1]
  by_cases hi : i < 8
  · have hobj := hW.obj
    have hlim := hW.lim
    have hlt := hW.lt
    have hO := hW.oa
    have al := hO.lp
    have ac := hO.cells
    have ak := hO.keep
    unfold wdR at hobj
    have hlim2 : hp.lim ≤ hp.next := by omega
    have hO1 : Ow (hnew (hnew hp end0) ⟨1, false, [[.pt hp.next 0 0]]⟩) a 1 (pts x) := (hO.nw _).nw _
    have els : Els (hnew (hnew hp end0) ⟨1, false, [[.pt hp.next 0 0]]⟩) 1 (.hs (hp.next + 1) 0 1) [[.pt hp.next 0 0]] :=
      Sl.els (.inr (.inr ⟨hp.next + 1, 0, false, [[.pt hp.next 0 0]], rfl, Nat.lt_succ_self _, by show hp.lim ≤ hp.next + 1; omega, hget_new (hnew hp end0) _, Nat.le_refl _, rfl⟩))
    have hlx : (pts x).length = i := by rw [pts_length]; exact hx
    have hne : ∀ j, j = w → idOf a ≠ some j := fun j q q2 => by have := hW.ai j q2; omega
    have hg : ∀ j, j < hp.next → idOf a ≠ some j → hget (oah (hnew (hnew hp end0) ⟨1, false, [[.pt hp.next 0 0]]⟩) a 1 (pts x ++ [[.pt hp.next 0 0]])) j = hget hp j := fun j q q2 =>
      (oah_get q2 (by show j < hp.next + 1 + 1; omega)).trans ((hget_old (by show j ≠ hp.next + 1; omega)).trans (hget_old (by omega)))
    have hge : hget (oah (hnew (hnew hp end0) ⟨1, false, [[.pt hp.next 0 0]]⟩) a 1 (pts x ++ [[.pt hp.next 0 0]])) hp.next = some end0 :=
      (oah_get (fun q => by have := hO.lt _ q; omega) (by show hp.next < hp.next + 1 + 1; omega)).trans ((hget_old (by show hp.next ≠ hp.next + 1; omega)).trans (hget_new _ _))
    have hgn : hget (oah (hnew (hnew hp end0) ⟨1, false, [[.pt hp.next 0 0]]⟩) a 1 (pts x ++ [[.pt hp.next 0 0]])) (hp.next + 2) = some ⟨1, false, pts x ++ [[.pt hp.next 0 0]]⟩ := oah_new (hp := hnew (hnew hp end0) ⟨1, false, [[.pt hp.next 0 0]]⟩)
    have hn2 : (oah (hnew (hnew hp end0) ⟨1, false, [[.pt hp.next 0 0]]⟩) a 1 (pts x ++ [[.pt hp.next 0 0]])).next = hp.next + 3 := oah_next
    have hl2 : (oah (hnew (hnew hp end0) ⟨1, false, [[.pt hp.next 0 0]]⟩) a 1 (pts x ++ [[.pt hp.next 0 0]])).lim = hp.lim := oah_lim
    have hobj2 := (hg w hlt (hne w rfl)).trans hobj
    have hUo : Up w hp (oah (hnew (hnew hp end0) ⟨1, false, [[.pt hp.next 0 0]]⟩) a 1 (pts x ++ [[.pt hp.next 0 0]])) := ⟨by omega, hl2, fun j q => hg j (by omega) (fun q2 => by have := hW.ai j q2; omega)⟩
    repeat (first | refine EvQ.run ?_ | refine EvQ.fin X.rs ?_ | refine EvQ.fin1 (fun _ => rfl) rfl ?_)
    refine EvQ.lift (fun _ zn => X.apo (hp := hnew (hnew hp end0) ⟨1, false, [[.pt hp.next 0 0]]⟩) (v := a) (rows := pts x) (new := [[.pt hp.next 0 0]]) rfl rfl hO1 els (List.cons_ne_nil _ _) (fun _ => rfl) (by rw [hlx]; show (i + 1) * 8 ≤ _; omega) zn) ?_
    have hid : (hnew (hnew hp end0) ⟨1, false, [[.pt hp.next 0 0]]⟩).next = hp.next + 2 := rfl
    generalize oah (hnew (hnew hp end0) ⟨1, false, [[.pt hp.next 0 0]]⟩) a 1 (pts x ++ [[.pt hp.next 0 0]]) = hp2 at *
    repeat (first | refine EvQ.run ?_ | refine EvQ.fin X.rs ?_ | refine EvQ.fin1 (fun _ => rfl) rfl ?_)
    refine EvQ.go (i + 1) X.kv ⟨X.lo, by omega, .hs (hp.next + 2) 0 ((pts x).length + 1), x ++ [hp.next], ⟨hget_set _ _ _, by show hp2.lim ≤ w; omega, by show w < hp2.next; omega, .inr ⟨hp.next + 2, ?_, by show _ < hp2.next; omega, by show hp2.lim ≤ _; omega, ?_⟩, .ns, ?_, (fun id q => by cases q; omega), (fun id q => by cases q), (fun id q q2 => by cases q2)⟩, by rw [List.length_append, hx]; rfl, (hU.trans hUo).trans (Up.set _ _ _ (Nat.le_refl _))⟩ (by show 8 - (i + 1) < 8 - i; omega)
    · rw [← pts_append, List.length_append]; rfl
    · refine (hget_other (by omega)).trans ?_
      rw [← pts_append]; exact hgn
    · intro e he
      rw [List.append_nil] at he
      rcases List.mem_append.1 he with he | he
      · obtain ⟨g1, g2, g3⟩ := hW.ends e (by rw [List.append_nil]; exact he)
        refine ⟨(hget_other (by omega)).trans ((hg e g3 fun q => ?_).trans g1), g2, by show e < hp2.next; omega⟩
        rcases hO with ⟨rfl, _⟩ | ⟨id, rfl, _, _, q3⟩
        · cases q
        · cases q; rw [g1] at q3; cases q3
      · rcases List.mem_singleton.1 he with rfl
        exact ⟨(hget_other (by omega)).trans hge, hlt, by show hp.next < hp2.next; omega⟩
  · repeat' (first | refine EvQ.run ?_ | (refine EvQ.pickB rfl rfl rfl ?_) | (refine EvQ.cond rfl (fun h => ?_) (fun h => ?_) <;> ((first | replace h := X.nm h | skip); try have hne := ne_len h)) | (refine EvQ.g1 rfl (fun h => ?_) (fun h => ?_) <;> ((first | replace h := X.nm h | skip); try have hne := ne_len h)) | (refine EvQ.pick rfl (fun _ => rfl) (fun _ => rfl) (fun h => ?_) (fun h => ?_) <;> ((first | replace h := X.nm h | skip); try have hne := ne_len h)) | refine EvQ.fin X.rs ?_ | refine EvQ.fin1 (fun _ => rfl) rfl ?_)
    exact EvQ.xt (.mk' X.kv ⟨rfl, a, x, hW, by omega, hU⟩)
set_option maxHeartbeats 32000000 in
theorem wd_loop2 (hp0 : Hp) (c : Cfg) (w p : Nat) (a : V) (x : List Nat) (hJ : WdJ hp0 c w p a .ns x []) (lo : Lo) (hlo : shed [1] lo = fun _ => none) (tm : Tm)
    (hk : [6, 35].map (fun x => (x, tm x)) = [(6, .pt w 0 0), (35, .it .i64 (Int.ofNat 0))]) :
    ∃ r, EvL Fq [6, 35] [1] (lpB (d10.body.lps.getD 1 .skip)) ⟨tm, lo, hp0⟩ r ∧ XtQ 2 [(6, .pt w 0 0)] (fun lo hp => lo = (fun _ => none) ∧ ∃ b y, WdJ hp c w p a b x y ∧ y.length = 8 ∧ Up w hp0 hp) r := by
  refine EvL.invQ (S := Nat) (fun i => [(6, .pt w 0 0), (35, .it .i64 (Int.ofNat i))]) (fun i lo hp => shed [1] lo = (fun _ => none) ∧ i ≤ 8 ∧ ∃ b y, WdJ hp c w p a b x y ∧ y.length = i ∧ Up w hp0 hp) (fun i => 8 - i) _ ?_ 0 tm lo hp0 ⟨hlo, Nat.zero_le _, .ns, [], hJ, rfl, .refl _ _⟩ hk
  intro i lo hp ⟨e1, e2, b, y, hW, hy, hU⟩
  rw [e1]
  by_cases hi : i < 8
  · have hobj := hW.obj
    have hlim := hW.lim
    have hlt := hW.lt
    have hO := hW.ob
    have hA := hW.oa
    have bl := hO.lp
    have bc := hO.cells
    have bk := hO.keep
    have al := hA.lp
    have ac := hA.cells
    have ak := hA.keep
    unfold wdR at hobj
    have hlim2 : hp.lim ≤ hp.next := by omega
    have hO1 : Ow (hnew (hnew hp end0) ⟨1, false, [[.pt hp.next 0 0]]⟩) b 1 (pts y) := (hO.nw _).nw _
    have els : Els (hnew (hnew hp end0) ⟨1, false, [[.pt hp.next 0 0]]⟩) 1 (.hs (hp.next + 1) 0 1) [[.pt hp.next 0 0]] :=
      Sl.els (.inr (.inr ⟨hp.next + 1, 0, false, [[.pt hp.next 0 0]], rfl, Nat.lt_succ_self _, by show hp.lim ≤ hp.next + 1; omega, hget_new (hnew hp end0) _, Nat.le_refl _, rfl⟩))
    have hly : (pts y).length = i := by rw [pts_length]; exact hy
    have hne : ∀ j, j = w → idOf b ≠ some j := fun j q q2 => by have := hW.bi j q2; omega
    have hg : ∀ j, j < hp.next → idOf b ≠ some j → hget (oah (hnew (hnew hp end0) ⟨1, false, [[.pt hp.next 0 0]]⟩) b 1 (pts y ++ [[.pt hp.next 0 0]])) j = hget hp j := fun j q q2 =>
      (oah_get q2 (by show j < hp.next + 1 + 1; omega)).trans ((hget_old (by show j ≠ hp.next + 1; omega)).trans (hget_old (by omega)))
    have hge : hget (oah (hnew (hnew hp end0) ⟨1, false, [[.pt hp.next 0 0]]⟩) b 1 (pts y ++ [[.pt hp.next 0 0]])) hp.next = some end0 :=
      (oah_get (fun q => by have := hO.lt _ q; omega) (by show hp.next < hp.next + 1 + 1; omega)).trans ((hget_old (by show hp.next ≠ hp.next + 1; omega)).trans (hget_new _ _))
    have hgn : hget (oah (hnew (hnew hp end0) ⟨1, false, [[.pt hp.next 0 0]]⟩) b 1 (pts y ++ [[.pt hp.next 0 0]])) (hp.next + 2) = some ⟨1, false, pts y ++ [[.pt hp.next 0 0]]⟩ := oah_new (hp := hnew (hnew hp end0) ⟨1, false, [[.pt hp.next 0 0]]⟩)
    have hn2 : (oah (hnew (hnew hp end0) ⟨1, false, [[.pt hp.next 0 0]]⟩) b 1 (pts y ++ [[.pt hp.next 0 0]])).next = hp.next + 3 := oah_next
    have hl2 : (oah (hnew (hnew hp end0) ⟨1, false, [[.pt hp.next 0 0]]⟩) b 1 (pts y ++ [[.pt hp.next 0 0]])).lim = hp.lim := oah_lim
    have hobj2 := (hg w hlt (hne w rfl)).trans hobj
    have hA2 : Ow (oah (hnew (hnew hp end0) ⟨1, false, [[.pt hp.next 0 0]]⟩) b 1 (pts y ++ [[.pt hp.next 0 0]])) a 1 (pts x) := ((hA.nw _).nw _).oah hW.ab
    have hUo : Up w hp (oah (hnew (hnew hp end0) ⟨1, false, [[.pt hp.next 0 0]]⟩) b 1 (pts y ++ [[.pt hp.next 0 0]])) := ⟨by omega, hl2, fun j q => hg j (by omega) (fun q2 => by have := hW.bi j q2; omega)⟩
    repeat (first | refine EvQ.run ?_ | refine EvQ.fin X.rs ?_ | refine EvQ.fin1 (fun _ => rfl) rfl ?_)
    refine EvQ.lift (fun _ zn => X.apo (hp := hnew (hnew hp end0) ⟨1, false, [[.pt hp.next 0 0]]⟩) (v := b) (rows := pts y) (new := [[.pt hp.next 0 0]]) rfl rfl hO1 els (List.cons_ne_nil _ _) (fun _ => rfl) (by rw [hly]; show (i + 1) * 8 ≤ _; omega) zn) ?_
    have hid : (hnew (hnew hp end0) ⟨1, false, [[.pt hp.next 0 0]]⟩).next = hp.next + 2 := rfl
    generalize oah (hnew (hnew hp end0) ⟨1, false, [[.pt hp.next 0 0]]⟩) b 1 (pts y ++ [[.pt hp.next 0 0]]) = hp2 at *
    repeat (first | refine EvQ.run ?_ | refine EvQ.fin X.rs ?_ | refine EvQ.fin1 (fun _ => rfl) rfl ?_)
    refine EvQ.go (i + 1) X.kv ⟨X.lo, by omega, .hs (hp.next + 2) 0 ((pts y).length + 1), y ++ [hp.next], ⟨hget_set _ _ _, by show hp2.lim ≤ w; omega, by show w < hp2.next; omega, ?_, .inr ⟨hp.next + 2, ?_, by show _ < hp2.next; omega, by show hp2.lim ≤ _; omega, ?_⟩, ?_, hW.ai, (fun id q => by cases q; omega), (fun id q q2 => by cases q2; have := hA.lt _ q; omega)⟩, by rw [List.length_append, hy]; rfl, (hU.trans hUo).trans (Up.set _ _ _ (Nat.le_refl _))⟩ (by show 8 - (i + 1) < 8 - i; omega)
    · exact hA2.get (Nat.le_refl _) rfl (fun id q => hget_other (fun q2 => by have := hW.ai id q; omega))
    · rw [← pts_append, List.length_append]; rfl
    · refine (hget_other (by omega)).trans ?_
      rw [← pts_append]; exact hgn
    · intro e he
      rw [← List.append_assoc] at he
      rcases List.mem_append.1 he with he | he
      · obtain ⟨g1, g2, g3⟩ := hW.ends e he
        refine ⟨(hget_other (by omega)).trans ((hg e g3 fun q => ?_).trans g1), g2, by show e < hp2.next; omega⟩
        rcases hO with ⟨rfl, _⟩ | ⟨id, rfl, _, _, q3⟩
        · cases q
        · cases q; rw [g1] at q3; cases q3
      · rcases List.mem_singleton.1 he with rfl
        exact ⟨(hget_other (by omega)).trans hge, hlt, by show hp.next < hp2.next; omega⟩
  · repeat' (first | refine EvQ.run ?_ | (refine EvQ.pickB rfl rfl rfl ?_) | (refine EvQ.cond rfl (fun h => ?_) (fun h => ?_) <;> ((first | replace h := X.nm h | skip); try have hne := ne_len h)) | (refine EvQ.g1 rfl (fun h => ?_) (fun h => ?_) <;> ((first | replace h := X.nm h | skip); try have hne := ne_len h)) | (refine EvQ.pick rfl (fun _ => rfl) (fun _ => rfl) (fun h => ?_) (fun h => ?_) <;> ((first | replace h := X.nm h | skip); try have hne := ne_len h)) | refine EvQ.fin X.rs ?_ | refine EvQ.fin1 (fun _ => rfl) rfl ?_)
    exact EvQ.xt (.mk' X.kv ⟨rfl, b, y, hW, by omega, hU⟩)
set_option maxHeartbeats 32000000 in
theorem wdN_ok {own : Bool} (hp : Hp) (c : Cfg) (h : okP c) (hl : hp.lim ≤ hp.next) : ∃ z hp', EvC Fq own 10 [.ag (rowCf c)] hp (.ret z hp') ∧ ∃ w p s a b x y, z = .tu [.pt w 0 0, .it .i64 0] ∧ WdJ hp' c w p a b x y ∧ x.length = 8 ∧ y.length = 8 ∧ hget hp' p = some ⟨27, false, [pxR c s]⟩ ∧ p < w ∧ hp.next ≤ p ∧ Up hp.next hp hp' := by
  have px := pxN_ok (own := false) hp c h hl
  obtain ⟨bud, sh, st, wn, ls, tr, ups⟩ := c
  refine EvC.ofQ d10 rfl rfl rfl ?_
  repeat (first | refine EvQ.run ?_ | refine EvQ.fin X.rs ?_ | refine EvQ.fin1 (fun _ => rfl) rfl ?_)
  refine EvQ.call rfl X.al px ?_
  rintro _ hp1 ⟨p, s, rfl, g1, p1, p2, u1⟩
  repeat (first | refine EvQ.run ?_ | refine EvQ.fin X.rs ?_ | refine EvQ.fin1 (fun _ => rfl) rfl ?_)
  have hJ : WdJ (hnew hp1 ⟨12, false, [wdR ⟨bud, sh, st, wn, ls, tr, ups⟩ p .ns .ns]⟩) ⟨bud, sh, st, wn, ls, tr, ups⟩ hp1.next p .ns .ns [] [] :=
    ⟨hget_new _ _, by show hp1.lim ≤ hp1.next; have := u1.lim; have := u1.next; omega, Nat.lt_succ_self _, .ns, .ns, (fun e he => nomatch he), (fun _ q => nomatch q), (fun _ q => nomatch q), (fun _ q => nomatch q)⟩
  refine EvQ.loop (wd_loop1 _ _ hp1.next p hJ _ ?_ _ ?_) ?_
  · exact X.lo
  · exact X.kv
  rintro _ ⟨tm, lo, hp2, rfl, rfl, a, x, hW2, hx, u2⟩
  repeat (first | refine EvQ.run ?_ | refine EvQ.fin X.rs ?_ | refine EvQ.fin1 (fun _ => rfl) rfl ?_)
  refine EvQ.loop (wd_loop2 _ _ hp1.next p a x hW2 _ ?_ _ ?_) ?_
  · exact X.lo
  · exact X.kv
  rintro _ ⟨tm, lo, hp3, rfl, rfl, b, y, hW3, hy, u3⟩
  repeat' (first | refine EvQ.run ?_ | (refine EvQ.pickB rfl rfl rfl ?_) | (refine EvQ.cond rfl (fun h => ?_) (fun h => ?_) <;> ((first | replace h := X.nm h | skip); try have hne := ne_len h)) | (refine EvQ.g1 rfl (fun h => ?_) (fun h => ?_) <;> ((first | replace h := X.nm h | skip); try have hne := ne_len h)) | (refine EvQ.pick rfl (fun _ => rfl) (fun _ => rfl) (fun h => ?_) (fun h => ?_) <;> ((first | replace h := X.nm h | skip); try have hne := ne_len h)) | refine EvQ.fin X.rs ?_ | refine EvQ.fin1 (fun _ => rfl) rfl ?_)
  have uu : Up hp1.next hp1 hp3 := ((Up.new hp1 _ (Nat.le_refl _)).trans u2).trans u3
  exact ⟨_, _, rfl, hp1.next, p, s, a, b, x, y, rfl, hW3, hx, hy, (uu.get p p2).trans g1, p2, p1, u1.trans (uu.mono u1.next)⟩
end Go.Proofs.YtfnoiklmcmboeaaGreatDoor.cnw
