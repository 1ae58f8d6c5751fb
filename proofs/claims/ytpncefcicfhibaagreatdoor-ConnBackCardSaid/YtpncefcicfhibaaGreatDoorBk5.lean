import Derived.Test.YtpncefcicfhibaaGreatDoorEvE
import Derived.Test.YtpncefcicfhibaaGreatDoorBk4
import Derived.Test.YtpncefcicfhibaaGreatDoorBk0
set_option linter.unusedVariables false
set_option linter.unusedSimpArgs false
-- ConnBack, whole (EvHp EvOwn)
namespace Go.Proofs.YtpncefcicfhibaaGreatDoor.back
open Go hiding Fn
open Ev tab
section
variable {F : Nat → Option Ev.Fn} {R : R} {k : Ev.R → D} {clr : List Nat} {tm : Tm} {lo : Lo} {hp : Hp} {r : List DOp} {us : List Nat} {g : Option (Nat × Bool)} {d : Nat}
/-- zeros behind a slice -/
theorem apz_app {x nA : A} {n : Nat} {zs : List Int} (hzs : zs = List.replicate n 0) (hn : get tm nA = .it .i64 (Int.ofNat n)) (h0' : 0 < n) (h1 : n ≤ 1000000) (nx : EvD F (evLs clr (⟨some d, g, us, .app 1 1 x (.k (.vs 1 (bs zs)))⟩ :: r) ⟨tm, lo, hp⟩ k) R) : EvD F (evLs clr (⟨some d, g, us, .apz x nA⟩ :: r) ⟨tm, lo, hp⟩ k) R := by
  have e : evLs clr (⟨some d, g, us, .apz x nA⟩ :: r) ⟨tm, lo, hp⟩ k = natD (get tm nA) (fun n => .chk (Nat.blt 0 n) (.chk (Nat.ble n maxB) (appendD us ⟨tm, lo, hp⟩ 1 1 (get tm x) ((List.replicate n 0).map fun n => [byte n]) (fun v s => forceV (fun v => evLs clr r (put s (some d) v) k) v)))) := rfl
  have e2 : evLs clr (⟨some d, g, us, .app 1 1 x (.k (.vs 1 (bs zs)))⟩ :: r) ⟨tm, lo, hp⟩ k = appendD us ⟨tm, lo, hp⟩ 1 1 (get tm x) (bs zs) (fun v s => forceV (fun v => evLs clr r (put s (some d) v) k) v) := rfl
  have e3 : (List.replicate n 0).map (fun n => [byte n]) = bs zs := by subst hzs; simp [bs, byte]
  rw [e2] at nx
  rw [e, hn]
  show EvD F (.chk (Nat.blt 0 n) (.chk (Nat.ble n maxB) (appendD us ⟨tm, lo, hp⟩ 1 1 (get tm x) ((List.replicate n 0).map fun n => [byte n]) (fun v s => forceV (fun v => evLs clr r (put s (some d) v) k) v)))) R
  rw [e3]
  exact .chk (by rw [bltD]; exact decide_eq_true h0') (.chk (by rw [bleD]; exact decide_eq_true (by unfold maxB; omega)) nx)
end
theorem mk_ok {hp : Hp} (hN : Nil hp) (hlim : hp.lim = 0) (x : Int) (zs : List Int) : By (hnew (hset (hnew hp ⟨1, false, [[.it .u8 x]]⟩) hp.next none) ⟨1, false, [[.it .u8 x]] ++ bs zs⟩) (.hs (hp.next + 1) 0 (1 + (bs zs).length)) (x :: zs) ∧
    Nil (hnew (hset (hnew hp ⟨1, false, [[.it .u8 x]]⟩) hp.next none) ⟨1, false, [[.it .u8 x]] ++ bs zs⟩) ∧ (hnew (hset (hnew hp ⟨1, false, [[.it .u8 x]]⟩) hp.next none) ⟨1, false, [[.it .u8 x]] ++ bs zs⟩).lim = 0 ∧
    hp.next ≤ (hnew (hset (hnew hp ⟨1, false, [[.it .u8 x]]⟩) hp.next none) ⟨1, false, [[.it .u8 x]] ++ bs zs⟩).next ∧ ∀ j y, j < hp.next → hget hp j = some y → hget (hnew (hset (hnew hp ⟨1, false, [[.it .u8 x]]⟩) hp.next none) ⟨1, false, [[.it .u8 x]] ++ bs zs⟩) j = some y := by
  have h2 : Nil (hset (hnew hp ⟨1, false, [[.it .u8 x]]⟩) hp.next none) := (hN.new _).set (by rw [hnew_next]; omega) _
  have e : (hset (hnew hp ⟨1, false, [[.it .u8 x]]⟩) hp.next none).next = hp.next + 1 := by rw [hset_next, hnew_next]
  have g := hget_new (hset (hnew hp ⟨1, false, [[.it .u8 x]]⟩) hp.next none) ⟨1, false, [[.it .u8 x]] ++ bs zs⟩
  rw [e] at g
  refine ⟨?_, h2.new _, by rw [hnew_lim, hset_lim, hnew_lim]; exact hlim, by rw [hnew_next, e]; omega, fun j y hj hy => by rw [hget_old (by rw [e]; omega), hget_other (by omega), hget_old (by omega)]; exact hy⟩
  refine .inr (.inr ⟨hp.next + 1, 0, false, x :: zs, ?_, by rw [hnew_next, e]; omega, by rw [hnew_lim, hset_lim, hnew_lim, hlim]; omega, g, by simp, by simp⟩)
  rw [bs_length, List.length_cons, Nat.add_comm 1]
theorem ps_mono {hp hp' : Hp} {c : CnV} {q : List Int} (h : PS hp c q) (h1 : hp.next ≤ hp'.next) (h2 : hp'.lim = hp.lim) (h3 : Nil hp') (h4 : ∀ j x, j < hp.next → hget hp j = some x → hget hp' j = some x) : PS hp' c q := by
  have hn := h.next
  obtain ⟨bv, r1, r2⟩ := h.rd
  refine ⟨h4 0 _ (by omega) h.cn, h.q.get h1 h2 fun id e => ?_, h.q0, ⟨bv, h4 1 _ (by omega) r1, ?_⟩, h3, by rw [h2]; exact h.lim, by omega⟩
  · rcases h.q with ⟨e2, _⟩ | ⟨id', e2, q1, q2, q3⟩
    · rw [e2] at e; cases e
    · rw [e2] at e; cases e
      rw [h4 _ _ q1 q3, q3]
  · rcases r2 with ⟨e1, _⟩ | e1 | ⟨id, i, fr, rows, e1, q1, q2, q3, q4, q5⟩
    · exact .inl ⟨e1, rfl⟩
    · exact .inr (.inl e1)
    · exact .inr (.inr ⟨id, i, fr, rows, e1, by omega, by rw [h2]; exact q2, h4 _ _ q1 q3, q4, q5⟩)
abbrev wy : V := .hs 25 0 0
theorem psR : PS hpR (cM 65535 (.hs 28 0 13) 65535 65535 wy 30 .ns) [0, 0, 4, 3, 0, 0, 0, 0, 1, 0, 0, 0, 8] where
  cn := rowR0
  q := .inr ⟨28, rfl, by decide, Nat.zero_le _, queueR⟩
  q0 := fun id e => by cases e; decide
  rd := ⟨.hs 14 10 0, readR, .inr (.inr ⟨14, 10, false, [0, 0, 1, 1, 4, 0, 0, 0, 1, 130], rfl, by decide, Nat.zero_le _, restR, by decide, rfl⟩)⟩
  nil := fun j hj => by
    cases h : hget hpR j with
    | none => rfl
    | some b =>
      have := keysR j (keys_of _ _ b h)
      exact absurd hj (by show ¬ 32 ≤ j; omega)
  lim := rfl
  next := by decide
attribute [local irreducible] EvP EvD EvL EvC evGds evLs C.run sK bK gK pK fK lpB stepD hpA hpH hpR
set_option maxHeartbeats 8000000 in
theorem dead_ok {hp : Hp} {f : Bool} {c : CnV} (h : hget hp 0 = some ⟨26, f, [rowC c]⟩) : ∃ w hp', EvC F false 22 [.pt 0 0 0] hp (.ret w hp') ∧ (w = .bo false ∧ hp' = hp) := by
  refine EvC.ofQ d22 rfl rfl rfl ?_
  repeat (first | refine EvQ.run ?_ | refine EvQ.fin X.rs ?_ | refine EvQ.fin1 (fun _ => rfl) rfl ?_)
  exact ⟨_, _, rfl, rfl, rfl⟩
/-- what holds in each round -/
def JB (hp : Hp) : Prop := ∃ q qs fr, PS hp (cM 65535 q 65535 65535 wy 30 .ns) qs ∧ qs.length ≤ 100 ∧ idOf q ≠ some 30 ∧ hget hp 30 = some ⟨1, fr, [[.it .i64 1]]⟩
set_option maxHeartbeats 64000000 in
theorem back_loop (xn : Nat) (hx : xn ≤ 255) (n : Nat) (hn : n ≤ 20) (hp0 : Hp) (hJ : JB hp0) (lo : Lo) (hlo : shed [7] lo = fun _ => none) (tm : Tm)
    (hk : [1, 5, 6].map (fun x => (x, tm x)) = [(1, .it .u8 (Int.ofNat xn)), (5, .pt 0 0 0), (6, .it .i64 (Int.ofNat n))]) :
    ∃ r, EvL F [1, 5, 6] [7] (lpB (d7.body.lps.getD 0 .skip)) ⟨tm, lo, hp0⟩ r ∧ XtQ 0 [(5, .pt 0 0 0)] (fun lo hp => JB hp) r := by
  refine EvL.invQ (S := Nat) (fun i => [(1, .it .u8 (Int.ofNat xn)), (5, .pt 0 0 0), (6, .it .i64 (Int.ofNat i))])
    (fun i lo hp => shed [7] lo = (fun _ => none) ∧ i ≤ 20 ∧ JB hp) (fun i => i) _ ?_ n tm lo hp0 ⟨hlo, hn, hJ⟩ hk
  rintro i lo hp ⟨e1, e2, hJ⟩
  rw [e1]
  cases i with
  | zero =>
    repeat (first | refine EvQ.run ?_ | refine EvQ.fin X.rs ?_ | refine EvQ.fin1 (fun _ => rfl) rfl ?_)
    exact EvQ.xt (.mk' X.kv hJ)
  | succ i =>
    obtain ⟨q, qs, fr0, hS, hql, hqm, hm⟩ := hJ
    have hlim := hS.lim
    have hnx := hS.next
    have hmn : 30 < hp.next := Nat.lt_of_not_le fun hle => by rw [hS.nil 30 hle] at hm; cases hm
    obtain ⟨zs, hzs, hz⟩ : ∃ zs : List Int, zs = List.replicate 16000 (0 : Int) ∧ zs.length = 16000 := ⟨_, rfl, List.length_replicate⟩
    have hzb : Bytes (Int.ofNat xn :: zs) := by
      intro y hy
      rcases List.mem_cons.1 hy with rfl | hy
      · simp only [Int.ofNat_eq_natCast]; omega
      · rw [hzs] at hy
        have := List.eq_of_mem_replicate hy
        omega
    obtain ⟨hBy, hNA, hlA, hnA, hgA⟩ := mk_ok hS.nil hlim (Int.ofNat xn) zs
    have hpl : (Int.ofNat xn :: zs).length = 16001 := by rw [List.length_cons, hz]
    have hbz : (bs zs).length = 16000 := by rw [bs_length, hz]
    obtain ⟨hpB, z1, g1, c1⟩ := close_by2 hBy
    have rp := (rput_ok [] 0 8 1 (Int.ofNat xn :: zs) (by rw [hpl]; decide)).toP
    have erp : putL [] 0 8 1 (Int.ofNat xn :: zs) = h9 0 8 1 (Int.ofNat xn :: zs).length ++ (Int.ofNat xn :: zs) := by
      have : rightB 0 8 1 (Int.ofNat xn :: zs).length = true := by unfold rightB; rw [hpl]; rfl
      unfold putL; rw [this]; simp
    rw [erp] at rp
    have gB : ∀ j y, j < hp.next → hget hp j = some y → hget hpB j = some y := fun j y hj hy => by
      rw [g1 j (fun e => by injection e with e; omega)]; exact hgA j y hj hy
    have hSB : PS hpB (cM 65535 q 65535 65535 wy 30 .ns) qs := ps_mono hS (by rw [z1.next]; exact hnA) (by rw [z1.lim, hlA, hlim]) (z1.nil hNA) gB
    have hfd := feed_data hSB hqm (by decide) (gB 30 _ hmn hm) rfl rfl hql xn zs hx hz (By.vs hpB _) ((h9_bytes 0 8 1 _).append hzb)
    have hcl : ClP c24.ps [.ns, .ag [.it .i64 0, .it .i64 8, .it .i64 1, .hs (hp.next + 1) 0 (1 + (bs zs).length)]] (hnew (hset (hnew hp ⟨1, false, [[.it .u8 (Int.ofNat xn)]]⟩) hp.next none) ⟨1, false, [[.it .u8 (Int.ofNat xn)]] ++ bs zs⟩) [.vs 1 (bs []), .ag (fr 0 8 1 (Int.ofNat xn :: zs))] hpB :=
      .s2 (clo_ns [.one]) (.g (close_fr c1 _ (by rw [hpl]; decide)) (.nil _))
    generalize h9 0 8 1 (Int.ofNat xn :: zs).length ++ (Int.ofNat xn :: zs) = fb at *
    repeat (first | refine EvQ.run ?_ | refine EvQ.fin X.rs ?_ | refine EvQ.fin1 (fun _ => rfl) rfl ?_)
    refine EvQ.lift (fun _ zn => apz_app hzs rfl (by decide) (by decide) zn) ?_
    refine EvQ.lift (fun _ zn => X.apf (n := 1) rfl rfl (Els.vs _) (hget_new _ _) (by rw [hnew_lim, hlim]; rfl) rfl rfl (by rw [hbz]; decide) rfl zn) ?_
    repeat (first | refine EvQ.run ?_ | refine EvQ.fin X.rs ?_ | refine EvQ.fin1 (fun _ => rfl) rfl ?_)
    refine EvQ.lift (fun _ zn => X.pcall rp hcl rfl X.al rfl zn) ?_
    repeat (first | refine EvQ.run ?_ | refine EvQ.fin X.rs ?_ | refine EvQ.fin1 (fun _ => rfl) rfl ?_)
    refine EvQ.call rfl X.al hfd ?_
    rintro _ hp3 ⟨rfl, q', hS3, hq3, hm3⟩
    have dd := dead_ok hS3.cn
    repeat (first | refine EvQ.run ?_ | refine EvQ.fin X.rs ?_ | refine EvQ.fin1 (fun _ => rfl) rfl ?_)
    refine EvQ.call rfl X.al dd ?_
    rintro _ hp3' ⟨rfl, rfl⟩
    have ou := out_all2 hS3 (by rw [List.length_append]; show qs.length + 13 ≤ _; omega)
    repeat (first | refine EvQ.run ?_ | refine EvQ.fin X.rs ?_ | refine EvQ.fin1 (fun _ => rfl) rfl ?_)
    refine EvQ.call rfl X.al ou ?_
    rintro w hp4 ⟨hwl, rfl⟩
    repeat (first | refine EvQ.run ?_ | refine EvQ.fin X.rs ?_ | refine EvQ.fin1 (fun _ => rfl) rfl ?_)
    refine EvQ.go i X.kv ⟨X.lo, by omega, .ns, [], true, ps_out hS3, by simp, fun e => by (cases e), ?_⟩ (by show i < i + 1; omega)
    rw [hget_other (by decide)]
    exact aph_get hS3.nil _ hm3
set_option maxHeartbeats 32000000 in
theorem back_run (r : Int) (xn : Nat) (hx : xn ≤ 255) : ∃ h, EvD F (stepD d7 [.it .i64 r, .it .u8 (Int.ofNat xn)] h0) (Rt (.bo true) h) := by
  obtain ⟨k, h1, h2, W⟩ := within_p r 1 20 (by decide) (by decide) (by decide)
  obtain ⟨n, rfl⟩ : ∃ n : Nat, k = Int.ofNat n := ⟨k.toNat, by simp only [Int.ofNat_eq_natCast]; omega⟩
  have hn : n ≤ 20 := by simp only [Int.ofNat_eq_natCast] at h2; omega
  have b1 := own_ok
  have b2 := new_ok
  have b3 := put1_ok
  have b4 := head_ok
  have b5 := reset_ok
  have hJ : JB hpR := ⟨_, _, false, psR, by decide, fun e => (by cases e), muteR⟩
  refine EvQ.law ?_
  repeat (first | refine EvQ.run ?_ | refine EvQ.lift (fun _ zn => X.pcall (b1) X.cq rfl X.al rfl zn) ?_ | refine EvQ.lift (fun _ zn => X.pcallG (b1) rfl X.cq rfl X.al rfl zn) ?_ | refine EvQ.lift (fun _ zn => X.pcallC (b1) rfl X.cq rfl X.al rfl zn) ?_ | refine EvQ.lift (fun _ zn => X.pcallT (b1) (by decide) X.cq rfl X.al rfl zn) ?_ | refine EvQ.lift (fun _ zn => X.call rfl X.al (b1) zn) ?_ | refine EvQ.lift (fun _ zn => X.pcall (b2) X.cq rfl X.al rfl zn) ?_ | refine EvQ.lift (fun _ zn => X.pcallG (b2) rfl X.cq rfl X.al rfl zn) ?_ | refine EvQ.lift (fun _ zn => X.pcallC (b2) rfl X.cq rfl X.al rfl zn) ?_ | refine EvQ.lift (fun _ zn => X.pcallT (b2) (by decide) X.cq rfl X.al rfl zn) ?_ | refine EvQ.lift (fun _ zn => X.call rfl X.al (b2) zn) ?_ | refine EvQ.lift (fun _ zn => X.pcall (b3) X.cq rfl X.al rfl zn) ?_ | refine EvQ.lift (fun _ zn => X.pcallG (b3) rfl X.cq rfl X.al rfl zn) ?_ | refine EvQ.lift (fun _ zn => X.pcallC (b3) rfl X.cq rfl X.al rfl zn) ?_ | refine EvQ.lift (fun _ zn => X.pcallT (b3) (by decide) X.cq rfl X.al rfl zn) ?_ | refine EvQ.lift (fun _ zn => X.call rfl X.al (b3) zn) ?_ | refine EvQ.lift (fun _ zn => X.pcall (b4) X.cq rfl X.al rfl zn) ?_ | refine EvQ.lift (fun _ zn => X.pcallG (b4) rfl X.cq rfl X.al rfl zn) ?_ | refine EvQ.lift (fun _ zn => X.pcallC (b4) rfl X.cq rfl X.al rfl zn) ?_ | refine EvQ.lift (fun _ zn => X.pcallT (b4) (by decide) X.cq rfl X.al rfl zn) ?_ | refine EvQ.lift (fun _ zn => X.call rfl X.al (b4) zn) ?_ | refine EvQ.lift (fun _ zn => X.pcall (b5) X.cq rfl X.al rfl zn) ?_ | refine EvQ.lift (fun _ zn => X.pcallG (b5) rfl X.cq rfl X.al rfl zn) ?_ | refine EvQ.lift (fun _ zn => X.pcallC (b5) rfl X.cq rfl X.al rfl zn) ?_ | refine EvQ.lift (fun _ zn => X.pcallT (b5) (by decide) X.cq rfl X.al rfl zn) ?_ | refine EvQ.lift (fun _ zn => X.call rfl X.al (b5) zn) ?_ | refine EvQ.lift (fun _ zn => X.pcall (W) X.cq rfl X.al rfl zn) ?_ | refine EvQ.lift (fun _ zn => X.pcallG (W) rfl X.cq rfl X.al rfl zn) ?_ | refine EvQ.lift (fun _ zn => X.pcallC (W) rfl X.cq rfl X.al rfl zn) ?_ | refine EvQ.lift (fun _ zn => X.pcallT (W) (by decide) X.cq rfl X.al rfl zn) ?_ | refine EvQ.lift (fun _ zn => X.call rfl X.al (W) zn) ?_ | refine EvQ.fin X.rs ?_ | refine EvQ.fin1 (fun _ => rfl) rfl ?_)
  refine EvQ.loop (back_loop xn hx n hn hpR hJ _ ?_ _ ?_) ?_
  · exact X.lo
  · exact X.kv
  rintro _ ⟨tm, lo, hp, rfl, q, qs, fr0, hS, hql, hqm, hm⟩
  have dd := dead_ok hS.cn
  have cr := cr_ok hp
  repeat (first | refine EvQ.run ?_ | refine EvQ.fin X.rs ?_ | refine EvQ.fin1 (fun _ => rfl) rfl ?_)
  refine EvQ.call rfl X.al dd ?_
  rintro _ hp' ⟨rfl, rfl⟩
  repeat (first | refine EvQ.run ?_ | refine EvQ.lift (fun _ zn => X.pcall (cr) X.cq rfl X.al rfl zn) ?_ | refine EvQ.lift (fun _ zn => X.pcallG (cr) rfl X.cq rfl X.al rfl zn) ?_ | refine EvQ.lift (fun _ zn => X.pcallC (cr) rfl X.cq rfl X.al rfl zn) ?_ | refine EvQ.lift (fun _ zn => X.pcallT (cr) (by decide) X.cq rfl X.al rfl zn) ?_ | refine EvQ.lift (fun _ zn => X.call rfl X.al (cr) zn) ?_ | refine EvQ.fin X.rs ?_ | refine EvQ.fin1 (fun _ => rfl) rfl ?_)
  exact ⟨_, rfl⟩
end Go.Proofs.YtpncefcicfhibaaGreatDoor.back
