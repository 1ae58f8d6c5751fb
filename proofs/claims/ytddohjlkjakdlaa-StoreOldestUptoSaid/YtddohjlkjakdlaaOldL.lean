import Derived.Test.YtddohjlkjakdlaaEvE
import Derived.Test.YtddohjlkjakdlaaEvE
import Derived.Test.YtddohjlkjakdlaaSto9
set_option linter.unusedVariables false
set_option linter.unusedSimpArgs false
-- StoreOldest
namespace Go.Proofs.Ytddohjlkjakdlaa
open Go hiding Fn
open Ev tab
attribute [local irreducible] EvP EvD EvL EvC evGds evLs C.run sK bK gK pK fK lpB stepD
theorem sl_close {ts : List Ty} {hp : Hp} {v : V} {rows : List (List V)} (h : Sl hp v ts.length rows) (hc : ∀ e, e ∈ rows → CloL ts e) (hn : rows.length + ts.length + 3 ≤ depth) :
    ∃ h', closeC depth (.sl ts) v hp = some (.vs ts.length rows, h') ∧ (∀ id b, idOf v ≠ some id → hget hp id = some b → hget h' id = some b) ∧ h'.next = hp.next ∧ h'.lim = hp.lim ∧ Rd h' v ts.length rows := by
  rcases h with ⟨rfl, rfl⟩ | rfl | ⟨id, i, fr, all, rfl, q1, q2, q3, q4, q5⟩
  · exact ⟨hp, by rw [depth_succ]; rfl, fun _ _ _ h => h, rfl, rfl, .inl ⟨rfl, rfl⟩⟩
  · exact ⟨hp, clo_depth (clo_vs ts _) hp, fun _ _ _ h => h, rfl, rfl, .inr (.inl rfl)⟩
  · have := closeC_hs (n := depth) (i := i) (len := rows.length) q3 q2 rfl q4 (by rw [q5]; exact hc) hn
    rw [q5] at this
    refine ⟨_, this, fun j b hj hb => ?_, rfl, rfl, .inr (.inr ⟨id, i, true, all, rfl, q1, hget_set _ _ _, q4, q5⟩)⟩
    rw [hget_other (fun e => hj (by rw [e]; rfl))]; exact hb
theorem rd_fr {s : Nat} {hp hp' : Hp} {v v' w : V} {L : List En} {b : Nat} {rows : List (List V)} (hR : Rd hp w 1 rows) (hS : StoV hp s v L b) (f : Fr s hp v hp' v') : Rd hp' w 1 rows := by
  rcases hR with h | h | ⟨id, i, fr, all, rfl, q1, q3, q4, q5⟩
  · exact .inl h
  · exact .inr (.inl h)
  · refine .inr (.inr ⟨id, i, fr, all, rfl, by have := f.next; omega, ?_, q4, q5⟩)
    rw [f.get id q1 (fun e => by rw [e, hS.obj] at q3; cases q3) (fun e => by
      rcases hS.o with ⟨rfl, _⟩ | ⟨id', rfl, _, _, q6⟩
      · cases e
      · cases e; rw [q3] at q6; cases q6)]
    exact q3
theorem evq_hp {F : Nat → Option Ev.Fn} {Q : Ev.R → Prop} {k : Ev.R → D} {clr : List Nat} {tm : Tm} {lo : Lo} {hp hp' : Hp} {r : List DOp} (h : hp = hp') (n : EvQ F (evLs clr r ⟨tm, lo, hp'⟩ k) Q) : EvQ F (evLs clr r ⟨tm, lo, hp⟩ k) Q := h ▸ n
def LSo (p : En) : Lo := lset (fun _ => none) 11 (rowEn p)
set_option maxHeartbeats 16000000 in
theorem old_loop2 (s : Nat) (l : List Int) (n i : Nat) (K : List (List Nat)) (hl : K.length ≤ 1000000) (key : List Nat) (p : En) (t b : Bool) (hb : decide (key ∈ K) = b) (hp0 : Hp) (w : V) (hw : Rd hp0 w 1 (txs K)) (hwi : ∀ id, idOf w = some id → id < hp0.next) (hl0 : hp0.lim ≤ hp0.next)
    (lo : Lo) (hlo : shed [13] lo = LSo p) (tm : Tm)
    (hk : [1, 5, 6, 8, 9, 11, 12, 14, 15, 16, 17].map (fun x => (x, tm x)) = [(1, .vs 1 (iv l)), (5, .it .i64 (Int.ofNat n)), (6, .pt s 0 0), (8, w), (9, .it .i64 (Int.ofNat i)), (11, .lp 11 0), (12, .st key), (14, .bo t), (15, .ns), (16, .bo false), (17, .it .i64 (Int.ofNat 0))]) :
    ∃ r, EvL F [1, 5, 6, 8, 9, 11, 12, 14, 15, 16, 17] [13] (lpB (d4.body.lps.getD 1 .skip)) ⟨tm, lo, hp0⟩ r ∧ ∃ x, XtQ 2 [(1, .vs 1 (iv l)), (5, .it .i64 (Int.ofNat n)), (6, .pt s 0 0), (9, .it .i64 (Int.ofNat i)), (11, .lp 11 0), (12, .st key), (14, .bo t), (15, x), (16, .bo b)]
      (fun lo hp => lo = LSo p ∧ Ow hp x 1 (txs (K.filter (fun x => !decide (x = key)))) ∧ Up hp0.next hp0 hp ∧ ∀ id, idOf x = some id → hp0.next ≤ id) r := by
  refine EvL.invQ (S := Nat × V × Bool) (fun y => [(1, .vs 1 (iv l)), (5, .it .i64 (Int.ofNat n)), (6, .pt s 0 0), (8, w), (9, .it .i64 (Int.ofNat i)), (11, .lp 11 0), (12, .st key), (14, .bo t), (15, y.2.1), (16, .bo y.2.2), (17, .it .i64 (Int.ofNat y.1))])
    (fun y lo hp => shed [13] lo = LSo p ∧ y.1 ≤ K.length ∧ y.2.2 = decide (key ∈ K.take y.1) ∧ Ow hp y.2.1 1 (txs ((K.take y.1).filter (fun x => !decide (x = key)))) ∧ Up hp0.next hp0 hp ∧ ∀ id, idOf y.2.1 = some id → hp0.next ≤ id) (fun y => K.length - y.1) _ ?_ (0, .ns, false) tm lo hp0
    ⟨hlo, Nat.zero_le _, by simp, .ns, .refl _ _, fun _ q => by cases q⟩ hk
  intro ⟨j, x, c⟩ lo hp ⟨e1, e2, e3, hO, hU, hid⟩
  simp only at e2 e3 hO hid
  rw [e1]
  have hR : Rd hp w 1 (txs K) := Rd.up hw hU hwi
  have wl := hw.lp
  have wc := hw.cells
  have wk := hw.keep
  have hn := hw.len
  rw [txs_length] at hn
  have xl := hO.lp
  have xc := hO.cells
  have xk := hO.keep
  have hlm : hp.lim ≤ hp.next := by rw [hU.lim]; have := hU.next; omega
  have htl := txs_length K
  have hle2 := List.length_filter_le (fun x => !decide (x = key)) (K.take j)
  rw [List.length_take] at hle2
  by_cases hi : j < K.length
  · have hge := txs_getD' hi
    have f1 := fil_eq (key := key) hi
    have f2 := fil_ne (key := key) hi
    have f3 := take_getD hi []
    have hxl : (txs ((K.take j).filter (fun x => !decide (x = key)))).length ≤ 1000000 := by rw [txs_length]; omega
    generalize K.getD j [] = k at *
    repeat' (first | refine EvQ.run ?_ | (refine EvQ.pickB rfl rfl rfl ?_) | (refine EvQ.cond rfl (fun h => ?_) (fun h => ?_) <;> ((first | replace h := X.nm h | skip); try have hne := ne_len h)) | (refine EvQ.g1 rfl (fun h => ?_) (fun h => ?_) <;> ((first | replace h := X.nm h | skip); try have hne := ne_len h)) | (refine EvQ.pick rfl (fun _ => rfl) (fun _ => rfl) (fun h => ?_) (fun h => ?_) <;> ((first | replace h := X.nm h | skip); try have hne := ne_len h)) | refine EvQ.fin X.rs ?_ | refine EvQ.fin1 (fun _ => rfl) rfl ?_)
    · obtain ⟨g1, -⟩ := f1 (by assumption)
      refine EvQ.go (j + 1, x, true) X.kv ⟨X.lo, by show j + 1 ≤ _; omega, ?_, ?_, hU, hid⟩ (by show K.length - (j + 1) < K.length - j; omega)
      · show true = decide (key ∈ K.take (j + 1))
        rw [f3, decide_eq_true (List.mem_append_right _ (by rw [show k = key by assumption]; exact List.mem_singleton_self _))]
      · show Ow _ _ 1 (txs ((K.take (j + 1)).filter _))
        rw [g1]; exact hO
    · obtain ⟨g1, -⟩ := f2 (by assumption)
      have hp' := hO.put (new := [[.st k]]) hlm
      refine EvQ.go (j + 1, _, c) X.kv ⟨X.lo, by show j + 1 ≤ _; omega, ?_, ?_, hU.oah hU.next hid, fun id q => by cases q; exact hU.next⟩ (by show K.length - (j + 1) < K.length - j; omega)
      · show c = decide (key ∈ K.take (j + 1))
        have hne : ¬ key = k := fun q => (show ¬ k = key by assumption) q.symm
        rw [f3, e3]
        simp [hne]
      · show Ow _ _ 1 (txs ((K.take (j + 1)).filter _))
        rw [g1, ← txs_append]; exact hp'
  · repeat' (first | refine EvQ.run ?_ | (refine EvQ.pickB rfl rfl rfl ?_) | (refine EvQ.cond rfl (fun h => ?_) (fun h => ?_) <;> ((first | replace h := X.nm h | skip); try have hne := ne_len h)) | (refine EvQ.g1 rfl (fun h => ?_) (fun h => ?_) <;> ((first | replace h := X.nm h | skip); try have hne := ne_len h)) | (refine EvQ.pick rfl (fun _ => rfl) (fun _ => rfl) (fun h => ?_) (fun h => ?_) <;> ((first | replace h := X.nm h | skip); try have hne := ne_len h)) | refine EvQ.fin X.rs ?_ | refine EvQ.fin1 (fun _ => rfl) rfl ?_)
    have e4 : K.take j = K := List.take_of_length_le (by omega)
    rw [e4] at hO e3
    rw [hb] at e3
    subst e3
    exact EvQ.xt ⟨x, .mk' X.kv ⟨rfl, hO, hU, hid⟩⟩
/-- what holds at the head of each round -/
structure OldJ (s n i : Nat) (w : V) (lo : Lo) (hp : Hp) : Prop where
  lo : shed [11, 13] lo = fun _ => none
  i : i ≤ 60
  ex : ∃ v L, StoV hp s v L (n * 109) ∧ PG L ∧ L.length ≤ n ∧ Rd hp w 1 (txs (keysL L))
  wi : ∀ id, idOf w = some id → id < hp.next
  ll : hp.lim ≤ hp.next
set_option maxHeartbeats 32000000 in
theorem old_loop1 (s : Nat) (l : List Int) (hl : l.length ≤ 2000000) (n : Nat) (h1n : 1 ≤ n) (h9n : n ≤ 9) (hp0 : Hp) (hS0 : StoV hp0 s .ns [] (n * 109)) (hl0 : hp0.lim ≤ hp0.next) (lo : Lo) (hlo : shed [11, 13] lo = fun _ => none) (tm : Tm)
    (hk : [1, 5, 6, 8, 9].map (fun x => (x, tm x)) = [(1, .vs 1 (iv l)), (5, .it .i64 (Int.ofNat n)), (6, .pt s 0 0), (8, .ns), (9, .it .i64 (Int.ofNat 0))]) :
    ∃ r, EvL F [1, 5, 6, 8, 9] [11, 13] (lpB (d4.body.lps.getD 0 .skip)) ⟨tm, lo, hp0⟩ r ∧ XtQ 0 [] (fun lo hp => True) r := by
  refine EvL.invQ (S := Nat × V) (fun y => [(1, .vs 1 (iv l)), (5, .it .i64 (Int.ofNat n)), (6, .pt s 0 0), (8, y.2), (9, .it .i64 (Int.ofNat y.1))])
    (fun y lo hp => OldJ s n y.1 y.2 lo hp) (fun y => 60 - y.1) _ ?_ (0, .ns) tm lo hp0 ⟨hlo, Nat.zero_le _, ⟨.ns, [], hS0, .nil, Nat.zero_le _, .inl ⟨rfl, rfl⟩⟩, (fun _ q => by cases q), hl0⟩ hk
  intro ⟨i, w⟩ lo hp ⟨e1, e2, ⟨v, L, hS, hG, hLn, hR⟩, hwi, hll⟩
  simp only at e1 e2 hR hwi hll
  rw [e1]
  have hil := iv_length l
  have wl := hR.lp
  have wc := hR.cells
  have wk := hR.keep
  by_cases hc : i < l.length ∧ i < 60
  · obtain ⟨h1, h2⟩ := hc
    have hge := iv_getD h1
    generalize l.getD i 0 = z at *
    obtain ⟨m, hm, W⟩ := within_n z 25 (by decide)
    have pg := page_ok [97 + m] 0 (by omega)
    have hE := page_eok (97 + m) 0 (by omega)
    have hcst : costS (pageE [97 + m] 0) = 109 := page_cost (97 + m) 0
    have hPp := plain_page [97 + m] 0
    have c3 := rowEn_clo (pageE [97 + m] 0)
    generalize pageE [97 + m] 0 = en at *
    rw [← byte_val m (by omega)] at pg
    have hk := key_ok en.q hE.q.k1 hE.q.k2 hE.q.k3
    have c4 := rowRq_clo en.q
    have gt := get_ok (own := false) hp s v L (n * 109) en.q hS hE.q
    have hB : putB (n * 109) en = true := by unfold putB; rw [hcst, decide_eq_false (by omega)]; rfl
    repeat (first | refine EvQ.run ?_ | refine EvQ.lift (fun _ zn => X.pcall (W) X.cq rfl X.al rfl zn) ?_ | refine EvQ.lift (fun _ zn => X.pcallG (W) rfl X.cq rfl X.al rfl zn) ?_ | refine EvQ.lift (fun _ zn => X.pcallC (W) rfl X.cq rfl X.al rfl zn) ?_ | refine EvQ.lift (fun _ zn => X.pcallT (W) (by decide) X.cq rfl X.al rfl zn) ?_ | refine EvQ.lift (fun _ zn => X.call rfl X.al (W) zn) ?_ | refine EvQ.lift (fun _ zn => X.pcall (pg) X.cq rfl X.al rfl zn) ?_ | refine EvQ.lift (fun _ zn => X.pcallG (pg) rfl X.cq rfl X.al rfl zn) ?_ | refine EvQ.lift (fun _ zn => X.pcallC (pg) rfl X.cq rfl X.al rfl zn) ?_ | refine EvQ.lift (fun _ zn => X.pcallT (pg) (by decide) X.cq rfl X.al rfl zn) ?_ | refine EvQ.lift (fun _ zn => X.call rfl X.al (pg) zn) ?_ | refine EvQ.lift (fun _ zn => X.pcall (hk) X.cq rfl X.al rfl zn) ?_ | refine EvQ.lift (fun _ zn => X.pcallG (hk) rfl X.cq rfl X.al rfl zn) ?_ | refine EvQ.lift (fun _ zn => X.pcallC (hk) rfl X.cq rfl X.al rfl zn) ?_ | refine EvQ.lift (fun _ zn => X.pcallT (hk) (by decide) X.cq rfl X.al rfl zn) ?_ | refine EvQ.lift (fun _ zn => X.call rfl X.al (hk) zn) ?_ | refine EvQ.fin X.rs ?_ | refine EvQ.fin1 (fun _ => rfl) rfl ?_)
    refine EvQ.call rfl X.al gt ?_
    rintro _ hp1 ⟨rfl, v4, h3, f1⟩
    have hl1 : hp1.lim ≤ hp1.next := by rw [f1.lim]; have := f1.next; omega
    have hR1 := rd_fr hR hS f1
    have hwi1 : ∀ id, idOf w = some id → id < hp1.next := fun id q => by have := hwi id q; have := f1.next; omega
    cases ho : idxS L en.q with
    | some i' =>
      obtain ⟨hG4, hkey, hmem, hn4⟩ := touch_hit hG hLn ho
      rw [ho] at h3
      have e5 : hitV L (some i') = .tu [.ag (rowEn (L.getD i' e0)), .bo true] := rfl
      rw [e5]
      generalize L.getD i' e0 = eh at *
      generalize gotL L (some i') = L4 at *
      generalize hkk : keyS en.q = key at *
      repeat (first | refine EvQ.run ?_ | refine EvQ.fin X.rs ?_ | refine EvQ.fin1 (fun _ => rfl) rfl ?_)
      refine EvQ.loop (old_loop2 s l n i (keysL L) (by rw [keys_len]; omega) key en true true (decide_eq_true hmem) hp1 w hR1 hwi1 hl1 _ ?_ _ ?_) ?_
      · exact X.lo
      · exact X.kv
      rintro _ ⟨x, tm, lo2, hp3, rfl, rfl, hx4, hU3, hxid⟩
      have hS3 := h3.up hU3 (Nat.le_refl _)
      have hl3 : hp3.lim ≤ hp3.next := by rw [hU3.lim]; have := hU3.next; omega
      have xl := hx4.lp
      have xc := hx4.cells
      have xk := hx4.keep
      repeat (first | refine EvQ.run ?_ | refine EvQ.fin X.rs ?_ | refine EvQ.fin1 (fun _ => rfl) rfl ?_)
      have hOw : Ow (hnew hp3 ⟨1, false, [[.st key]]⟩) (.hs hp3.next 0 1) 1 [[.st key]] := Ow.mk0 (rows := [[.st key]]) hl3
      have hx5 := hx4.nw ⟨1, false, [[.st key]]⟩
      have hFl : (txs ((keysL L).filter (fun x => !decide (x = key)))).length ≤ 1000 := by rw [txs_length]; have := List.length_filter_le (fun x => !decide (x = key)) (keysL L); rw [keys_len] at this; omega
      have hbd : (([[.st key]] : List (List V)).length + (txs ((keysL L).filter (fun x => !decide (x = key)))).length) * 16 ≤ 140737488355328 := by simp only [List.length_cons, List.length_nil]; omega
      refine evq_hp (hp' := hnew hp3 ⟨1, false, [[.st key]]⟩) rfl ?_
      refine EvQ.lift (fun R zn => X.apg (v := .hs hp3.next 0 1) (vy := x) (rows := [[.st key]]) (new := txs ((keysL L).filter (fun x => !decide (x = key)))) rfl rfl hOw hx5.sl.els (fun _ => rfl) hbd zn) ?_
      have hO2 := hOw.gput (new := txs ((keysL L).filter (fun x => !decide (x = key)))) (by rw [hnew_lim, hnew_next]; omega)
      have hU4 : Up hp3.next hp3 (gah (hnew hp3 ⟨1, false, [[.st key]]⟩) (.hs hp3.next 0 1) 1 [[.st key]] (txs ((keysL L).filter (fun x => !decide (x = key))))) :=
        ⟨by have := gah_next (hp := hnew hp3 ⟨1, false, [[.st key]]⟩) (v := .hs hp3.next 0 1) (sz := 1) (rows := [[.st key]]) (new := txs ((keysL L).filter (fun x => !decide (x = key)))); rw [hnew_next] at this; omega, by rw [gah_lim]; rfl,
          fun j hj => (gah_get (fun e => by cases e; omega) (by rw [hnew_next]; omega)).trans (hget_old (by omega))⟩
      have hgi : ∀ id, idOf (gav (hnew hp3 ⟨1, false, [[.st key]]⟩) (.hs hp3.next 0 1) ([[.st key]] : List (List V)).length (txs ((keysL L).filter (fun x => !decide (x = key)))).length) = some id → hp3.next ≤ id := fun id h => by
        have e : gav (hnew hp3 ⟨1, false, [[.st key]]⟩) (.hs hp3.next 0 1) ([[.st key]] : List (List V)).length (txs ((keysL L).filter (fun x => !decide (x = key)))).length = .hs (hp3.next + 1) 0 (([[.st key]] : List (List V)).length + (txs ((keysL L).filter (fun x => !decide (x = key)))).length) := rfl
        rw [e] at h; cases h; omega
      rw [show [[V.st key]] ++ txs ((keysL L).filter (fun x => !decide (x = key))) = txs (key :: (keysL L).filter (fun x => !decide (x = key))) from rfl] at hO2
      have hS4 := hS3.up hU4 (Nat.le_refl _)
      have hl4 : ∀ h, h = gah (hnew hp3 ⟨1, false, [[.st key]]⟩) (.hs hp3.next 0 1) 1 [[.st key]] (txs ((keysL L).filter (fun x => !decide (x = key)))) → h.lim ≤ h.next := fun h e => by rw [e, hU4.lim]; have := hU4.next; omega
      have hl4 := hl4 _ rfl
      have gl := hO2.lp
      have gc := hO2.cells
      have gk := hO2.keep
      have gn := hO2.len
      rw [txs_length (key :: (keysL L).filter (fun x => !decide (x = key)))] at gn
      have hFL : (key :: (keysL L).filter (fun x => !decide (x = key))).length ≤ 1001 := by rw [List.length_cons]; rw [txs_length] at hFl; omega
      generalize gav (hnew hp3 ⟨1, false, [[.st key]]⟩) (.hs hp3.next 0 1) ([[.st key]] : List (List V)).length (txs ((keysL L).filter (fun x => !decide (x = key)))).length = g at *
      generalize gah (hnew hp3 ⟨1, false, [[.st key]]⟩) (.hs hp3.next 0 1) 1 [[.st key]] (txs ((keysL L).filter (fun x => !decide (x = key)))) = hp4 at *
      have hgs : idOf g ≠ some s := fun e => by have := hgi _ e; have := hS3.lt; omega
      have hgv : ∀ id, idOf v4 = some id → idOf g ≠ some id := fun id q e => by have := hgi _ e; have := hS3.o.lt id q; omega
      generalize hLL : (key :: (keysL L).filter (fun x => !decide (x = key))).length = LL at *
      by_cases hcut : n < LL
      · have hslv := hO2.sl.slv (Nat.zero_le n) (by rw [txs_length, hLL]; omega)
        have hnle : n ≤ (txs (key :: (keysL L).filter (fun x => !decide (x = key)))).length := by rw [txs_length, hLL]; omega
        have hidv : ∀ id, idOf (slv g 0 n) = some id → idOf g = some id := fun id q => by cases g <;> first | exact q | (simp [slv, idOf] at q)
        repeat (first | refine EvQ.run ?_ | refine EvQ.fin X.rs ?_ | refine EvQ.fin1 (fun _ => rfl) rfl ?_)
        refine EvQ.lift (fun _ zn => X.slcS (v := g) (o1 := none) (o2 := some (.t 106)) (a := 0) (b := n) rfl hO2.sl rfl ⟨.i64, rfl⟩ (Nat.zero_le _) hnle zn) ?_
        obtain ⟨-, hu⟩ := hslv
        rw [List.drop_zero, Nat.sub_zero] at hu
        have hu : Sl hp4 (slv g 0 n) 1 (txs (nextK n (keysL L) key)) := by
          have e : (txs (key :: (keysL L).filter (fun x => !decide (x = key)))).take n = txs (nextK n (keysL L) key) := by unfold nextK txs; rw [List.map_take]
          rw [← e]; exact hu
        have hus : idOf (slv g 0 n) ≠ some s := fun e => hgs (hidv _ e)
        have huv : ∀ id, idOf v4 = some id → idOf (slv g 0 n) ≠ some id := fun id q e => hgv id q (hidv _ e)
        generalize slv g 0 n = g at *
        have wl := hu.lp
        have wc := hu.cells
        have wk := hu.keep
        have ks2 := keys_ok (own := false) hp4 s v4 L4 (n * 109) hS4 hl4
        have sp := sameT_ok (keysL L4) (nextK n (keysL L) key) (by rw [keys_len]; omega) (by rw [← hkey, keys_len]; omega)
        rw [hkey, eqT_eq, decide_eq_true rfl] at sp
        repeat (first | refine EvQ.run ?_ | refine EvQ.fin X.rs ?_ | refine EvQ.fin1 (fun _ => rfl) rfl ?_)
        refine EvQ.call rfl X.al ks2 ?_
        rintro w5 hp5 ⟨hw5, hU5, hid5⟩
        have wl5 := hw5.lp
        rw [show L4.map (fun e => keyS e.q) = nextK n (keysL L) key from hkey] at hw5
        have hkl : (nextK n (keysL L) key).length ≤ 100 := by rw [← hkey, keys_len]; omega
        obtain ⟨h6, c6, k6, n6, l6, -⟩ := hw5.close (ts := [.one]) (txs_clo _) (by rw [txs_length]; simp [depth]; omega)
        have hu5 := hu.up hU5 hu.lt
        have hu6 : Sl h6 g 1 (txs (nextK n (keysL L) key)) := hu5.get (by omega) l6 fun id b q1 q2 => k6 id b (fun e => by have := hid5 id e; have := hu.lt id q1; omega) q2
        obtain ⟨h7, c7, k7, n7, l7, r7⟩ := sl_close (ts := [.one]) hu6 (txs_clo _) (by rw [txs_length]; simp [depth]; omega)
        have hS5 := hS4.up hU5 (Nat.le_refl _)
        have hS7 : StoV h7 s v4 L4 (n * 109) := by
          have ks : ∀ id b, id < hp4.next → idOf g ≠ some id → hget hp5 id = some b → hget h7 id = some b := fun id b q1 q2 q3 =>
            k7 id b q2 (k6 id b (fun e => by have := hid5 id e; omega) q3)
          refine ⟨ks _ _ hS4.lt hus hS5.obj, ?_, by rw [l7, l6]; exact hS5.lim, by rw [n7, n6]; exact hS5.lt, hS5.ok, hS5.tot, hS5.bud⟩
          rcases hS5.o with h | ⟨id, rfl, q1, q2, q3⟩
          · exact .inl h
          · exact .inr ⟨id, rfl, by omega, by omega, ks id _ (hS4.o.lt id rfl) (huv id rfl) q3⟩
        repeat (first | refine EvQ.run ?_ | refine EvQ.lift (fun _ zn => X.pcall (sp) X.cq rfl X.al rfl zn) ?_ | refine EvQ.lift (fun _ zn => X.pcallG (sp) rfl X.cq rfl X.al rfl zn) ?_ | refine EvQ.lift (fun _ zn => X.pcallC (sp) rfl X.cq rfl X.al rfl zn) ?_ | refine EvQ.lift (fun _ zn => X.pcallT (sp) (by decide) X.cq rfl X.al rfl zn) ?_ | refine EvQ.lift (fun _ zn => X.call rfl X.al (sp) zn) ?_ | refine EvQ.fin X.rs ?_ | refine EvQ.fin1 (fun _ => rfl) rfl ?_)
        refine EvQ.go (i + 1, g) X.kv ⟨X.lo, by show i + 1 ≤ 60; omega, ⟨v4, L4, hS7, hG4, hn4, by rw [hkey]; exact r7⟩, fun id q => by have := hu.lt id q; have := hU5.next; omega, by rw [l7, n7, l6, n6, hU5.lim]; have := hU5.next; omega⟩ (by show 60 - (i + 1) < 60 - i; omega)
      · have hu : Sl hp4 g 1 (txs (nextK n (keysL L) key)) := by
          unfold nextK; rw [List.take_of_length_le (by rw [hLL]; omega)]; exact hO2.sl
        have hus := hgs
        have huv := hgv
        repeat (first | refine EvQ.run ?_ | refine EvQ.fin X.rs ?_ | refine EvQ.fin1 (fun _ => rfl) rfl ?_)
        have wl := hu.lp
        have wc := hu.cells
        have wk := hu.keep
        have ks2 := keys_ok (own := false) hp4 s v4 L4 (n * 109) hS4 hl4
        have sp := sameT_ok (keysL L4) (nextK n (keysL L) key) (by rw [keys_len]; omega) (by rw [← hkey, keys_len]; omega)
        rw [hkey, eqT_eq, decide_eq_true rfl] at sp
        repeat (first | refine EvQ.run ?_ | refine EvQ.fin X.rs ?_ | refine EvQ.fin1 (fun _ => rfl) rfl ?_)
        refine EvQ.call rfl X.al ks2 ?_
        rintro w5 hp5 ⟨hw5, hU5, hid5⟩
        have wl5 := hw5.lp
        rw [show L4.map (fun e => keyS e.q) = nextK n (keysL L) key from hkey] at hw5
        have hkl : (nextK n (keysL L) key).length ≤ 100 := by rw [← hkey, keys_len]; omega
        obtain ⟨h6, c6, k6, n6, l6, -⟩ := hw5.close (ts := [.one]) (txs_clo _) (by rw [txs_length]; simp [depth]; omega)
        have hu5 := hu.up hU5 hu.lt
        have hu6 : Sl h6 g 1 (txs (nextK n (keysL L) key)) := hu5.get (by omega) l6 fun id b q1 q2 => k6 id b (fun e => by have := hid5 id e; have := hu.lt id q1; omega) q2
        obtain ⟨h7, c7, k7, n7, l7, r7⟩ := sl_close (ts := [.one]) hu6 (txs_clo _) (by rw [txs_length]; simp [depth]; omega)
        have hS5 := hS4.up hU5 (Nat.le_refl _)
        have hS7 : StoV h7 s v4 L4 (n * 109) := by
          have ks : ∀ id b, id < hp4.next → idOf g ≠ some id → hget hp5 id = some b → hget h7 id = some b := fun id b q1 q2 q3 =>
            k7 id b q2 (k6 id b (fun e => by have := hid5 id e; omega) q3)
          refine ⟨ks _ _ hS4.lt hus hS5.obj, ?_, by rw [l7, l6]; exact hS5.lim, by rw [n7, n6]; exact hS5.lt, hS5.ok, hS5.tot, hS5.bud⟩
          rcases hS5.o with h | ⟨id, rfl, q1, q2, q3⟩
          · exact .inl h
          · exact .inr ⟨id, rfl, by omega, by omega, ks id _ (hS4.o.lt id rfl) (huv id rfl) q3⟩
        repeat (first | refine EvQ.run ?_ | refine EvQ.lift (fun _ zn => X.pcall (sp) X.cq rfl X.al rfl zn) ?_ | refine EvQ.lift (fun _ zn => X.pcallG (sp) rfl X.cq rfl X.al rfl zn) ?_ | refine EvQ.lift (fun _ zn => X.pcallC (sp) rfl X.cq rfl X.al rfl zn) ?_ | refine EvQ.lift (fun _ zn => X.pcallT (sp) (by decide) X.cq rfl X.al rfl zn) ?_ | refine EvQ.lift (fun _ zn => X.call rfl X.al (sp) zn) ?_ | refine EvQ.fin X.rs ?_ | refine EvQ.fin1 (fun _ => rfl) rfl ?_)
        refine EvQ.go (i + 1, g) X.kv ⟨X.lo, by show i + 1 ≤ 60; omega, ⟨v4, L4, hS7, hG4, hn4, by rw [hkey]; exact r7⟩, fun id q => by have := hu.lt id q; have := hU5.next; omega, by rw [l7, n7, l6, n6, hU5.lim]; have := hU5.next; omega⟩ (by show 60 - (i + 1) < 60 - i; omega)
    | none =>
      obtain ⟨hG4, hkey, hmem, hn4⟩ := touch_miss (n := n) hG hPp hcst (by omega) ho
      rw [ho] at h3
      have e5 : hitV L none = .tu [.ag zEn, .bo false] := rfl
      have e6 : gotL L none = L := rfl
      rw [e5]
      rw [e6] at h3
      generalize hkk : keyS en.q = key at *
      repeat (first | refine EvQ.run ?_ | refine EvQ.fin X.rs ?_ | refine EvQ.fin1 (fun _ => rfl) rfl ?_)
      refine EvQ.loop (old_loop2 s l n i (keysL L) (by rw [keys_len]; omega) key en false false (decide_eq_false hmem) hp1 w hR1 hwi1 hl1 _ ?_ _ ?_) ?_
      · exact X.lo
      · exact X.kv
      rintro _ ⟨x, tm, lo2, hp2, rfl, rfl, hx, hU2, hxid⟩
      have hS2 := h3.up hU2 (Nat.le_refl _)
      have pt := putS_ok (own := false) hp2 s v4 L (n * 109) en hS2 hE
      rw [hB] at pt
      repeat (first | refine EvQ.run ?_ | refine EvQ.fin X.rs ?_ | refine EvQ.fin1 (fun _ => rfl) rfl ?_)
      refine EvQ.call rfl X.al pt ?_
      rintro _ hp3 ⟨rfl, v4, hS3, f3⟩
      have hx4 : Ow hp3 x 1 (txs ((keysL L).filter (fun x => !decide (x = key)))) := hx.get f3.next f3.lim fun id q => f3.get id (hx.lt id q) (fun e => by have := hxid id q; have := h3.lt; omega) (fun e => by
        have := hxid id q; have := h3.o.lt id e; omega)
      have hl3 : hp3.lim ≤ hp3.next := by rw [f3.lim, hU2.lim]; have := hU2.next; have := f3.next; omega
      generalize putL L (n * 109) en = L4 at *
      have xl := hx4.lp
      have xc := hx4.cells
      have xk := hx4.keep
      repeat (first | refine EvQ.run ?_ | refine EvQ.fin X.rs ?_ | refine EvQ.fin1 (fun _ => rfl) rfl ?_)
      have hOw : Ow (hnew hp3 ⟨1, false, [[.st key]]⟩) (.hs hp3.next 0 1) 1 [[.st key]] := Ow.mk0 (rows := [[.st key]]) hl3
      have hx5 := hx4.nw ⟨1, false, [[.st key]]⟩
      have hFl : (txs ((keysL L).filter (fun x => !decide (x = key)))).length ≤ 1000 := by rw [txs_length]; have := List.length_filter_le (fun x => !decide (x = key)) (keysL L); rw [keys_len] at this; omega
      have hbd : (([[.st key]] : List (List V)).length + (txs ((keysL L).filter (fun x => !decide (x = key)))).length) * 16 ≤ 140737488355328 := by simp only [List.length_cons, List.length_nil]; omega
      refine evq_hp (hp' := hnew hp3 ⟨1, false, [[.st key]]⟩) rfl ?_
      refine EvQ.lift (fun R zn => X.apg (v := .hs hp3.next 0 1) (vy := x) (rows := [[.st key]]) (new := txs ((keysL L).filter (fun x => !decide (x = key)))) rfl rfl hOw hx5.sl.els (fun _ => rfl) hbd zn) ?_
      have hO2 := hOw.gput (new := txs ((keysL L).filter (fun x => !decide (x = key)))) (by rw [hnew_lim, hnew_next]; omega)
      have hU4 : Up hp3.next hp3 (gah (hnew hp3 ⟨1, false, [[.st key]]⟩) (.hs hp3.next 0 1) 1 [[.st key]] (txs ((keysL L).filter (fun x => !decide (x = key))))) :=
        ⟨by have := gah_next (hp := hnew hp3 ⟨1, false, [[.st key]]⟩) (v := .hs hp3.next 0 1) (sz := 1) (rows := [[.st key]]) (new := txs ((keysL L).filter (fun x => !decide (x = key)))); rw [hnew_next] at this; omega, by rw [gah_lim]; rfl,
          fun j hj => (gah_get (fun e => by cases e; omega) (by rw [hnew_next]; omega)).trans (hget_old (by omega))⟩
      have hgi : ∀ id, idOf (gav (hnew hp3 ⟨1, false, [[.st key]]⟩) (.hs hp3.next 0 1) ([[.st key]] : List (List V)).length (txs ((keysL L).filter (fun x => !decide (x = key)))).length) = some id → hp3.next ≤ id := fun id h => by
        have e : gav (hnew hp3 ⟨1, false, [[.st key]]⟩) (.hs hp3.next 0 1) ([[.st key]] : List (List V)).length (txs ((keysL L).filter (fun x => !decide (x = key)))).length = .hs (hp3.next + 1) 0 (([[.st key]] : List (List V)).length + (txs ((keysL L).filter (fun x => !decide (x = key)))).length) := rfl
        rw [e] at h; cases h; omega
      rw [show [[V.st key]] ++ txs ((keysL L).filter (fun x => !decide (x = key))) = txs (key :: (keysL L).filter (fun x => !decide (x = key))) from rfl] at hO2
      have hS4 := hS3.up hU4 (Nat.le_refl _)
      have hl4 : ∀ h, h = gah (hnew hp3 ⟨1, false, [[.st key]]⟩) (.hs hp3.next 0 1) 1 [[.st key]] (txs ((keysL L).filter (fun x => !decide (x = key)))) → h.lim ≤ h.next := fun h e => by rw [e, hU4.lim]; have := hU4.next; omega
      have hl4 := hl4 _ rfl
      have gl := hO2.lp
      have gc := hO2.cells
      have gk := hO2.keep
      have gn := hO2.len
      rw [txs_length (key :: (keysL L).filter (fun x => !decide (x = key)))] at gn
      have hFL : (key :: (keysL L).filter (fun x => !decide (x = key))).length ≤ 1001 := by rw [List.length_cons]; rw [txs_length] at hFl; omega
      generalize gav (hnew hp3 ⟨1, false, [[.st key]]⟩) (.hs hp3.next 0 1) ([[.st key]] : List (List V)).length (txs ((keysL L).filter (fun x => !decide (x = key)))).length = g at *
      generalize gah (hnew hp3 ⟨1, false, [[.st key]]⟩) (.hs hp3.next 0 1) 1 [[.st key]] (txs ((keysL L).filter (fun x => !decide (x = key)))) = hp4 at *
      have hgs : idOf g ≠ some s := fun e => by have := hgi _ e; have := hS3.lt; omega
      have hgv : ∀ id, idOf v4 = some id → idOf g ≠ some id := fun id q e => by have := hgi _ e; have := hS3.o.lt id q; omega
      generalize hLL : (key :: (keysL L).filter (fun x => !decide (x = key))).length = LL at *
      by_cases hcut : n < LL
      · have hslv := hO2.sl.slv (Nat.zero_le n) (by rw [txs_length, hLL]; omega)
        have hnle : n ≤ (txs (key :: (keysL L).filter (fun x => !decide (x = key)))).length := by rw [txs_length, hLL]; omega
        have hidv : ∀ id, idOf (slv g 0 n) = some id → idOf g = some id := fun id q => by cases g <;> first | exact q | (simp [slv, idOf] at q)
        repeat (first | refine EvQ.run ?_ | refine EvQ.fin X.rs ?_ | refine EvQ.fin1 (fun _ => rfl) rfl ?_)
        refine EvQ.lift (fun _ zn => X.slcS (v := g) (o1 := none) (o2 := some (.t 106)) (a := 0) (b := n) rfl hO2.sl rfl ⟨.i64, rfl⟩ (Nat.zero_le _) hnle zn) ?_
        obtain ⟨-, hu⟩ := hslv
        rw [List.drop_zero, Nat.sub_zero] at hu
        have hu : Sl hp4 (slv g 0 n) 1 (txs (nextK n (keysL L) key)) := by
          have e : (txs (key :: (keysL L).filter (fun x => !decide (x = key)))).take n = txs (nextK n (keysL L) key) := by unfold nextK txs; rw [List.map_take]
          rw [← e]; exact hu
        have hus : idOf (slv g 0 n) ≠ some s := fun e => hgs (hidv _ e)
        have huv : ∀ id, idOf v4 = some id → idOf (slv g 0 n) ≠ some id := fun id q e => hgv id q (hidv _ e)
        generalize slv g 0 n = g at *
        have wl := hu.lp
        have wc := hu.cells
        have wk := hu.keep
        have ks2 := keys_ok (own := false) hp4 s v4 L4 (n * 109) hS4 hl4
        have sp := sameT_ok (keysL L4) (nextK n (keysL L) key) (by rw [keys_len]; omega) (by rw [← hkey, keys_len]; omega)
        rw [hkey, eqT_eq, decide_eq_true rfl] at sp
        repeat (first | refine EvQ.run ?_ | refine EvQ.fin X.rs ?_ | refine EvQ.fin1 (fun _ => rfl) rfl ?_)
        refine EvQ.call rfl X.al ks2 ?_
        rintro w5 hp5 ⟨hw5, hU5, hid5⟩
        have wl5 := hw5.lp
        rw [show L4.map (fun e => keyS e.q) = nextK n (keysL L) key from hkey] at hw5
        have hkl : (nextK n (keysL L) key).length ≤ 100 := by rw [← hkey, keys_len]; omega
        obtain ⟨h6, c6, k6, n6, l6, -⟩ := hw5.close (ts := [.one]) (txs_clo _) (by rw [txs_length]; simp [depth]; omega)
        have hu5 := hu.up hU5 hu.lt
        have hu6 : Sl h6 g 1 (txs (nextK n (keysL L) key)) := hu5.get (by omega) l6 fun id b q1 q2 => k6 id b (fun e => by have := hid5 id e; have := hu.lt id q1; omega) q2
        obtain ⟨h7, c7, k7, n7, l7, r7⟩ := sl_close (ts := [.one]) hu6 (txs_clo _) (by rw [txs_length]; simp [depth]; omega)
        have hS5 := hS4.up hU5 (Nat.le_refl _)
        have hS7 : StoV h7 s v4 L4 (n * 109) := by
          have ks : ∀ id b, id < hp4.next → idOf g ≠ some id → hget hp5 id = some b → hget h7 id = some b := fun id b q1 q2 q3 =>
            k7 id b q2 (k6 id b (fun e => by have := hid5 id e; omega) q3)
          refine ⟨ks _ _ hS4.lt hus hS5.obj, ?_, by rw [l7, l6]; exact hS5.lim, by rw [n7, n6]; exact hS5.lt, hS5.ok, hS5.tot, hS5.bud⟩
          rcases hS5.o with h | ⟨id, rfl, q1, q2, q3⟩
          · exact .inl h
          · exact .inr ⟨id, rfl, by omega, by omega, ks id _ (hS4.o.lt id rfl) (huv id rfl) q3⟩
        repeat (first | refine EvQ.run ?_ | refine EvQ.lift (fun _ zn => X.pcall (sp) X.cq rfl X.al rfl zn) ?_ | refine EvQ.lift (fun _ zn => X.pcallG (sp) rfl X.cq rfl X.al rfl zn) ?_ | refine EvQ.lift (fun _ zn => X.pcallC (sp) rfl X.cq rfl X.al rfl zn) ?_ | refine EvQ.lift (fun _ zn => X.pcallT (sp) (by decide) X.cq rfl X.al rfl zn) ?_ | refine EvQ.lift (fun _ zn => X.call rfl X.al (sp) zn) ?_ | refine EvQ.fin X.rs ?_ | refine EvQ.fin1 (fun _ => rfl) rfl ?_)
        refine EvQ.go (i + 1, g) X.kv ⟨X.lo, by show i + 1 ≤ 60; omega, ⟨v4, L4, hS7, hG4, hn4, by rw [hkey]; exact r7⟩, fun id q => by have := hu.lt id q; have := hU5.next; omega, by rw [l7, n7, l6, n6, hU5.lim]; have := hU5.next; omega⟩ (by show 60 - (i + 1) < 60 - i; omega)
      · have hu : Sl hp4 g 1 (txs (nextK n (keysL L) key)) := by
          unfold nextK; rw [List.take_of_length_le (by rw [hLL]; omega)]; exact hO2.sl
        have hus := hgs
        have huv := hgv
        repeat (first | refine EvQ.run ?_ | refine EvQ.fin X.rs ?_ | refine EvQ.fin1 (fun _ => rfl) rfl ?_)
        have wl := hu.lp
        have wc := hu.cells
        have wk := hu.keep
        have ks2 := keys_ok (own := false) hp4 s v4 L4 (n * 109) hS4 hl4
        have sp := sameT_ok (keysL L4) (nextK n (keysL L) key) (by rw [keys_len]; omega) (by rw [← hkey, keys_len]; omega)
        rw [hkey, eqT_eq, decide_eq_true rfl] at sp
        repeat (first | refine EvQ.run ?_ | refine EvQ.fin X.rs ?_ | refine EvQ.fin1 (fun _ => rfl) rfl ?_)
        refine EvQ.call rfl X.al ks2 ?_
        rintro w5 hp5 ⟨hw5, hU5, hid5⟩
        have wl5 := hw5.lp
        rw [show L4.map (fun e => keyS e.q) = nextK n (keysL L) key from hkey] at hw5
        have hkl : (nextK n (keysL L) key).length ≤ 100 := by rw [← hkey, keys_len]; omega
        obtain ⟨h6, c6, k6, n6, l6, -⟩ := hw5.close (ts := [.one]) (txs_clo _) (by rw [txs_length]; simp [depth]; omega)
        have hu5 := hu.up hU5 hu.lt
        have hu6 : Sl h6 g 1 (txs (nextK n (keysL L) key)) := hu5.get (by omega) l6 fun id b q1 q2 => k6 id b (fun e => by have := hid5 id e; have := hu.lt id q1; omega) q2
        obtain ⟨h7, c7, k7, n7, l7, r7⟩ := sl_close (ts := [.one]) hu6 (txs_clo _) (by rw [txs_length]; simp [depth]; omega)
        have hS5 := hS4.up hU5 (Nat.le_refl _)
        have hS7 : StoV h7 s v4 L4 (n * 109) := by
          have ks : ∀ id b, id < hp4.next → idOf g ≠ some id → hget hp5 id = some b → hget h7 id = some b := fun id b q1 q2 q3 =>
            k7 id b q2 (k6 id b (fun e => by have := hid5 id e; omega) q3)
          refine ⟨ks _ _ hS4.lt hus hS5.obj, ?_, by rw [l7, l6]; exact hS5.lim, by rw [n7, n6]; exact hS5.lt, hS5.ok, hS5.tot, hS5.bud⟩
          rcases hS5.o with h | ⟨id, rfl, q1, q2, q3⟩
          · exact .inl h
          · exact .inr ⟨id, rfl, by omega, by omega, ks id _ (hS4.o.lt id rfl) (huv id rfl) q3⟩
        repeat (first | refine EvQ.run ?_ | refine EvQ.lift (fun _ zn => X.pcall (sp) X.cq rfl X.al rfl zn) ?_ | refine EvQ.lift (fun _ zn => X.pcallG (sp) rfl X.cq rfl X.al rfl zn) ?_ | refine EvQ.lift (fun _ zn => X.pcallC (sp) rfl X.cq rfl X.al rfl zn) ?_ | refine EvQ.lift (fun _ zn => X.pcallT (sp) (by decide) X.cq rfl X.al rfl zn) ?_ | refine EvQ.lift (fun _ zn => X.call rfl X.al (sp) zn) ?_ | refine EvQ.fin X.rs ?_ | refine EvQ.fin1 (fun _ => rfl) rfl ?_)
        refine EvQ.go (i + 1, g) X.kv ⟨X.lo, by show i + 1 ≤ 60; omega, ⟨v4, L4, hS7, hG4, hn4, by rw [hkey]; exact r7⟩, fun id q => by have := hu.lt id q; have := hU5.next; omega, by rw [l7, n7, l6, n6, hU5.lim]; have := hU5.next; omega⟩ (by show 60 - (i + 1) < 60 - i; omega)
  · have hx : ¬ i < l.length ∨ ¬ i < 60 := by omega
    rcases hx with h1 | h1
    · repeat' (first | refine EvQ.run ?_ | (refine EvQ.pickB rfl rfl rfl ?_) | (refine EvQ.cond rfl (fun h => ?_) (fun h => ?_) <;> ((first | replace h := X.nm h | skip); try have hne := ne_len h)) | (refine EvQ.g1 rfl (fun h => ?_) (fun h => ?_) <;> ((first | replace h := X.nm h | skip); try have hne := ne_len h)) | (refine EvQ.pick rfl (fun _ => rfl) (fun _ => rfl) (fun h => ?_) (fun h => ?_) <;> ((first | replace h := X.nm h | skip); try have hne := ne_len h)) | refine EvQ.fin X.rs ?_ | refine EvQ.fin1 (fun _ => rfl) rfl ?_)
      exact EvQ.xt (.mk' X.kv trivial)
    · repeat' (first | refine EvQ.run ?_ | (refine EvQ.pickB rfl rfl rfl ?_) | (refine EvQ.cond rfl (fun h => ?_) (fun h => ?_) <;> ((first | replace h := X.nm h | skip); try have hne := ne_len h)) | (refine EvQ.g1 rfl (fun h => ?_) (fun h => ?_) <;> ((first | replace h := X.nm h | skip); try have hne := ne_len h)) | (refine EvQ.pick rfl (fun _ => rfl) (fun _ => rfl) (fun h => ?_) (fun h => ?_) <;> ((first | replace h := X.nm h | skip); try have hne := ne_len h)) | refine EvQ.fin X.rs ?_ | refine EvQ.fin1 (fun _ => rfl) rfl ?_)
      all_goals exact EvQ.xt (.mk' X.kv trivial)
end Go.Proofs.Ytddohjlkjakdlaa
