import Derived.Test.YtddohjlkjakdlaaEvE
import Derived.Test.YtddohjlkjakdlaaEvE
import Derived.Test.YtddohjlkjakdlaaSto8
set_option linter.unusedVariables false
set_option linter.unusedSimpArgs false
-- StoreRemoves
namespace Go.Proofs.Ytddohjlkjakdlaa
open Go hiding Fn
open Ev tab
attribute [local irreducible] EvP EvD EvL EvC evGds evLs C.run sK bK gK pK fK lpB stepD
theorem within_n (n : Int) (hi : Nat) (h : hi ≤ 1000) : ∃ m : Nat, m ≤ hi ∧ EvP F 18 c18 [.it .i64 n, .it .i64 (Int.ofNat 0), .it .i64 (Int.ofNat hi)] [.it .i64 (Int.ofNat m)] := by
  obtain ⟨k, h1, h2, h3⟩ := within_p n 0 (Int.ofNat hi) (by decide) (by simp only [Int.ofNat_eq_natCast]; omega) (by simp only [Int.ofNat_eq_natCast]; omega)
  obtain ⟨m, rfl⟩ : ∃ m : Nat, k = Int.ofNat m := ⟨k.toNat, by simp only [Int.ofNat_eq_natCast]; omega⟩
  exact ⟨m, by simp only [Int.ofNat_eq_natCast] at h2; omega, h3⟩
theorem wr_byte (m : Nat) (h : m ≤ 100) : wr .u8 (Int.ofNat (97 + m)) = Int.ofNat (97 + m) := by
  show Int.ofNat ((97 + m) % 256) = _
  rw [Nat.mod_eq_of_lt (by omega)]
theorem byte_val (m : Nat) (h : m ≤ 100) : [(wr .u8 (Int.ofNat (97 + m))).toNat % 256] = [97 + m] := by
  rw [wr_byte m h]
  show [(97 + m) % 256] = _
  rw [Nat.mod_eq_of_lt (by omega)]
abbrev B0 : Nat := 16777216
set_option maxHeartbeats 16000000 in
theorem removes_loop1 (s : Nat) (l : List Int) (hl : l.length ≤ 2000000) (key : List Nat) (hp0 : Hp) (hS0 : StoV hp0 s .ns [] B0) (hl0 : hp0.lim ≤ hp0.next) (lo : Lo) (hlo : shed [11] lo = fun _ => none) (tm : Tm)
    (hk : [0, 5, 7, 8, 9, 10].map (fun x => (x, tm x)) = [(0, .vs 1 (iv l)), (5, .pt s 0 0), (7, .ns), (8, .st key), (9, .it .i64 (Int.ofNat 0)), (10, .it .i64 (Int.ofNat 0))]) :
    ∃ r, EvL F [0, 5, 7, 8, 9, 10] [11] (lpB (d6.body.lps.getD 0 .skip)) ⟨tm, lo, hp0⟩ r ∧ XtQ 0 [(5, .pt s 0 0), (7, .ns), (8, .st key), (9, .it .i64 (Int.ofNat 0))] (fun lo hp => shed [11] lo = (fun _ => none) ∧ ∃ v L, StoV hp s v L B0 ∧ PL L ∧ hp.lim ≤ hp.next) r := by
  refine EvL.invQ (S := Nat) (fun i => [(0, .vs 1 (iv l)), (5, .pt s 0 0), (7, .ns), (8, .st key), (9, .it .i64 (Int.ofNat 0)), (10, .it .i64 (Int.ofNat i))])
    (fun i lo hp => shed [11] lo = (fun _ => none) ∧ i ≤ 40 ∧ ∃ v L, StoV hp s v L B0 ∧ PL L ∧ hp.lim ≤ hp.next) (fun i => 40 - i) _ ?_ 0 tm lo hp0 ⟨hlo, Nat.zero_le _, .ns, [], hS0, .nil, hl0⟩ hk
  intro i lo hp ⟨e1, e2, v, L, hS, hP, hll⟩
  rw [e1]
  have hil := iv_length l
  by_cases hc : i < l.length ∧ i < 40
  · obtain ⟨h1, h2⟩ := hc
    have hge := iv_getD h1
    generalize l.getD i 0 = z at *
    obtain ⟨m, hm, W⟩ := within_n z 9 (by decide)
    have pg := page_ok [97 + m] i (by omega)
    have hE := page_eok (97 + m) i (by omega)
    have hcst := page_cost (97 + m) i
    have hPp := plain_page [97 + m] i
    have pt := putS_ok (own := false) hp s v L B0 (pageE [97 + m] i) hS hE
    have hB : putB B0 (pageE [97 + m] i) = true := by unfold putB; rw [hcst, decide_eq_false (by show ¬ 16777216 < _; omega)]; rfl
    have hPL := hP.put (b := B0) hPp (by rw [hcst]; show _ ≤ 16777216; omega)
    have c3 := rowEn_clo (pageE [97 + m] i)
    rw [hB] at pt
    generalize pageE [97 + m] i = en at *
    rw [← byte_val m (by omega)] at pg
    repeat (first | refine EvQ.run ?_ | refine EvQ.lift (fun _ zn => X.pcall (W) X.cq rfl X.al rfl zn) ?_ | refine EvQ.lift (fun _ zn => X.pcallG (W) rfl X.cq rfl X.al rfl zn) ?_ | refine EvQ.lift (fun _ zn => X.pcallC (W) rfl X.cq rfl X.al rfl zn) ?_ | refine EvQ.lift (fun _ zn => X.pcallT (W) (by decide) X.cq rfl X.al rfl zn) ?_ | refine EvQ.lift (fun _ zn => X.call rfl X.al (W) zn) ?_ | refine EvQ.lift (fun _ zn => X.pcall (pg) X.cq rfl X.al rfl zn) ?_ | refine EvQ.lift (fun _ zn => X.pcallG (pg) rfl X.cq rfl X.al rfl zn) ?_ | refine EvQ.lift (fun _ zn => X.pcallC (pg) rfl X.cq rfl X.al rfl zn) ?_ | refine EvQ.lift (fun _ zn => X.pcallT (pg) (by decide) X.cq rfl X.al rfl zn) ?_ | refine EvQ.lift (fun _ zn => X.call rfl X.al (pg) zn) ?_ | refine EvQ.fin X.rs ?_ | refine EvQ.fin1 (fun _ => rfl) rfl ?_)
    refine EvQ.call rfl X.al pt ?_
    rintro _ hp1 ⟨rfl, v1, h3, f1⟩
    repeat (first | refine EvQ.run ?_ | refine EvQ.fin X.rs ?_ | refine EvQ.fin1 (fun _ => rfl) rfl ?_)
    refine EvQ.go (i + 1) X.kv ⟨X.lo, by show i + 1 ≤ 40; omega, v1, _, h3, hPL, by rw [f1.lim]; have := f1.next; omega⟩ (by show 40 - (i + 1) < 40 - i; omega)
  · have hx : ¬ i < l.length ∨ ¬ i < 40 := by omega
    rcases hx with h1 | h1
    · repeat' (first | refine EvQ.run ?_ | (refine EvQ.pickB rfl rfl rfl ?_) | (refine EvQ.cond rfl (fun h => ?_) (fun h => ?_) <;> ((first | replace h := X.nm h | skip); try have hne := ne_len h)) | (refine EvQ.g1 rfl (fun h => ?_) (fun h => ?_) <;> ((first | replace h := X.nm h | skip); try have hne := ne_len h)) | (refine EvQ.pick rfl (fun _ => rfl) (fun _ => rfl) (fun h => ?_) (fun h => ?_) <;> ((first | replace h := X.nm h | skip); try have hne := ne_len h)) | refine EvQ.fin X.rs ?_ | refine EvQ.fin1 (fun _ => rfl) rfl ?_)
      exact EvQ.xt (.mk' X.kv ⟨X.lo, v, L, hS, hP, hll⟩)
    · repeat' (first | refine EvQ.run ?_ | (refine EvQ.pickB rfl rfl rfl ?_) | (refine EvQ.cond rfl (fun h => ?_) (fun h => ?_) <;> ((first | replace h := X.nm h | skip); try have hne := ne_len h)) | (refine EvQ.g1 rfl (fun h => ?_) (fun h => ?_) <;> ((first | replace h := X.nm h | skip); try have hne := ne_len h)) | (refine EvQ.pick rfl (fun _ => rfl) (fun _ => rfl) (fun h => ?_) (fun h => ?_) <;> ((first | replace h := X.nm h | skip); try have hne := ne_len h)) | refine EvQ.fin X.rs ?_ | refine EvQ.fin1 (fun _ => rfl) rfl ?_)
      all_goals exact EvQ.xt (.mk' X.kv ⟨X.lo, v, L, hS, hP, hll⟩)
theorem fil_eq {K : List (List Nat)} {key : List Nat} {i : Nat} (h : i < K.length) (q : K.getD i [] = key) : (K.take (i + 1)).filter (fun x => !decide (x = key)) = (K.take i).filter (fun x => !decide (x = key)) ∧ ((K.take (i + 1)).filter (fun x => decide (x = key))).length = ((K.take i).filter (fun x => decide (x = key))).length + 1 := by
  rw [take_getD h [], q, List.filter_append, List.filter_append]
  simp
theorem fil_ne {K : List (List Nat)} {key : List Nat} {i : Nat} (h : i < K.length) (q : ¬ K.getD i [] = key) : (K.take (i + 1)).filter (fun x => !decide (x = key)) = (K.take i).filter (fun x => !decide (x = key)) ++ [K.getD i []] ∧ ((K.take (i + 1)).filter (fun x => decide (x = key))).length = ((K.take i).filter (fun x => decide (x = key))).length := by
  rw [take_getD h [], List.filter_append, List.filter_append, List.filter_cons_of_pos (by simpa using q), List.filter_cons_of_neg (by simpa using q)]
  simp
set_option maxHeartbeats 16000000 in
theorem removes_loop2 (s : Nat) (K : List (List Nat)) (hl : K.length ≤ 1000000) (key : List Nat) (hpK : Hp) (w : V) (hw : Ow hpK w 1 (txs K)) (hl0 : hpK.lim ≤ hpK.next) (lo : Lo) (hlo : shed [11] lo = fun _ => none) (tm : Tm)
    (hk : [5, 7, 8, 9, 12, 13].map (fun x => (x, tm x)) = [(5, .pt s 0 0), (7, .ns), (8, .st key), (9, .it .i64 (Int.ofNat 0)), (12, w), (13, .it .i64 (Int.ofNat 0))]) :
    ∃ r, EvL F [5, 7, 8, 9, 12, 13] [11] (lpB (d6.body.lps.getD 1 .skip)) ⟨tm, lo, hpK⟩ r ∧ ∃ x, XtQ 2 [(5, .pt s 0 0), (7, x), (8, .st key), (9, .it .i64 (Int.ofNat (K.filter (fun x => decide (x = key))).length))]
      (fun lo hp => Ow hp x 1 (txs (K.filter (fun x => !decide (x = key)))) ∧ Up hpK.next hpK hp ∧ ∀ id, idOf x = some id → hpK.next ≤ id) r := by
  refine EvL.invQ (S := Nat × V × Nat) (fun y => [(5, .pt s 0 0), (7, y.2.1), (8, .st key), (9, .it .i64 (Int.ofNat y.2.2)), (12, w), (13, .it .i64 (Int.ofNat y.1))])
    (fun y lo hp => shed [11] lo = (fun _ => none) ∧ y.1 ≤ K.length ∧ y.2.2 = ((K.take y.1).filter (fun x => decide (x = key))).length ∧ Ow hp y.2.1 1 (txs ((K.take y.1).filter (fun x => !decide (x = key)))) ∧ Up hpK.next hpK hp ∧ ∀ id, idOf y.2.1 = some id → hpK.next ≤ id) (fun y => K.length - y.1) _ ?_ (0, .ns, 0) tm lo hpK
    ⟨hlo, Nat.zero_le _, rfl, .ns, .refl _ _, fun _ q => by cases q⟩ hk
  intro ⟨i, x, n⟩ lo hp ⟨e1, e2, e3, hO, hU, hid⟩
  simp only at e2 e3 hO hid
  rw [e1]
  have hR : Rd hp w 1 (txs K) := Rd.up hw.sl.rd hU hw.lt
  have wl := hw.lp
  have wc := hw.cells
  have wk := hw.keep
  have hn := hw.len
  rw [txs_length] at hn
  have xl := hO.lp
  have xc := hO.cells
  have xk := hO.keep
  have hlm : hp.lim ≤ hp.next := by rw [hU.lim]; have := hU.next; omega
  have htl := txs_length K
  have hle := List.length_filter_le (fun x => decide (x = key)) (K.take i)
  have hle2 := List.length_filter_le (fun x => !decide (x = key)) (K.take i)
  rw [List.length_take] at hle hle2
  by_cases hi : i < K.length
  · have hge := txs_getD' hi
    have f1 := fil_eq (key := key) hi
    have f2 := fil_ne (key := key) hi
    have hxl : (txs ((K.take i).filter (fun x => !decide (x = key)))).length ≤ 1000000 := by rw [txs_length]; omega
    generalize K.getD i [] = k at *
    repeat' (first | refine EvQ.run ?_ | (refine EvQ.pickB rfl rfl rfl ?_) | (refine EvQ.cond rfl (fun h => ?_) (fun h => ?_) <;> ((first | replace h := X.nm h | skip); try have hne := ne_len h)) | (refine EvQ.g1 rfl (fun h => ?_) (fun h => ?_) <;> ((first | replace h := X.nm h | skip); try have hne := ne_len h)) | (refine EvQ.pick rfl (fun _ => rfl) (fun _ => rfl) (fun h => ?_) (fun h => ?_) <;> ((first | replace h := X.nm h | skip); try have hne := ne_len h)) | refine EvQ.fin X.rs ?_ | refine EvQ.fin1 (fun _ => rfl) rfl ?_)
    · obtain ⟨g1, g2⟩ := f1 (by assumption)
      refine EvQ.go (i + 1, x, n + 1) X.kv ⟨X.lo, by show i + 1 ≤ _; omega, ?_, ?_, hU, hid⟩ (by show K.length - (i + 1) < K.length - i; omega)
      · show n + 1 = ((K.take (i + 1)).filter _).length
        rw [g2, ← e3]
      · show Ow _ _ 1 (txs ((K.take (i + 1)).filter _))
        rw [g1]; exact hO
    · obtain ⟨g1, g2⟩ := f2 (by assumption)
      have hp' := hO.put (new := [[.st k]]) hlm
      refine EvQ.go (i + 1, _, n) X.kv ⟨X.lo, by show i + 1 ≤ _; omega, ?_, ?_, hU.oah hU.next hid, fun id q => by cases q; exact hU.next⟩ (by show K.length - (i + 1) < K.length - i; omega)
      · show n = ((K.take (i + 1)).filter _).length
        rw [g2]; exact e3
      · show Ow _ _ 1 (txs ((K.take (i + 1)).filter _))
        rw [g1, ← txs_append]; exact hp'
  · repeat' (first | refine EvQ.run ?_ | (refine EvQ.pickB rfl rfl rfl ?_) | (refine EvQ.cond rfl (fun h => ?_) (fun h => ?_) <;> ((first | replace h := X.nm h | skip); try have hne := ne_len h)) | (refine EvQ.g1 rfl (fun h => ?_) (fun h => ?_) <;> ((first | replace h := X.nm h | skip); try have hne := ne_len h)) | (refine EvQ.pick rfl (fun _ => rfl) (fun _ => rfl) (fun h => ?_) (fun h => ?_) <;> ((first | replace h := X.nm h | skip); try have hne := ne_len h)) | refine EvQ.fin X.rs ?_ | refine EvQ.fin1 (fun _ => rfl) rfl ?_)
    have e4 : K.take i = K := List.take_of_length_le (by omega)
    rw [e4] at hO e3
    subst e3
    exact EvQ.xt ⟨x, .mk' X.kv ⟨hO, hU, hid⟩⟩
set_option maxHeartbeats 16000000 in
theorem removes_run (l : List Int) (hl : l.length ≤ 2000000) (out : Int) : ∃ h, EvD F (stepD d6 [.vs 1 (iv l), .it .i64 out] h0) (Rt (.bo true) h) := by
  obtain ⟨m, hm, W⟩ := within_n out 9 (by decide)
  have pg := page_ok [97 + m] 0 (by omega)
  have hE := page_eok (97 + m) 0 (by omega)
  have hk := key_ok (pageE [97 + m] 0).q hE.q.k1 hE.q.k2 hE.q.k3
  have c4 := rowRq_clo (pageE [97 + m] 0).q
  generalize pageE [97 + m] 0 = pe at *
  rw [← byte_val m (by omega)] at pg
  refine EvQ.law ?_
  have nw := new_ok (own := false) h0 B0 (Nat.le_refl _) (Nat.le_refl _)
  repeat (first | refine EvQ.run ?_ | refine EvQ.fin X.rs ?_ | refine EvQ.fin1 (fun _ => rfl) rfl ?_)
  refine EvQ.call rfl X.al nw ?_
  rintro _ hp1 ⟨rfl, hS, rfl⟩
  repeat (first | refine EvQ.run ?_ | refine EvQ.lift (fun _ zn => X.pcall (W) X.cq rfl X.al rfl zn) ?_ | refine EvQ.lift (fun _ zn => X.pcallG (W) rfl X.cq rfl X.al rfl zn) ?_ | refine EvQ.lift (fun _ zn => X.pcallC (W) rfl X.cq rfl X.al rfl zn) ?_ | refine EvQ.lift (fun _ zn => X.pcallT (W) (by decide) X.cq rfl X.al rfl zn) ?_ | refine EvQ.lift (fun _ zn => X.call rfl X.al (W) zn) ?_ | refine EvQ.lift (fun _ zn => X.pcall (pg) X.cq rfl X.al rfl zn) ?_ | refine EvQ.lift (fun _ zn => X.pcallG (pg) rfl X.cq rfl X.al rfl zn) ?_ | refine EvQ.lift (fun _ zn => X.pcallC (pg) rfl X.cq rfl X.al rfl zn) ?_ | refine EvQ.lift (fun _ zn => X.pcallT (pg) (by decide) X.cq rfl X.al rfl zn) ?_ | refine EvQ.lift (fun _ zn => X.call rfl X.al (pg) zn) ?_ | refine EvQ.lift (fun _ zn => X.pcall (hk) X.cq rfl X.al rfl zn) ?_ | refine EvQ.lift (fun _ zn => X.pcallG (hk) rfl X.cq rfl X.al rfl zn) ?_ | refine EvQ.lift (fun _ zn => X.pcallC (hk) rfl X.cq rfl X.al rfl zn) ?_ | refine EvQ.lift (fun _ zn => X.pcallT (hk) (by decide) X.cq rfl X.al rfl zn) ?_ | refine EvQ.lift (fun _ zn => X.call rfl X.al (hk) zn) ?_ | refine EvQ.fin X.rs ?_ | refine EvQ.fin1 (fun _ => rfl) rfl ?_)
  generalize keyS pe.q = key at *
  refine EvQ.loop (removes_loop1 h0.next l hl key _ hS ?_ _ ?_ _ ?_) ?_
  · exact Nat.zero_le _
  · exact X.lo
  · exact X.kv
  rintro _ ⟨tm, lo, hp2, rfl, elo, v, L, hS2, hP, hll⟩
  have ks := keys_ok (own := false) hp2 _ v L B0 hS2 hll
  repeat (first | refine EvQ.run ?_ | refine EvQ.fin X.rs ?_ | refine EvQ.fin1 (fun _ => rfl) rfl ?_)
  refine EvQ.call rfl X.al ks ?_
  rintro w hpK ⟨hw, hU, hid⟩
  have wl := hw.lp
  have wc := hw.cells
  have wk := hw.keep
  have hSK := hS2.up hU (Nat.le_refl _)
  have hlen := hS2.len
  have hKl : (keysL L).length ≤ 1000000 := by simp only [keysL, List.length_map]; omega
  have hlK : hpK.lim ≤ hpK.next := by rw [hU.lim]; have := hU.next; omega
  repeat (first | refine EvQ.run ?_ | refine EvQ.fin X.rs ?_ | refine EvQ.fin1 (fun _ => rfl) rfl ?_)
  refine EvQ.loop (removes_loop2 h0.next (keysL L) hKl key hpK w hw hlK _ ?_ _ ?_) ?_
  · exact elo
  · exact X.kv
  rintro _ ⟨x, tm, lo, hp3, rfl, hx, hU3, hxid⟩
  have hS3 := hSK.up hU3 (Nat.le_refl _)
  have rm := rem_ok (own := false) hp3 _ v L B0 key hS3
  rw [siv_len] at rm
  have hN := nodup_one hP.n key
  repeat (first | refine EvQ.run ?_ | refine EvQ.fin X.rs ?_ | refine EvQ.fin1 (fun _ => rfl) rfl ?_)
  refine EvQ.call rfl X.al rm ?_
  rintro _ hp4 ⟨rfl, v4, hS4, f4⟩
  have hx4 : Ow hp4 x 1 (txs ((keysL L).filter (fun x => !decide (x = key)))) := hx.get f4.next f4.lim fun id q => f4.get id (hx.lt id q) (fun e => by have := hxid id q; have := hSK.lt; omega) (fun e => by
    have := hxid id q; have := hS2.o.lt id e; have := hU.next; omega)
  have hl4 : hp4.lim ≤ hp4.next := by rw [f4.lim, hU3.lim]; have := hU3.next; have := f4.next; omega
  have ks2 := keys_ok (own := false) hp4 _ v4 _ B0 hS4 hl4
  have rm2 := fun (hp : Hp) (h : StoV hp h0.next v4 (siv (keyB key) L 0) B0) => rem_ok (own := false) hp _ v4 _ B0 key h
  have sr := storeruns_ok
  have sp := sameT_ok (keysL (siv (keyB key) L 0)) ((keysL L).filter (fun x => !decide (x = key))) (by rw [keys_siv]; exact Nat.le_trans (List.length_filter_le _ _) hKl) (Nat.le_trans (List.length_filter_le _ _) hKl)
  have hT : eqT (keysL (siv (keyB key) L 0)) ((keysL L).filter (fun x => !decide (x = key))) = true := by rw [keys_siv, eqT_eq]; simp
  rw [hT] at sp
  generalize ((keysL L).filter (fun x => decide (x = key))).length = N at *
  repeat (first | refine EvQ.run ?_ | refine EvQ.fin X.rs ?_ | refine EvQ.fin1 (fun _ => rfl) rfl ?_)
  refine EvQ.call rfl X.al ks2 ?_
  rintro w5 hp5 ⟨hw5, hU5, hid5⟩
  have wl5 := hw5.lp
  have xl := hx.lp
  have hx5 := hx4.up hU5 hx4.lt
  have hS5 := hS4.up hU5 (Nat.le_refl _)
  have hlk := (siv_zero (keyB key) L)
  obtain ⟨h6, c6, k6, n6, l6, -⟩ := hw5.close (ts := [.one]) (txs_clo _) (by rw [txs_length, List.length_map, hlk]; have := List.length_filter_le (fun e => !keyB key e) L; simp [depth]; omega)
  have hx6 : Ow h6 x 1 (txs ((keysL L).filter (fun x => !decide (x = key)))) := by
    rcases hx5 with h | ⟨id, rfl, q1, q2, q3⟩
    · exact .inl h
    · exact .inr ⟨id, rfl, by omega, by omega, k6 id _ (fun e => by have := hid5 id e; have := hx4.lt id rfl; omega) q3⟩
  obtain ⟨h7, c7, k7, n7, l7, -⟩ := hx6.close (ts := [.one]) (txs_clo _) (by rw [txs_length]; have := List.length_filter_le (fun x => !decide (x = key)) (keysL L); simp [depth]; omega)
  have hS7 : StoV h7 h0.next v4 (siv (keyB key) L 0) B0 := by
    have ks : ∀ id b, id < hp4.next → idOf x ≠ some id → hget hp5 id = some b → hget h7 id = some b := fun id b q1 q2 q3 =>
      k7 id b q2 (k6 id b (fun e => by have := hid5 id e; omega) q3)
    refine ⟨ks _ _ hS4.lt (fun e => by have := hxid _ e; have := hSK.lt; omega) hS5.obj, ?_, by rw [l7, l6]; exact hS5.lim, by rw [n7, n6]; exact hS5.lt, hS5.ok, hS5.tot, hS5.bud⟩
    rcases hS5.o with h | ⟨id, rfl, q1, q2, q3⟩
    · exact .inl h
    · refine .inr ⟨id, rfl, by omega, by omega, ks id _ (hS4.o.lt id rfl) (fun e => ?_) q3⟩
      obtain ⟨id', e', _, _, q4⟩ : ∃ id', x = .hs id' 0 (txs ((keysL L).filter (fun x => !decide (x = key)))).length ∧ id' < hp5.next ∧ hp5.lim ≤ id' ∧ hget hp5 id' = some ⟨1, false, txs ((keysL L).filter (fun x => !decide (x = key)))⟩ := by
        rcases hx5 with ⟨rfl, _⟩ | h
        · cases e
        · exact h
      rw [e'] at e; cases e
      rw [q3] at q4; cases q4
  have rm2 := rm2 h7 hS7
  rw [siv_twice, Nat.sub_self] at rm2
  repeat (first | refine EvQ.run ?_ | refine EvQ.lift (fun _ zn => X.pcall (sp) X.cq rfl X.al rfl zn) ?_ | refine EvQ.lift (fun _ zn => X.pcallG (sp) rfl X.cq rfl X.al rfl zn) ?_ | refine EvQ.lift (fun _ zn => X.pcallC (sp) rfl X.cq rfl X.al rfl zn) ?_ | refine EvQ.lift (fun _ zn => X.pcallT (sp) (by decide) X.cq rfl X.al rfl zn) ?_ | refine EvQ.lift (fun _ zn => X.call rfl X.al (sp) zn) ?_ | refine EvQ.fin X.rs ?_ | refine EvQ.fin1 (fun _ => rfl) rfl ?_)
  refine EvQ.call rfl X.al rm2 ?_
  rintro _ hp8 ⟨rfl, v8, -, -⟩
  repeat (first | refine EvQ.run ?_ | refine EvQ.lift (fun _ zn => X.pcall (sr) X.cq rfl X.al rfl zn) ?_ | refine EvQ.lift (fun _ zn => X.pcallG (sr) rfl X.cq rfl X.al rfl zn) ?_ | refine EvQ.lift (fun _ zn => X.pcallC (sr) rfl X.cq rfl X.al rfl zn) ?_ | refine EvQ.lift (fun _ zn => X.pcallT (sr) (by decide) X.cq rfl X.al rfl zn) ?_ | refine EvQ.lift (fun _ zn => X.call rfl X.al (sr) zn) ?_ | refine EvQ.fin X.rs ?_ | refine EvQ.fin1 (fun _ => rfl) rfl ?_)
  exact ⟨_, rfl⟩
theorem removes_law (xs : List V) (h : ShP [(false, [.sl [.it .i64]]), (false, [.it .i64])] xs) (hb : sizP xs ≤ 1048576) : ∃ L k hp', runF (callF F L k) L c6 xs h0 = .ret (.bo true) hp' := by
  obtain ⟨y, r, rfl, h3, h, e3⟩ := h.one'
  obtain ⟨z, r, rfl, h4, h, e4⟩ := h.one'
  cases h.nil'
  obtain ⟨es, rfl, h5, e5⟩ := slice_of h3
  obtain ⟨l, rfl, e6⟩ := ints_of h5
  obtain ⟨c, rfl, _⟩ := int_of h4
  exact law_of d6 rfl (removes_run l (by omega) c)
end Go.Proofs.Ytddohjlkjakdlaa
