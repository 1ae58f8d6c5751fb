import Derived.Test.YtndodhmfdjcjgaaGreatDoorEvE
import Derived.Test.YtndodhmfdjcjgaaGreatDoorPk
set_option linter.unusedSectionVars false
set_option linter.unusedVariables false
set_option linter.unusedSimpArgs false
-- moves of frames; what is closed (EvHp EvOwn)
namespace Go.Proofs.YtndodhmfdjcjgaaGreatDoor
open Go hiding Fn
open Ev tab
def frs (l : List Frm) : List (List V) := l.map fun f => fr f.1 f.2.1 f.2.2.1 f.2.2.2
def frsz : List Frm -> Nat
 | [] => 0
 | f :: r => f.2.2.2.length + 12 + frsz r
theorem frs_length (l : List Frm) : (frs l).length = l.length := by simp [frs]
theorem closeEs_fr : ∀ (rows : List (List V)) (fs : List Frm) (hp : Hp), FrR hp 0 rows fs -> ∃ hp', Ez hp hp' /\ ∀ n, frsz fs + 10 <= n -> closeEs n [.one, .one, .one, .sl [.one]] rows hp = some (frs fs, hp') := by
 intro rows
 induction rows with
 | nil =>
  intro fs hp h
  cases h
  refine ⟨hp, .refl _, fun n hn => ?_⟩
  cases n with
  | zero => omega
  | succ n => rfl
 | cons row rows ih =>
  intro fs hp h
  cases h with
  | cons hb _ hr =>
   obtain ⟨hp1, z1, -, c1⟩ := close_by2 hb
   obtain ⟨hp2, z2, c2⟩ := ih _ hp1 (hr.mono1 z1.to1)
   refine ⟨hp2, z1.trans z2, fun n hn => ?_⟩
   simp only [frsz] at hn
   cases n with
   | zero => omega
   | succ n =>
    simp only [closeEs, close_fr c1 n (by omega), c2 n (by omega)]
    rfl
/-- frames in memory -/
def FrC (hp : Hp) (v : V) (fs : List Frm) : Prop :=
 (v = .ns /\ fs = []) \/ ∃ id f rows, v = .hs id 0 fs.length /\ hp.lim <= id /\ hget hp id = some ⟨4, f, rows⟩ /\ FrR hp 0 rows fs
theorem close_frc {hp : Hp} {v : V} {fs : List Frm} (h : FrC hp v fs) : ∃ hp', Ez hp hp' /\ ∀ n, frsz fs + 12 <= n -> closeC n (.sl [.one, .one, .one, .sl [.one]]) v hp = some (.vs 4 (frs fs), hp') := by
 rcases h with ⟨rfl, rfl⟩ | ⟨id, f, rows, rfl, q2, q3, q4⟩
 ·refine ⟨hp, .refl _, fun n hn => ?_⟩
  cases n with
  | zero => omega
  | succ n => rfl
 ·have hl := q4.length
  have z0 : Ez hp (hset hp id (some ⟨4, true, rows⟩)) := .freeze q3 (by decide)
  obtain ⟨hp2, z2, c2⟩ := closeEs_fr rows fs _ (q4.mono1 z0.to1)
  refine ⟨hp2, z0.trans z2, fun n hn => ?_⟩
  cases n with
  | zero => omega
  | succ n =>
   have hlt : Nat.blt id hp.lim = false := by rw [bltD]; simp; omega
   have hq2 : Nat.ble (0 + fs.length) rows.length = true := by rw [bleD]; simp [hl]
   have hfz : Ev.freeze hp id = hset hp id (some ⟨4, true, rows⟩) := by unfold Ev.freeze; rw [q3]
   have ht : (rows.drop 0).take fs.length = rows := by rw [List.drop_zero]; apply List.take_of_length_le; omega
   simp only [closeC, q3, hlt, cond_false, hq2, hfz, cond_true, ht, c2 n (by omega)]
   rfl
/-- moves in memory -/
inductive MvR (hp : Hp) : List (List V) -> List (Bool × List Int) -> Prop
 | nil : MvR hp [] []
 | cons {sd : Bool} {b : List Int} {v : V} {rows : List (List V)} {ms : List (Bool × List Int)} (h : By hp v b) (r : MvR hp rows ms) : MvR hp ([.bo sd, v] :: rows) ((sd, b) :: ms)
theorem MvR.mono1 {hp hp' : Hp} {rows : List (List V)} {ms : List (Bool × List Int)} (h : MvR hp rows ms) (e : Ex1 hp hp') : MvR hp' rows ms := by
 induction h with
 | nil => exact .nil
 | cons h r ih => exact .cons (h.mono1 e) ih
theorem MvR.length {hp : Hp} {rows : List (List V)} {ms : List (Bool × List Int)} (h : MvR hp rows ms) : rows.length = ms.length := by
 induction h with
 | nil => rfl
 | cons h r ih => simp [ih]
def mvs (ms : List (Bool × List Int)) : List (List V) := ms.map fun m => [.bo m.1, .vs 1 (bs m.2)]
def mvsz : List (Bool × List Int) -> Nat
 | [] => 0
 | m :: r => m.2.length + 12 + mvsz r
theorem closeCs_mv {hp hp1 : Hp} {sd : Bool} {v : V} {b : List Int} (h : ∀ n, b.length + 5 <= n -> closeC n (.sl [.one]) v hp = some (.vs 1 (bs b), hp1)) : ∀ n, b.length + 8 <= n ->
  closeCs n [.one, .sl [.one]] [.bo sd, v] hp = some ([.bo sd, .vs 1 (bs b)], hp1) := by
 intro n hn
 obtain ⟨m, rfl⟩ : ∃ m, n = m + 1 + 1 + 1 := ⟨n - 3, by omega⟩
 have i1 : ∀ (k : Nat) (x : Bool) (hp : Hp), closeC (k + 1) .one (.bo x) hp = some (.bo x, hp) := fun _ _ _ => rfl
 simp only [closeCs, i1, h (m + 1) (by omega)]
theorem closeEs_mv : ∀ (rows : List (List V)) (ms : List (Bool × List Int)) (hp : Hp), MvR hp rows ms -> ∃ hp', Ez hp hp' /\ ∀ n, mvsz ms + 10 <= n -> closeEs n [.one, .sl [.one]] rows hp = some (mvs ms, hp') := by
 intro rows
 induction rows with
 | nil =>
  intro ms hp h
  cases h
  refine ⟨hp, .refl _, fun n hn => ?_⟩
  cases n with
  | zero => omega
  | succ n => rfl
 | cons row rows ih =>
  intro ms hp h
  cases h with
  | cons hb hr =>
   obtain ⟨hp1, z1, -, c1⟩ := close_by2 hb
   obtain ⟨hp2, z2, c2⟩ := ih _ hp1 (hr.mono1 z1.to1)
   refine ⟨hp2, z1.trans z2, fun n hn => ?_⟩
   simp only [mvsz] at hn
   cases n with
   | zero => omega
   | succ n =>
    simp only [closeEs, closeCs_mv c1 n (by omega), c2 n (by omega)]
    rfl
theorem close_mvc {hp : Hp} {id : Nat} {f : Bool} {rows : List (List V)} {ms : List (Bool × List Int)} (q2 : hp.lim <= id) (q3 : hget hp id = some ⟨2, f, rows⟩) (q4 : MvR hp rows ms) : ∃ hp', Ez hp hp' /\ ∀ n, mvsz ms + 12 <= n -> closeC n (.sl [.one, .sl [.one]]) (.hs id 0 ms.length) hp = some (.vs 2 (mvs ms), hp') := by
 have hl := q4.length
 have z0 : Ez hp (hset hp id (some ⟨2, true, rows⟩)) := .freeze q3 (by decide)
 obtain ⟨hp2, z2, c2⟩ := closeEs_mv rows ms _ (q4.mono1 z0.to1)
 refine ⟨hp2, z0.trans z2, fun n hn => ?_⟩
 cases n with
 | zero => omega
 | succ n =>
  have hlt : Nat.blt id hp.lim = false := by rw [bltD]; simp; omega
  have hq2 : Nat.ble (0 + ms.length) rows.length = true := by rw [bleD]; simp [hl]
  have hfz : Ev.freeze hp id = hset hp id (some ⟨2, true, rows⟩) := by unfold Ev.freeze; rw [q3]
  have ht : (rows.drop 0).take ms.length = rows := by rw [List.drop_zero]; apply List.take_of_length_le; omega
  simp only [closeC, q3, hlt, cond_false, hq2, hfz, cond_true, ht, c2 n (by omega)]
  rfl
theorem putL_len (b p : List Int) (ty fl s : Int) : (putL b ty fl s p).length <= b.length + 9 + p.length := by
 unfold putL
 split
 ·simp only [List.length_append, h9_len]; omega
 ·omega
theorem putsF_app (b : List Int) (fs : List Frm) (f : Frm) : putsF b (fs ++ [f]) = putL (putsF b fs) f.1 f.2.1 f.2.2.1 f.2.2.2 := by
 induction fs generalizing b with
 | nil => rfl
 | cons g r ih => exact ih _
theorem putsF_len (fs : List Frm) : ∀ b : List Int, (putsF b fs).length <= b.length + frsz fs := by
 induction fs with
 | nil => intro b; exact Nat.le_refl _
 | cons f r ih =>
  intro b
  have := ih (putL b f.1 f.2.1 f.2.2.1 f.2.2.2)
  have h2 := putL_len b f.2.2.2 f.1 f.2.1 f.2.2.1
  show (putsF (putL b f.1 f.2.1 f.2.2.1 f.2.2.2) r).length <= b.length + (f.2.2.2.length + 12 + frsz r)
  omega
theorem frsz_take (fs : List Frm) : ∀ i, frsz (fs.take i) <= frsz fs := by
 induction fs with
 | nil => intro i; simp
 | cons f r ih =>
  intro i
  cases i with
  | zero => exact Nat.zero_le _
  | succ i => have := ih i; simp only [List.take_succ_cons, frsz]; omega
theorem frsz_mem (fs : List Frm) : ∀ f, f ∈ fs -> f.2.2.2.length <= frsz fs := by
 induction fs with
 | nil => intro f h; cases h
 | cons g r ih =>
  intro f h
  simp only [frsz]
  rcases List.mem_cons.1 h with rfl | h
  ·omega
  ·have := ih f h; omega
attribute [local irreducible] EvP EvD EvL EvC EvO evGds evLs C.run sK bK gK pK fK lpB stepD
set_option maxHeartbeats 16000000 in
theorem frames_ok (sd : Bool) (fs : List Frm) (hz : frsz fs <= 1000000) (hn : fs.length <= 1000) (hne : 0 < fs.length) : EvP F 9 c9 [.bo sd, .vs 4 (frs fs)] [.ag [.bo sd, .vs 1 (bs (putsF [] fs))]] := by
 have fl := frs_length fs
 refine EvP.ofQ d9 rfl rfl rfl ?_
 repeat (first | refine EvQ.run ?_ | refine EvQ.fin X.rs ?_ | refine EvQ.fin1 (fun _ => rfl) rfl ?_)
 refine EvQ.loop (QL := XtQ 0 [(0, .bo sd), (4, .lp 4 0), (5, .vs 1 (bs (putsF [] fs)))] (fun lo hp' => lo = lset (fun _ => none) 4 [.bo false, .ns])) ?_ ?_
 ·refine EvL.invQ (S := Nat × V) (fun y => [(0, .bo sd), (1, .vs 4 (frs fs)), (4, .lp 4 0), (5, y.2), (6, .it .i64 (Int.ofNat y.1))]) (fun y lo hp' => shed [] lo = lset (fun _ => none) 4 [.bo false, .ns] /\ y.1 <= fs.length /\ ((y.2 = V.ns /\ y.1 = 0) \/ y.2 = V.vs 1 (bs (putsF [] (fs.take y.1))))) (fun y => fs.length - y.1) _ ?_ (0, .ns) _ _ _ ⟨X.lo, Nat.zero_le _, .inl ⟨rfl, rfl⟩⟩ X.kv
  rintro ⟨i, v⟩ lo hp' ⟨e1, hi, hv⟩
  simp only at hi hv
  rw [e1]
  dsimp only
  by_cases hq : i < fs.length
  ·have zq : ilt (Int.ofNat i) (Int.ofNat (frs fs).length) = true := by rw [fl, ilt_eq]; exact decide_eq_true (by simp only [Int.ofNat_eq_natCast]; omega)
   obtain ⟨f, hf⟩ : ∃ f, fs[i]? = some f := ⟨fs[i], by simp [hq]⟩
   have erow : (frs fs).getD i [] = fr f.1 f.2.1 f.2.2.1 f.2.2.2 := by simp [frs, List.getD, hf]
   have hmem : f ∈ fs := List.mem_of_getElem? hf
   have b1 := frsz_mem fs f hmem
   have b2 := putsF_len (fs.take i) []
   have b3 := frsz_take fs i
   have tk : fs.take (i + 1) = fs.take i ++ [f] := by rw [List.take_add_one, hf]; rfl
   have pt := (rput_ok (putsF [] (fs.take i)) f.1 f.2.1 f.2.2.1 f.2.2.2 (by simp only [List.length_nil] at b2; omega)).toP
   rw [<- putsF_app, <- tk] at pt
   have clo := fr_clo f.1 f.2.1 f.2.2.1 f.2.2.2
   unfold fr at *
   rcases hv with ⟨rfl, rfl⟩ | rfl
   ·have pt : EvP F 5 c5 [.vs 1 (bs []), .ag [.it .i64 f.1, .it .i64 f.2.1, .it .i64 f.2.2.1, .vs 1 (bs f.2.2.2)]] [.vs 1 (bs (putsF [] (fs.take (0 + 1))))] := pt
    repeat (first | refine EvQ.run ?_ | refine EvQ.fin X.rs ?_ | refine EvQ.fin1 (fun _ => rfl) rfl ?_)
    refine EvQ.lift (fun _ zn => X.pcall pt (.c rfl (.gs clo (.nil _))) rfl X.al rfl zn) ?_
    repeat (first | refine EvQ.run ?_ | refine EvQ.fin X.rs ?_ | refine EvQ.fin1 (fun _ => rfl) rfl ?_)
    exact EvQ.go (S := Nat × V) (1, .vs 1 (bs (putsF [] (fs.take 1)))) X.kv ⟨X.lo, hq, .inr rfl⟩ (by show fs.length - 1 < fs.length - 0; omega)
   ·repeat (first | refine EvQ.run ?_ | refine EvQ.lift (fun _ zn => X.pcall (pt) X.cq rfl X.al rfl zn) ?_ | refine EvQ.lift (fun _ zn => X.pcallG (pt) rfl X.cq rfl X.al rfl zn) ?_ | refine EvQ.lift (fun _ zn => X.pcallC (pt) rfl X.cq rfl X.al rfl zn) ?_ | refine EvQ.lift (fun _ zn => X.pcallT (pt) (by decide) X.cq rfl X.al rfl zn) ?_ | refine EvQ.lift (fun _ zn => X.call rfl X.al (pt) zn) ?_ | refine EvQ.fin X.rs ?_ | refine EvQ.fin1 (fun _ => rfl) rfl ?_)
    exact EvQ.go (S := Nat × V) (i + 1, .vs 1 (bs (putsF [] (fs.take (i + 1))))) X.kv ⟨X.lo, hq, .inr rfl⟩ (by show fs.length - (i + 1) < fs.length - i; omega)
  ·have zq : ilt (Int.ofNat i) (Int.ofNat (frs fs).length) = false := by rw [fl, ilt_eq]; exact decide_eq_false (by simp only [Int.ofNat_eq_natCast]; omega)
   have hi2 : i = fs.length := by omega
   subst hi2
   rw [List.take_length] at hv
   rcases hv with ⟨_, h⟩ | rfl
   ·omega
   ·repeat (first | refine EvQ.run ?_ | refine EvQ.fin X.rs ?_ | refine EvQ.fin1 (fun _ => rfl) rfl ?_)
    exact EvQ.xt (.mk' X.kv X.lo)
 ·rintro _ ⟨tm, lo, hp', rfl, rfl⟩
  repeat (first | refine EvQ.run ?_ | refine EvQ.fin X.rs ?_ | refine EvQ.fin1 (fun _ => rfl) rfl ?_)
  exact PQ.of (.gs (.cons (clo_bo _) (.cons (clo_vs [.one] _) .nil)) (.nil _))
/-- frames(..), called -/
theorem fr_call {hp : Hp} {v : V} {fs : List Frm} {sd : Bool} {L : List Int} (hC : FrC hp v fs) (hz : frsz fs <= 1000000) (hn : fs.length <= 1000) (hne : 0 < fs.length) (hL : putsF [] fs = L) : ∃ w hp', EvC F false 9 [.bo sd, v] hp (.ret w hp') /\ (w = .ag [.bo sd, .vs 1 (bs L)] /\ Ez hp hp') := by
 subst hL
 obtain ⟨hp', z, c⟩ := close_frc hC
 exact ⟨_, hp', EvC.of (frames_ok sd fs hz hn hne) (.s (clo_bo _) (.c (c _ (by show frsz fs + 12 <= 100000000; omega)) (.nil _))), rfl, z⟩
/-- Check, called -/
theorem ck_call {hp : Hp} {id : Nat} {f : Bool} {rows : List (List V)} {ms : List (Bool × List Int)} {sv : Bool} {r : Int} (q2 : hp.lim <= id) (q3 : hget hp id = some ⟨2, f, rows⟩) (q4 : MvR hp rows ms) (hz : mvsz ms <= 1000000) (h : EvP F 6 c6 [.bo sv, .vs 2 (mvs ms)] [.it .i64 r]) : ∃ w hp', EvC F false 6 [.bo sv, .hs id 0 ms.length] hp (.ret w hp') /\ (w = .it .i64 r /\ Ez hp hp') := by
 obtain ⟨hp', z, c⟩ := close_mvc q2 q3 q4
 exact ⟨_, hp', EvC.of h (.s (clo_bo _) (.c (c _ (by show mvsz ms + 12 <= 100000000; omega)) (.nil _))), rfl, z⟩
end Go.Proofs.YtndodhmfdjcjgaaGreatDoor
