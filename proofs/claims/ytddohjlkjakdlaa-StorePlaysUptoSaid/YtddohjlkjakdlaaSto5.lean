import Derived.Test.YtddohjlkjakdlaaEvE
import Derived.Test.YtddohjlkjakdlaaSto4
set_option linter.unusedVariables false
set_option linter.unusedSimpArgs false
set_option linter.unusedSectionVars false
set_option linter.unusedVariables false
set_option linter.unusedSimpArgs false
-- the store: Put, Remove
namespace Go.Proofs.Ytddohjlkjakdlaa
open Go hiding Fn
open Ev tab
attribute [local irreducible] EvP EvD EvL EvC evGds evLs C.run sK bK gK pK fK lpB stepD
/-- a place counted down: -1 behind the first one -/
def dnV : Nat → V
  | 0 => .it .i64 (-1)
  | k + 1 => .it .i64 (Int.ofNat k)
theorem dnV_sub (k : Nat) (h : k ≤ 1000000000) : V.it .i64 (wr .i64 (Int.ofNat k - 1)) = dnV k := by
  cases k with
  | zero => rfl
  | succ k =>
    show V.it .i64 (wr .i64 (Int.ofNat (k + 1) - 1)) = .it .i64 (Int.ofNat k)
    congr 1
    rw [wr64 (by simp only [Int.ofNat_eq_natCast]; omega) (by simp only [Int.ofNat_eq_natCast]; omega)]
    simp only [Int.ofNat_eq_natCast]; omega
/-- what stands, those from a place on sieved -/
def siv (p : En → Bool) (l : List En) (k : Nat) : List En := l.take k ++ (l.drop k).filter (fun e => !p e)
theorem siv_all (p : En → Bool) (l : List En) : siv p l l.length = l := by simp [siv]
theorem siv_zero (p : En → Bool) (l : List En) : siv p l 0 = l.filter (fun e => !p e) := by simp [siv]
theorem siv_get {p : En → Bool} {l : List En} {k : Nat} (h : k < l.length) : (siv p l (k + 1))[k]? = some (l.getD k e0) := by
  unfold siv
  rw [List.getElem?_append_left (by rw [List.length_take]; omega), List.getElem?_take_of_lt (by omega)]
  exact getD_some h
theorem siv_hit {p : En → Bool} {l : List En} {k : Nat} (h : k < l.length) (hp : p (l.getD k e0) = true) : (siv p l (k + 1)).eraseIdx k = siv p l k := by
  unfold siv
  rw [List.eraseIdx_append_of_lt_length (by rw [List.length_take]; omega), take_getD h e0, List.eraseIdx_append_of_length_le (by rw [List.length_take]; omega), List.length_take, Nat.min_eq_left (by omega), Nat.sub_self]
  rw [drop_getD h e0, List.filter_cons_of_neg (by rw [hp]; decide)]
  simp
theorem siv_miss {p : En → Bool} {l : List En} {k : Nat} (h : k < l.length) (hp : p (l.getD k e0) = false) : siv p l (k + 1) = siv p l k := by
  unfold siv
  rw [take_getD h e0, drop_getD h e0, List.filter_cons_of_pos (by rw [hp]; rfl), List.append_assoc]
  rfl
/-- the last ones go, till there is room -/
def cutGo (m : Nat) : Nat → List En → List En
  | 0, l => l
  | k + 1, l => if m < totS l then cutGo m k (l.eraseIdx (l.length - 1)) else l
def cutS' (m : Nat) (l : List En) : List En := cutGo m l.length l
theorem cutS_go {m : Nat} {l : List En} (h : m < totS l) : cutS' m l = cutS' m (l.eraseIdx (l.length - 1)) := by
  unfold cutS'
  cases l with
  | nil => simp [totS] at h
  | cons e r =>
    have : ((e :: r).eraseIdx ((e :: r).length - 1)).length = r.length := by
      rw [List.length_eraseIdx_of_lt (by simp)]; simp
    rw [this]
    show (if m < totS (e :: r) then _ else _) = _
    rw [if_pos h]
theorem cutS_end {m : Nat} {l : List En} (h : totS l ≤ m) : cutS' m l = l := by
  unfold cutS'
  cases l with
  | nil => rfl
  | cons e r =>
    show (if m < totS (e :: r) then _ else _) = _
    rw [if_neg (by omega)]
theorem cutGo_le (m : Nat) : ∀ (k : Nat) (l : List En), l.length ≤ k → totS (cutGo m k l) ≤ m
  | 0, l, h => by
    have : l = [] := List.length_eq_zero_iff.1 (by omega)
    subst this; simp [cutGo, totS]
  | k + 1, l, h => by
    unfold cutGo
    split
    · refine cutGo_le m k _ ?_
      cases l with
      | nil => simp
      | cons e r => rw [List.length_eraseIdx_of_lt (by simp)]; simp at h ⊢; omega
    · omega
theorem cutS_le (m : Nat) (l : List En) : totS (cutS' m l) ≤ m := cutGo_le m _ _ (Nat.le_refl _)
def putL (l : List En) (b : Nat) (e : En) : List En :=
  if b < costS e then siv (fun x => fitB x e.q) l 0 else e :: cutS' (b - costS e) (siv (fun x => fitB x e.q) l 0)
def putB (b : Nat) (e : En) : Bool := !decide (b < costS e)
def LSp (e : En) : Lo := lset (fun _ => none) 3 (rowEn e)
set_option maxHeartbeats 16000000 in
theorem put_loop1 (hp0 : Hp) (s : Nat) (v0 : V) (l : List En) (b : Nat) (e : En) (h : StoV hp0 s v0 l b) (he : EOK e) (lo : Lo) (hlo : shed [] lo = LSp e) (tm : Tm)
    (hk : [0, 3, 5].map (fun x => (x, tm x)) = [(0, .pt s 0 0), (3, .lp 3 0), (5, dnV l.length)]) :
    ∃ r, EvL F [0, 3, 5] [] (lpB (d10.body.lps.getD 0 .skip)) ⟨tm, lo, hp0⟩ r ∧ XtQ 0 [(0, .pt s 0 0), (3, .lp 3 0)] (fun lo hp => lo = LSp e ∧ ∃ v, StoV hp s v (siv (fun x => fitB x e.q) l 0) b ∧ Fr s hp0 v0 hp v) r := by
  have hl0 := h.len
  refine EvL.invQ (S := Nat) (fun k => [(0, .pt s 0 0), (3, .lp 3 0), (5, dnV k)]) (fun k lo hp => shed [] lo = LSp e ∧ k ≤ l.length ∧ ∃ v, StoV hp s v (siv (fun x => fitB x e.q) l k) b ∧ Fr s hp0 v0 hp v) (fun k => k) _ ?_ l.length tm lo hp0 ⟨hlo, Nat.le_refl _, v0, by rw [siv_all]; exact h, .refl _ _ _⟩ hk
  intro k lo hp ⟨e1, e2, v, hS, hF⟩
  rw [e1]
  cases k with
  | zero =>
    repeat' (first | refine EvQ.run ?_ | (refine EvQ.pickB rfl rfl rfl ?_) | (refine EvQ.cond rfl (fun h => ?_) (fun h => ?_) <;> ((first | replace h := X.nm h | skip); try have hne := ne_len h)) | (refine EvQ.g1 rfl (fun h => ?_) (fun h => ?_) <;> ((first | replace h := X.nm h | skip); try have hne := ne_len h)) | (refine EvQ.pick rfl (fun _ => rfl) (fun _ => rfl) (fun h => ?_) (fun h => ?_) <;> ((first | replace h := X.nm h | skip); try have hne := ne_len h)) | refine EvQ.fin X.rs ?_ | refine EvQ.fin1 (fun _ => rfl) rfl ?_)
    exact EvQ.xt (.mk' X.kv ⟨rfl, v, hS, hF⟩)
  | succ k =>
    have hk : k < l.length := e2
    have hg := siv_get (p := fun x => fitB x e.q) hk
    have hlen := hS.len
    have hrl : ((siv (fun x => fitB x e.q) l (k + 1)).map rowEn).length = (siv (fun x => fitB x e.q) l (k + 1)).length := List.length_map _
    have hlt : k < (siv (fun x => fitB x e.q) l (k + 1)).length := by
      rcases Nat.lt_or_ge k (siv (fun x => fitB x e.q) l (k + 1)).length with q | q
      · exact q
      · rw [List.getElem?_eq_none q] at hg; cases hg
    have hge : ((siv (fun x => fitB x e.q) l (k + 1)).map rowEn).getD k [] = rowEn (l.getD k e0) := by rw [List.getD, List.getElem?_map, hg]; rfl
    have hE := h.ok _ (mem_getD hk)
    have hf := fits_ok (l.getD k e0) e.q hE he.q
    have c3 := rowEn_clo (l.getD k e0)
    have c4 := rowRq_clo e.q
    have hdn := dnV_sub k (by omega)
    have hhit := siv_hit (p := fun x => fitB x e.q) hk
    have hmiss := siv_miss (p := fun x => fitB x e.q) hk
    have dr := fun (own : Bool) => drop_ok (own := own) hp s v _ b k _ hS hg
    have hobj := hS.obj
    have hR := hS.o.sl.rd
    have vl := hS.o.lp
    have vc := hS.o.cells
    have vk := hS.o.keep
    generalize l.getD k e0 = en at *
    generalize siv (fun x => fitB x e.q) l (k + 1) = L at *
    have e5 : dnV (k + 1) = .it .i64 (Int.ofNat k) := rfl
    rw [e5]
    repeat' (first | refine EvQ.run ?_ | refine EvQ.lift (fun _ zn => X.pcall (hf) X.cq rfl X.al rfl zn) ?_ | refine EvQ.lift (fun _ zn => X.pcallG (hf) rfl X.cq rfl X.al rfl zn) ?_ | refine EvQ.lift (fun _ zn => X.pcallC (hf) rfl X.cq rfl X.al rfl zn) ?_ | refine EvQ.lift (fun _ zn => X.pcallT (hf) (by decide) X.cq rfl X.al rfl zn) ?_ | refine EvQ.lift (fun _ zn => X.call rfl X.al (hf) zn) ?_ | (refine EvQ.pickB rfl rfl rfl ?_) | (refine EvQ.cond rfl (fun h => ?_) (fun h => ?_) <;> ((first | replace h := X.nm h | skip); try have hne := ne_len h)) | (refine EvQ.g1 rfl (fun h => ?_) (fun h => ?_) <;> ((first | replace h := X.nm h | skip); try have hne := ne_len h)) | (refine EvQ.pick rfl (fun _ => rfl) (fun _ => rfl) (fun h => ?_) (fun h => ?_) <;> ((first | replace h := X.nm h | skip); try have hne := ne_len h)) | refine EvQ.fin X.rs ?_ | refine EvQ.fin1 (fun _ => rfl) rfl ?_)
    · refine EvQ.call rfl X.al (dr false) ?_
      rintro _ hp1 ⟨rfl, v1, h1, f1⟩
      rw [hhit (by assumption)] at h1
      repeat' (first | refine EvQ.run ?_ | (refine EvQ.pickB rfl rfl rfl ?_) | (refine EvQ.cond rfl (fun h => ?_) (fun h => ?_) <;> ((first | replace h := X.nm h | skip); try have hne := ne_len h)) | (refine EvQ.g1 rfl (fun h => ?_) (fun h => ?_) <;> ((first | replace h := X.nm h | skip); try have hne := ne_len h)) | (refine EvQ.pick rfl (fun _ => rfl) (fun _ => rfl) (fun h => ?_) (fun h => ?_) <;> ((first | replace h := X.nm h | skip); try have hne := ne_len h)) | refine EvQ.fin X.rs ?_ | refine EvQ.fin1 (fun _ => rfl) rfl ?_)
      exact EvQ.go k X.kv ⟨X.lo, by omega, v1, h1, hF.trans f1⟩ (by omega)
    · refine EvQ.go k X.kv ⟨X.lo, by omega, v, ?_, hF⟩ (by omega)
      rw [← hmiss (by assumption)]; exact hS
set_option maxHeartbeats 16000000 in
theorem put_loop2 (hp0 : Hp) (s : Nat) (v0 : V) (l : List En) (b n : Nat) (e : En) (hn : n ≤ b) (h : StoV hp0 s v0 l b) (lo : Lo) (hlo : shed [] lo = LSp e) (tm : Tm)
    (hk : [0, 3, 6].map (fun x => (x, tm x)) = [(0, .pt s 0 0), (3, .lp 3 0), (6, .it .i64 (Int.ofNat n))]) :
    ∃ r, EvL F [0, 3, 6] [] (lpB (d10.body.lps.getD 1 .skip)) ⟨tm, lo, hp0⟩ r ∧ XtQ 2 [(0, .pt s 0 0), (3, .lp 3 0)] (fun lo hp => lo = LSp e ∧ ∃ v, StoV hp s v (cutS' (b - n) l) b ∧ Fr s hp0 v0 hp v) r := by
  refine EvL.invQ (S := List En) (fun _ => [(0, .pt s 0 0), (3, .lp 3 0), (6, .it .i64 (Int.ofNat n))]) (fun L lo hp => shed [] lo = LSp e ∧ cutS' (b - n) L = cutS' (b - n) l ∧ ∃ v, StoV hp s v L b ∧ Fr s hp0 v0 hp v) (fun L => L.length) _ ?_ l tm lo hp0 ⟨hlo, rfl, v0, h, .refl _ _ _⟩ hk
  intro L lo hp ⟨e1, e2, v, hS, hF⟩
  rw [e1]
  have hlen := hS.len
  have hobj := hS.obj
  have hR := hS.o.sl.rd
  have vl := hS.o.lp
  have vc := hS.o.cells
  have vk := hS.o.keep
  have hbud := hS.bud
  have htot := hS.tot
  have hrl : (L.map rowEn).length = L.length := List.length_map _
  have hnn := hS.o.len
  rw [hrl] at hnn
  by_cases hc : b - n < totS L
  · have hpos : 0 < L.length := by
      cases L with
      | nil => simp [totS] at hc
      | cons a r => simp
    have dr := drop_ok (own := false) hp s v L b (L.length - 1) _ hS (getD_some (by omega))
    have hg := cutS_go hc
    repeat' (first | refine EvQ.run ?_ | (refine EvQ.pickB rfl rfl rfl ?_) | (refine EvQ.cond rfl (fun h => ?_) (fun h => ?_) <;> ((first | replace h := X.nm h | skip); try have hne := ne_len h)) | (refine EvQ.g1 rfl (fun h => ?_) (fun h => ?_) <;> ((first | replace h := X.nm h | skip); try have hne := ne_len h)) | (refine EvQ.pick rfl (fun _ => rfl) (fun _ => rfl) (fun h => ?_) (fun h => ?_) <;> ((first | replace h := X.nm h | skip); try have hne := ne_len h)) | refine EvQ.fin X.rs ?_ | refine EvQ.fin1 (fun _ => rfl) rfl ?_)
    refine EvQ.call rfl X.al dr ?_
    rintro _ hp1 ⟨rfl, v1, h1, f1⟩
    repeat' (first | refine EvQ.run ?_ | (refine EvQ.pickB rfl rfl rfl ?_) | (refine EvQ.cond rfl (fun h => ?_) (fun h => ?_) <;> ((first | replace h := X.nm h | skip); try have hne := ne_len h)) | (refine EvQ.g1 rfl (fun h => ?_) (fun h => ?_) <;> ((first | replace h := X.nm h | skip); try have hne := ne_len h)) | (refine EvQ.pick rfl (fun _ => rfl) (fun _ => rfl) (fun h => ?_) (fun h => ?_) <;> ((first | replace h := X.nm h | skip); try have hne := ne_len h)) | refine EvQ.fin X.rs ?_ | refine EvQ.fin1 (fun _ => rfl) rfl ?_)
    refine EvQ.go (L.eraseIdx (L.length - 1)) X.kv ⟨X.lo, by rw [← hg]; exact e2, v1, h1, hF.trans f1⟩ ?_
    show (L.eraseIdx (L.length - 1)).length < L.length
    rw [List.length_eraseIdx_of_lt (by omega)]; omega
  · repeat' (first | refine EvQ.run ?_ | (refine EvQ.pickB rfl rfl rfl ?_) | (refine EvQ.cond rfl (fun h => ?_) (fun h => ?_) <;> ((first | replace h := X.nm h | skip); try have hne := ne_len h)) | (refine EvQ.g1 rfl (fun h => ?_) (fun h => ?_) <;> ((first | replace h := X.nm h | skip); try have hne := ne_len h)) | (refine EvQ.pick rfl (fun _ => rfl) (fun _ => rfl) (fun h => ?_) (fun h => ?_) <;> ((first | replace h := X.nm h | skip); try have hne := ne_len h)) | refine EvQ.fin X.rs ?_ | refine EvQ.fin1 (fun _ => rfl) rfl ?_)
    rw [cutS_end (by omega)] at e2
    exact EvQ.xt (.mk' X.kv ⟨rfl, v, by rw [← e2]; exact hS, hF⟩)
set_option maxHeartbeats 16000000 in
theorem putS_ok {own : Bool} (hp : Hp) (s : Nat) (v : V) (l : List En) (b : Nat) (e : En) (h : StoV hp s v l b) (he : EOK e) :
    ∃ w hp', EvC F own 10 [.pt s 0 0, .ag (rowEn e)] hp (.ret w hp') ∧ w = .bo (putB b e) ∧ ∃ v', StoV hp' s v' (putL l b e) b ∧ Fr s hp v hp' v' := by
  have hlen := h.len
  have hobj := h.obj
  have hR := h.o.sl.rd
  have vl := h.o.lp
  have vc := h.o.cells
  have vk := h.o.keep
  have hrl : (l.map rowEn).length = l.length := List.length_map _
  have hnn := h.o.len
  rw [hrl] at hnn
  have hdn := dnV_sub l.length (by omega)
  have hc := cost_ok e he
  have hcl := he.cost
  have hbud := h.bud
  have c3 := rowEn_clo e
  have cp := copied_ok e he
  refine EvC.ofQ d10 rfl rfl rfl ?_
  repeat (first | refine EvQ.run ?_ | refine EvQ.fin X.rs ?_ | refine EvQ.fin1 (fun _ => rfl) rfl ?_)
  refine EvQ.loop (put_loop1 hp s v l b e h he _ ?_ _ ?_) ?_
  · exact X.lo
  · exact X.kv
  rintro _ ⟨tm, lo, hp1, rfl, rfl, v1, h1, f1⟩
  have hobj1 := h1.obj
  have vl1 := h1.o.lp
  have vc1 := h1.o.cells
  have vk1 := h1.o.keep
  repeat (first | refine EvQ.run ?_ | refine EvQ.lift (fun _ zn => X.pcall (hc) X.cq rfl X.al rfl zn) ?_ | refine EvQ.lift (fun _ zn => X.pcallG (hc) rfl X.cq rfl X.al rfl zn) ?_ | refine EvQ.lift (fun _ zn => X.pcallC (hc) rfl X.cq rfl X.al rfl zn) ?_ | refine EvQ.lift (fun _ zn => X.pcallT (hc) (by decide) X.cq rfl X.al rfl zn) ?_ | refine EvQ.lift (fun _ zn => X.call rfl X.al (hc) zn) ?_ | refine EvQ.fin X.rs ?_ | refine EvQ.fin1 (fun _ => rfl) rfl ?_)
  refine EvQ.cond rfl (fun q => ?_) (fun q => ?_)
  · have q : b < costS e := by simpa [sd] using q
    repeat (first | refine EvQ.run ?_ | refine EvQ.fin X.rs ?_ | refine EvQ.fin1 (fun _ => rfl) rfl ?_)
    refine ⟨_, _, rfl, ?_, v1, ?_, f1⟩
    · show V.bo false = _
      unfold putB; rw [decide_eq_true q]; rfl
    · unfold putL; rw [if_pos q]; exact h1
  · have q : costS e ≤ b := by simpa [sd] using q
    repeat (first | refine EvQ.run ?_ | refine EvQ.fin X.rs ?_ | refine EvQ.fin1 (fun _ => rfl) rfl ?_)
    refine EvQ.loop (put_loop2 hp1 s v1 _ b (costS e) e q h1 _ ?_ _ ?_) ?_
    · exact X.lo
    · exact X.kv
    rintro _ ⟨tm, lo, hp2, rfl, rfl, v2, h2, f2⟩
    have ht := cutS_le (b - costS e) (siv (fun x => fitB x e.q) l 0)
    repeat (first | refine EvQ.run ?_ | refine EvQ.fin X.rs ?_ | refine EvQ.fin1 (fun _ => rfl) rfl ?_)
    first | refine EvQ.lift (fun _ zn => X.pcall (cp) X.cq rfl X.al rfl zn) ?_ | refine EvQ.lift (fun _ zn => X.pcallG (cp) rfl X.cq rfl X.al rfl zn) ?_ | refine EvQ.lift (fun _ zn => X.pcallC (cp) rfl X.cq rfl X.al rfl zn) ?_ | refine EvQ.lift (fun _ zn => X.pcallT (cp) (by decide) X.cq rfl X.al rfl zn) ?_ | refine EvQ.lift (fun _ zn => X.call rfl X.al (cp) zn) ?_
    try refine EvQ.run ?_
    refine EvQ.call rfl X.al (sput_ok (own := false) hp2 s v2 _ b e h2 he (by omega)) ?_
    rintro _ hp3 ⟨rfl, v3, h3, f3⟩
    repeat (first | refine EvQ.run ?_ | refine EvQ.fin X.rs ?_ | refine EvQ.fin1 (fun _ => rfl) rfl ?_)
    refine ⟨_, _, rfl, ?_, v3, ?_, (f1.trans f2).trans f3⟩
    · show V.bo true = _
      unfold putB; rw [decide_eq_false (by omega)]; rfl
    · unfold putL; rw [if_neg (by omega)]; exact h3
end Go.Proofs.Ytddohjlkjakdlaa
