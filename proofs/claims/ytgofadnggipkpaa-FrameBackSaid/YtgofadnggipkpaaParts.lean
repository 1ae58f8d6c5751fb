import Derived.Test.YtgofadnggipkpaaEvE
import Derived.Test.YtgofadnggipkpaaFeedP
import Derived.Test.YtgofadnggipkpaaEvE
set_option linter.unusedVariables false
set_option linter.unusedSimpArgs false
namespace Go.Proofs.Ytgofadnggipkpaa
open Go hiding Fn
open Ev tab

/-- a function that reads the memory alone -/
theorem EvC_ofRo {own : Bool} {f : Nat} (dd : DFn) {ys : List V} {w : V} {hp h' : Hp} (h1 : F f = some dd.den) (h2 : dd.md = .ro) (h3 : Nat.beq ys.length dd.ps.length = true) (h4 : EvD F (stepD dd ys ⟨hp.next, hp.next, hp.tr⟩) (Rt w h')) (ho : oldT hp.next w = true) :
    EvC F own f ys hp (.ret w hp) := by
  rw [stepD_eq] at h4
  obtain ⟨N, h⟩ := h4
  refine ⟨N + 1, fun L n hL hn => ?_⟩
  cases n with
  | zero => omega
  | succ n =>
    have e2 : dd.den.md = .ro := h2
    have e3 : Nat.beq ys.length dd.den.ps.length = true := h3
    simp only [callF, h1, e2, runR, runF, e3, cond_true]
    rw [h L n (by omega) (by omega)]
    show (bif oldT hp.next w then CR.ret w hp else .bad) = _
    rw [ho]; rfl

attribute [local irreducible] EvD EvL EvC evGds evLs C.run sK bK gK pK fK lpB stepD

/-- a slice of frames that is only read -/
def FrC (hp : Hp) (v : V) (fs : List Frm) : Prop :=
  (v = .ns ∧ fs = []) ∨ ∃ id f rows, v = .hs id 0 fs.length ∧ hp.lim ≤ id ∧ hget hp id = some ⟨4, f, rows⟩ ∧ FrR hp rows fs
theorem FrV.c {hp : Hp} {z : Nat} {v : V} {fs : List Frm} (h : FrV hp z v fs) : FrC hp v fs := by
  rcases h with h | ⟨id, rows, q, q0, q1, q2, q3, q4⟩
  · exact .inl h
  · exact .inr ⟨id, _, rows, q, q2, q3, q4⟩
theorem FrC.z {hp hp' : Hp} {v : V} {fs : List Frm} (h : FrC hp v fs) (z : Ez hp hp') : FrC hp' v fs := by
  rcases h with h | ⟨id, f, rows, q, q2, q3, q4⟩
  · exact .inl h
  · obtain ⟨f', e, _⟩ := z.get _ _ q3
    exact .inr ⟨id, f', rows, q, by rw [z.lim]; exact q2, e, q4.mono1 z.to1⟩
theorem close_frc {hp : Hp} {v : V} {fs : List Frm} (h : FrC hp v fs) : ∃ hp', Ez hp hp' ∧ ∀ n, frsz fs + 12 ≤ n → closeC n (.sl [.one, .one, .one, .sl [.one]]) v hp = some (.vs 4 (frs fs), hp') := by
  rcases h with ⟨rfl, rfl⟩ | ⟨id, f, rows, rfl, q2, q3, q4⟩
  · refine ⟨hp, .refl _, fun n hn => ?_⟩
    cases n with
    | zero => omega
    | succ n => rfl
  · have hl := q4.length
    have z0 : Ez hp (hset hp id (some ⟨4, true, rows⟩)) := .freeze q3 (by decide)
    obtain ⟨hp2, z2, c2⟩ := closeEs_fr rows fs _ (q4.mono1 z0.to1)
    refine ⟨hp2, z0.trans z2, fun n hn => ?_⟩
    cases n with
    | zero => omega
    | succ n =>
      have hlt : Nat.blt id hp.lim = false := by rw [bltD]; simp; omega
      have hq2 : Nat.ble (0 + fs.length) rows.length = true := by rw [bleD]; simp [hl]
      have hfz : Ev.freeze hp id = hset hp id (some ⟨4, true, rows⟩) := by unfold Ev.freeze; rw [q3]
      have ht : (rows.drop 0).take fs.length = rows := by rw [List.drop_zero]; apply List.take_of_length_le; omega
      simp only [closeC, q3, hlt, cond_false, hq2, hfz, cond_true, ht, c2 n (by omega)]
      rfl

theorem may_ok : EvP F 25 c25 [.it .i64 16384] [.bo true] := by
  refine EvP.of d25 rfl rfl rfl (v := .bo _) (h := h0) (h' := h0) ?_ (.s (clo_bo _) (.nil _))
  refine X.fn ?_
  repeat (first | refine X.lpb ?_ | refine X.seq ?_ | refine X.skip ?_ | refine X.ret ?_ | refine X.exit ?_ | refine X.blk ?_ | refine X.sn ?_ | refine X.se ?_ | refine X.sr ?_ | refine X.bn ?_ | refine X.br ?_ | refine X.bh ?_ | refine X.bm rfl ?_ | refine X.pn ?_ | refine X.gn ?_ | refine X.g0 ?_ | refine X.ln ?_ | refine X.finn ?_ | refine X.reg0 X.r ?_ | refine X.reg1 X.r ?_ | refine X.gt rfl ?_ | refine X.orr X.w X.w ?_ | refine X.andr X.w X.w ?_ | refine X.shl X.w X.w X.r ?_ | (refine X.iaE X.w (by assumption) rfl ?_ ?_; · exact X.s) | (refine X.ldE rfl (by assumption) ?_ ?_; · exact X.s) | (refine X.iav X.w X.w ?_ X.g ?_; · exact X.s) | refine X.o0 (fun _ _ => rfl) ?_ | (refine X.o1 (fun _ _ => rfl) ?_ ?_; · exact X.s) | (refine X.o2 (fun _ _ => rfl) ?_ ?_ ?_; iterate 2 (· exact X.s)) | (refine X.o3 (fun _ _ => rfl) ?_ ?_ ?_ ?_; iterate 3 (· exact X.s)) | refine X.pickT rfl (fun _ => rfl) ?_ | refine X.pickF rfl (fun _ => rfl) ?_ | refine X.condT rfl ?_ | refine X.condF rfl ?_ | refine X.g1T rfl ?_ | refine X.g1F rfl ?_ | refine X.alc X.fr ?_ | refine X.box X.w rfl rfl ?_ | refine X.stl X.w rfl rfl rfl rfl rfl rfl rfl ?_ | (refine X.apf X.w X.w X.e X.h rfl rfl ?_ ?_ X.w ?_; iterate 2 (· exact X.s)) | refine X.bsl rfl X.w ?_ | refine X.alh X.w ?_ | refine X.bxh X.w rfl X.w ?_ | (refine X.mks X.w X.w ?_ ?_ ?_ (by decide) X.w X.wi ?_; iterate 3 (· exact X.s)) | (refine X.cpy X.w X.w (elems_vs _) X.a rfl rfl ?_ ?_ ?_; iterate 2 (· exact X.s)) | (refine X.iah X.w X.w X.a rfl ?_ ?_; · exact X.s) | (refine X.stp X.w X.w X.a rfl X.li rfl rfl rfl ?_ X.g ?_ ?_; iterate 2 (· exact X.s)) | (refine X.ldp X.w X.a ?_ X.g ?_ rfl ?_; iterate 2 (· exact X.s)) | refine X.len X.w X.ra ?_ | ((first | refine X.condTs rfl ?_ ?_ | refine X.g1Ts rfl ?_ ?_ | refine X.pickTs rfl ?_ (fun _ => rfl) ?_); · exact X.s) | ((first | refine X.condFs rfl ?_ ?_ | refine X.g1Fs rfl ?_ ?_ | refine X.pickFs rfl ?_ (fun _ => rfl) ?_); · exact X.s) | refine X.ext X.w rfl X.ra ?_ | refine X.mov X.w X.l ?_)
  exact X.fin (fun _ => rfl) rfl rfl

theorem new_gen (hp : Hp) : EvC F false 13 [.it .i64 16384, .bo false] hp (.ret (.tu [.pt hp.next 0 0, .it .i64 0]) (hnew hp ⟨6, false, [rowR 16384 [] .ns 0 0]⟩)) := by
  refine EvC.ofRw d13 rfl rfl rfl ?_
  refine X.fn ?_
  repeat (first | refine X.lpb ?_ | refine X.seq ?_ | refine X.skip ?_ | refine X.ret ?_ | refine X.exit ?_ | refine X.blk ?_ | refine X.sn ?_ | refine X.se ?_ | refine X.sr ?_ | refine X.bn ?_ | refine X.br ?_ | refine X.bh ?_ | refine X.bm rfl ?_ | refine X.pn ?_ | refine X.gn ?_ | refine X.g0 ?_ | refine X.ln ?_ | refine X.finn ?_ | refine X.reg0 X.r ?_ | refine X.reg1 X.r ?_ | refine X.gt rfl ?_ | refine X.orr X.w X.w ?_ | refine X.andr X.w X.w ?_ | refine X.shl X.w X.w X.r ?_ | (refine X.iaE X.w (by assumption) rfl ?_ ?_; · exact X.s) | (refine X.ldE rfl (by assumption) ?_ ?_; · exact X.s) | (refine X.iav X.w X.w ?_ X.g ?_; · exact X.s) | refine X.o0 (fun _ _ => rfl) ?_ | (refine X.o1 (fun _ _ => rfl) ?_ ?_; · exact X.s) | (refine X.o2 (fun _ _ => rfl) ?_ ?_ ?_; iterate 2 (· exact X.s)) | (refine X.o3 (fun _ _ => rfl) ?_ ?_ ?_ ?_; iterate 3 (· exact X.s)) | refine X.pickT rfl (fun _ => rfl) ?_ | refine X.pickF rfl (fun _ => rfl) ?_ | refine X.condT rfl ?_ | refine X.condF rfl ?_ | refine X.g1T rfl ?_ | refine X.g1F rfl ?_ | refine X.alc X.fr ?_ | refine X.box X.w rfl rfl ?_ | refine X.stl X.w rfl rfl rfl rfl rfl rfl rfl ?_ | (refine X.apf X.w X.w X.e X.h rfl rfl ?_ ?_ X.w ?_; iterate 2 (· exact X.s)) | refine X.bsl rfl X.w ?_ | refine X.alh X.w ?_ | refine X.bxh X.w rfl X.w ?_ | (refine X.mks X.w X.w ?_ ?_ ?_ (by decide) X.w X.wi ?_; iterate 3 (· exact X.s)) | (refine X.cpy X.w X.w (elems_vs _) X.a rfl rfl ?_ ?_ ?_; iterate 2 (· exact X.s)) | (refine X.iah X.w X.w X.a rfl ?_ ?_; · exact X.s) | (refine X.stp X.w X.w X.a rfl X.li rfl rfl rfl ?_ X.g ?_ ?_; iterate 2 (· exact X.s)) | (refine X.ldp X.w X.a ?_ X.g ?_ rfl ?_; iterate 2 (· exact X.s)) | refine X.len X.w X.ra ?_ | ((first | refine X.condTs rfl ?_ ?_ | refine X.g1Ts rfl ?_ ?_ | refine X.pickTs rfl ?_ (fun _ => rfl) ?_); · exact X.s) | ((first | refine X.condFs rfl ?_ ?_ | refine X.g1Fs rfl ?_ ?_ | refine X.pickFs rfl ?_ (fun _ => rfl) ?_); · exact X.s) | refine X.ext X.w rfl X.ra ?_ | refine X.mov X.w X.l ?_)
  refine X.pcall may_ok (.s (clo_it _ _) (.nil _)) rfl rfl rfl ?_
  repeat (first | refine X.lpb ?_ | refine X.seq ?_ | refine X.skip ?_ | refine X.ret ?_ | refine X.exit ?_ | refine X.blk ?_ | refine X.sn ?_ | refine X.se ?_ | refine X.sr ?_ | refine X.bn ?_ | refine X.br ?_ | refine X.bh ?_ | refine X.bm rfl ?_ | refine X.pn ?_ | refine X.gn ?_ | refine X.g0 ?_ | refine X.ln ?_ | refine X.finn ?_ | refine X.reg0 X.r ?_ | refine X.reg1 X.r ?_ | refine X.gt rfl ?_ | refine X.orr X.w X.w ?_ | refine X.andr X.w X.w ?_ | refine X.shl X.w X.w X.r ?_ | (refine X.iaE X.w (by assumption) rfl ?_ ?_; · exact X.s) | (refine X.ldE rfl (by assumption) ?_ ?_; · exact X.s) | (refine X.iav X.w X.w ?_ X.g ?_; · exact X.s) | refine X.o0 (fun _ _ => rfl) ?_ | (refine X.o1 (fun _ _ => rfl) ?_ ?_; · exact X.s) | (refine X.o2 (fun _ _ => rfl) ?_ ?_ ?_; iterate 2 (· exact X.s)) | (refine X.o3 (fun _ _ => rfl) ?_ ?_ ?_ ?_; iterate 3 (· exact X.s)) | refine X.pickT rfl (fun _ => rfl) ?_ | refine X.pickF rfl (fun _ => rfl) ?_ | refine X.condT rfl ?_ | refine X.condF rfl ?_ | refine X.g1T rfl ?_ | refine X.g1F rfl ?_ | refine X.alc X.fr ?_ | refine X.box X.w rfl rfl ?_ | refine X.stl X.w rfl rfl rfl rfl rfl rfl rfl ?_ | (refine X.apf X.w X.w X.e X.h rfl rfl ?_ ?_ X.w ?_; iterate 2 (· exact X.s)) | refine X.bsl rfl X.w ?_ | refine X.alh X.w ?_ | refine X.bxh X.w rfl X.w ?_ | (refine X.mks X.w X.w ?_ ?_ ?_ (by decide) X.w X.wi ?_; iterate 3 (· exact X.s)) | (refine X.cpy X.w X.w (elems_vs _) X.a rfl rfl ?_ ?_ ?_; iterate 2 (· exact X.s)) | (refine X.iah X.w X.w X.a rfl ?_ ?_; · exact X.s) | (refine X.stp X.w X.w X.a rfl X.li rfl rfl rfl ?_ X.g ?_ ?_; iterate 2 (· exact X.s)) | (refine X.ldp X.w X.a ?_ X.g ?_ rfl ?_; iterate 2 (· exact X.s)) | refine X.len X.w X.ra ?_ | ((first | refine X.condTs rfl ?_ ?_ | refine X.g1Ts rfl ?_ ?_ | refine X.pickTs rfl ?_ (fun _ => rfl) ?_); · exact X.s) | ((first | refine X.condFs rfl ?_ ?_ | refine X.g1Fs rfl ?_ ?_ | refine X.pickFs rfl ?_ (fun _ => rfl) ?_); · exact X.s) | refine X.ext X.w rfl X.ra ?_ | refine X.mov X.w X.l ?_)
  exact X.fin (fun _ => rfl) rfl rfl


/-- Left -/
theorem left_ok {hp : Hp} {Q : Nat} {most sc co : Int} {pre : List Nat} {bv : V} {buf : List Int} (hg : RdO hp Q most pre bv sc co) (hB : By hp bv buf) : EvC F false 15 [.pt Q 0 0] hp (.ret (.it .i64 (Int.ofNat buf.length)) hp) := by
  have hg : hget (⟨hp.next, hp.next, hp.tr⟩ : Hp) Q = some ⟨6, false, [rowR most pre bv sc co]⟩ := hg
  have hlen := hB.len
  have hlp := hB.lp
  refine EvC_ofRo d15 (h' := ⟨hp.next, hp.next, hp.tr⟩) rfl rfl rfl ?_ rfl
  refine X.fn ?_
  repeat (first | refine X.lpb ?_ | refine X.seq ?_ | refine X.skip ?_ | refine X.ret ?_ | refine X.exit ?_ | refine X.blk ?_ | refine X.sn ?_ | refine X.se ?_ | refine X.sr ?_ | refine X.bn ?_ | refine X.br ?_ | refine X.bh ?_ | refine X.bm rfl ?_ | refine X.pn ?_ | refine X.gn ?_ | refine X.g0 ?_ | refine X.ln ?_ | refine X.finn ?_ | refine X.reg0 X.r ?_ | refine X.reg1 X.r ?_ | refine X.gt rfl ?_ | refine X.orr X.w X.w ?_ | refine X.andr X.w X.w ?_ | refine X.shl X.w X.w X.r ?_ | (refine X.iaE X.w (by assumption) rfl ?_ ?_; · exact X.s) | (refine X.ldE rfl (by assumption) ?_ ?_; · exact X.s) | (refine X.iav X.w X.w ?_ X.g ?_; · exact X.s) | refine X.o0 (fun _ _ => rfl) ?_ | (refine X.o1 (fun _ _ => rfl) ?_ ?_; · exact X.s) | (refine X.o2 (fun _ _ => rfl) ?_ ?_ ?_; iterate 2 (· exact X.s)) | (refine X.o3 (fun _ _ => rfl) ?_ ?_ ?_ ?_; iterate 3 (· exact X.s)) | refine X.pickT rfl (fun _ => rfl) ?_ | refine X.pickF rfl (fun _ => rfl) ?_ | refine X.condT rfl ?_ | refine X.condF rfl ?_ | refine X.g1T rfl ?_ | refine X.g1F rfl ?_ | refine X.alc X.fr ?_ | refine X.box X.w rfl rfl ?_ | refine X.stl X.w rfl rfl rfl rfl rfl rfl rfl ?_ | (refine X.apf X.w X.w X.e X.h rfl rfl ?_ ?_ X.w ?_; iterate 2 (· exact X.s)) | refine X.bsl rfl X.w ?_ | refine X.alh X.w ?_ | refine X.bxh X.w rfl X.w ?_ | (refine X.mks X.w X.w ?_ ?_ ?_ (by decide) X.w X.wi ?_; iterate 3 (· exact X.s)) | (refine X.cpy X.w X.w (elems_vs _) X.a rfl rfl ?_ ?_ ?_; iterate 2 (· exact X.s)) | (refine X.iah X.w X.w X.a rfl ?_ ?_; · exact X.s) | (refine X.stp X.w X.w X.a rfl X.li rfl rfl rfl ?_ X.g ?_ ?_; iterate 2 (· exact X.s)) | (refine X.ldp X.w X.a ?_ X.g ?_ rfl ?_; iterate 2 (· exact X.s)) | refine X.len X.w X.ra ?_ | ((first | refine X.condTs rfl ?_ ?_ | refine X.g1Ts rfl ?_ ?_ | refine X.pickTs rfl ?_ (fun _ => rfl) ?_); · exact X.s) | ((first | refine X.condFs rfl ?_ ?_ | refine X.g1Fs rfl ?_ ?_ | refine X.pickFs rfl ?_ (fun _ => rfl) ?_); · exact X.s) | refine X.ext X.w rfl X.ra ?_ | refine X.mov X.w X.l ?_)
  exact X.fin (fun _ => rfl) rfl rfl

/-- frames that are only read are read for an append -/
theorem FrC.els {hp : Hp} {v : V} {fs : List Frm} (h : FrC hp v fs) : ∃ rows, FrR hp rows fs ∧ Els hp 4 v rows := by
  rcases h with ⟨rfl, rfl⟩ | ⟨id, f, rows, rfl, q2, q3, q4⟩
  · exact ⟨[], .nil, .ns⟩
  · have hl := q4.length
    have e : (rows.drop 0).take fs.length = rows := by rw [List.drop_zero]; apply List.take_of_length_le; omega
    have := Els.hs (sz := 4) (i := 0) (n := fs.length) q3 (by omega)
    rw [e] at this
    exact ⟨rows, q4, this⟩

/-- what an append to one's own frames leaves: all objects but one that was made behind z -/
structure Ek (z : Nat) (hp hp' : Hp) : Prop where
  next : hp.next ≤ hp'.next
  lim : hp'.lim = hp.lim
  get : ∀ j b, hget hp j = some b → (j < z ∨ b.sz ≠ 4) → hget hp' j = some b
theorem Ek.refl (z : Nat) (hp : Hp) : Ek z hp hp := ⟨Nat.le_refl _, rfl, fun _ _ h _ => h⟩
theorem Ek.to1 {z : Nat} {hp hp' : Hp} (h : Ek z hp hp') : Ex1 hp hp' := ⟨h.next, h.lim, fun j b hb h1 => ⟨b.fr, by rw [h.get j b hb (.inr (by omega)), ← h1]⟩⟩

/-- frames behind one's own: what slot and memory it makes -/
def fav (hp : Hp) (v : V) (n : Nat) : V := match v with | .hs _ _ m => .hs hp.next 0 (m + n) | _ => if n = 0 then .ns else .hs hp.next 0 n
def fah (hp : Hp) (v : V) (rows : List (List V)) : Hp := match v with
  | .hs id _ _ => hnew (hset hp id none) ⟨4, false, (match hget hp id with | some b => b.es | none => []) ++ rows⟩
  | _ => if rows = [] then hp else hnew hp ⟨4, false, rows⟩
theorem fav_frv {hp : Hp} {z : Nat} {v : V} {fs gs : List Frm} {rows : List (List V)} (hN : Nil hp) (hlim : hp.lim ≤ hp.next) (hz : z ≤ hp.next) (h : FrV hp z v fs) (hr : FrR hp rows gs) :
    FrV (fah hp v rows) z (fav hp v gs.length) (fs ++ gs) ∧ Ek z hp (fah hp v rows) ∧ Nil (fah hp v rows) := by
  have hl := hr.length
  rcases h with ⟨rfl, rfl⟩ | ⟨id, rows0, rfl, q0, q1, q2, q3, q4⟩
  · unfold fah fav
    by_cases e : rows = []
    · subst e
      have e2 : gs = [] := by cases hr; rfl
      subst e2
      exact ⟨.inl ⟨rfl, rfl⟩, Ek.refl _ _, hN⟩
    · have e2 : ¬ gs.length = 0 := by rw [← hl]; exact fun q => e (List.eq_nil_of_length_eq_zero q)
      simp only [e, e2, if_false]
      have x1 : Ex1 hp (hnew hp ⟨4, false, rows⟩) := Ex1.new hN _
      refine ⟨.inr ⟨hp.next, rows, rfl, hz, by rw [hnew_next]; omega, by rw [hnew_lim]; exact hlim, hget_new _ _, hr.mono1 x1⟩, ⟨by rw [hnew_next]; omega, rfl, fun j b hb _ => ?_⟩, hN.new _⟩
      rw [hget_old (fun q => by rw [q, hN _ (Nat.le_refl _)] at hb; cases hb)]; exact hb
  · unfold fah fav
    simp only [q3]
    have hl0 := q4.length
    have n2 : Nil (hset hp id none) := hN.set q1 _
    have x1 : Ex1 hp (hnew (hset hp id none) ⟨4, false, rows0 ++ rows⟩) := (Ex1.kill (fun x hx => by rw [q3] at hx; cases hx; exact (by decide : (4 : Nat) ≠ 1))).trans (Ex1.new n2 _)
    refine ⟨.inr ⟨hp.next, rows0 ++ rows, by simp, hz, by rw [hnew_next, hset_next]; omega, by rw [hnew_lim, hset_lim]; exact hlim, hget_new (hset hp id none) _, (q4.mono1 x1).append (hr.mono1 x1)⟩, ⟨by rw [hnew_next, hset_next]; omega, rfl, fun j b hb hj => ?_⟩, n2.new _⟩
    have hji : j ≠ id := fun q => by
      subst q
      rw [q3] at hb; cases hb
      rcases hj with hj | hj
      · omega
      · exact hj rfl
    rw [hget_old (fun q => by rw [q, hset_next, hN _ (Nat.le_refl _)] at hb; cases hb), hget_other hji]; exact hb

section
variable {F' : Nat → Option Ev.Fn} {R : R} {k : Ev.R → D} {clr : List Nat} {tm : Tm} {lo : Lo} {hp : Hp} {r : List DOp} {us : List Nat} {g : Option (Nat × Bool)} {d : Nat}
theorem X_apF {x y : A} {z : Nat} {v w : V} {fs gs : List Frm} {rows : List (List V)} (hx : get tm x = v) (hF : FrV hp z v fs) (hy : get tm y = w) (hE : Els hp 4 w rows) (hr : rows.length = gs.length) (hu : ∀ id, freshH us tm id = true) (h2 : fs.length + gs.length ≤ 1000000)
    (nx : EvD F' (evLs clr r ⟨upd tm d (fav hp v gs.length), lo, fah hp v rows⟩ k) R) : EvD F' (evLs clr (⟨some d, g, us, .app 4 48 x y⟩ :: r) ⟨tm, lo, hp⟩ k) R := by
  rcases hF with ⟨rfl, rfl⟩ | ⟨id, rows0, rfl, q0, q1, q2, q3, q4⟩
  · unfold fah fav at nx
    by_cases e : rows = []
    · subst e
      have e2 : gs.length = 0 := by rw [← hr]; rfl
      simp only [e2, if_true] at nx
      exact X.ape hx hy hE rfl nx
    · have e2 : ¬ gs.length = 0 := by rw [← hr]; exact fun q => e (List.eq_nil_of_length_eq_zero q)
      simp only [e, e2, if_false] at nx
      refine X.apn hx hy hE e (by rw [bleD]; exact decide_eq_true (by unfold maxB; omega)) rfl ?_
      rw [hr]; exact nx
  · unfold fah fav at nx
    simp only [q3] at nx
    refine X.apf hx hy hE q3 (by rw [bleD]; exact decide_eq_true q2) (hu _) q4.length (by rw [bleD]; exact decide_eq_true (by unfold maxB; omega)) rfl ?_
    rw [hr]; exact nx
end

theorem feedM_len (most : Int) : ∀ (n : Nat) (b : List Int), (feedM most n b).1.length ≤ b.length := by
  intro n
  induction n with
  | zero => intro b; simp [feedM]
  | succ n ih =>
    intro b
    by_cases c1 : b.length < 9
    · simp [feedM, c1]
    by_cases c2 : most < nOf b
    · simp [feedM, c1, c2]
    by_cases c3 : (b.length : Int) < 9 + nOf b
    · simp [feedM, c1, c2, c3]
    have := ih (b.drop (9 + (nOf b).toNat))
    simp only [List.length_drop] at this
    simp only [feedM, c1, c2, c3, if_false, List.length_cons]
    omega
theorem feedA_len (most : Int) (b : List Int) : (feedA most b).1.length ≤ b.length := feedM_len most _ b

/-- frames that were made ahead of z -/
def FrW (hp : Hp) (z : Nat) (v : V) (fs : List Frm) : Prop :=
  (v = .ns ∧ fs = []) ∨ ∃ id f rows, v = .hs id 0 fs.length ∧ id < z ∧ hp.lim ≤ id ∧ hget hp id = some ⟨4, f, rows⟩ ∧ FrR hp rows fs
theorem FrW.c {hp : Hp} {z : Nat} {v : V} {fs : List Frm} (h : FrW hp z v fs) : FrC hp v fs := by
  rcases h with h | ⟨id, f, rows, q, q0, q2, q3, q4⟩
  · exact .inl h
  · exact .inr ⟨id, f, rows, q, q2, q3, q4⟩

/-- how things stand behind so many bytes -/
structure PI (hp : Hp) (z Q1 Q2 : Nat) (B : List Int) (wv : V) (W : List Frm) (e1 : Bool) (R1 : List Int) (from_ : Nat) (lv : V) : Prop where
  nil : Nil hp
  lim : hp.lim = 0
  zle : z ≤ hp.next
  q1 : Q1 < z
  q2 : Q2 < z
  ne : Q1 ≠ Q2
  r1 : ∃ bv, RdO hp Q1 16384 [] bv (badS e1) (badC e1) ∧ By hp bv R1
  r2 : ∃ bv, RdO hp Q2 16384 [] bv (badS (feedA 16384 (B.take from_)).2.2) (badC (feedA 16384 (B.take from_)).2.2) ∧ By hp bv (feedA 16384 (B.take from_)).2.1
  w : FrW hp z wv W
  l : FrV hp z lv (feedA 16384 (B.take from_)).1

theorem take_piece (B : List Int) {a b : Nat} (h : a ≤ b) : B.take a ++ (B.drop a).take (b - a) = B.take b := by
  have := List.take_append_drop a (B.take b)
  rw [List.take_take, Nat.min_eq_left h, List.drop_take] at this
  exact this

theorem piece {hp : Hp} {z Q1 Q2 : Nat} {B : List Int} {wv : V} {W : List Frm} {e1 : Bool} {R1 : List Int} {a b : Nat} {lv : V} (P : PI hp z Q1 Q2 B wv W e1 R1 a lv) (hab : a ≤ b) (hb : b ≤ B.length) (hB : Bytes B) (hl : B.length ≤ 800) :
    ∃ out hp1 rows gs, EvC F false 14 [.pt Q2 0 0, slv (.vs 1 (bs B)) a b] hp (.ret (.tu [out, .ag [.it .i64 (badS (feedA 16384 (B.take b)).2.2), .it .i64 (badC (feedA 16384 (B.take b)).2.2), .it .i64 0]]) hp1) ∧
      isLp out = false ∧ Els hp1 4 out rows ∧ rows.length = List.length (α := Frm) gs ∧ gs.length ≤ 1600 ∧ FrV hp1 z lv (feedA 16384 (B.take a)).1 ∧ PI (fah hp1 lv rows) z Q1 Q2 B wv W e1 R1 b (fav hp1 lv gs.length) := by
  obtain ⟨bv1, h11, h12⟩ := P.r1
  obtain ⟨bv2, h21, h22⟩ := P.r2
  have hP : By hp (slv (.vs 1 (bs B)) a b) ((B.drop a).take (b - a)) := (By.vs hp B).slv hab hb
  have hBt : Bytes (B.take a ++ (B.drop a).take (b - a)) := by rw [take_piece B hab]; exact hB.take b
  have hap := feedA_append 16384 (B.take a) ((B.drop a).take (b - a)) hBt
  rw [take_piece B hab] at hap
  -- what an append leaves of all else
  have fin : ∀ (hp1 : Hp) (out : V) (rows : List (List V)) (gs : List Frm) (bv2' : V) (e : Bool) (rest : List Int), Nil hp1 → hp1.lim = 0 → z ≤ hp1.next → (∃ bv, RdO hp1 Q1 16384 [] bv (badS e1) (badC e1) ∧ By hp1 bv R1) →
      RdO hp1 Q2 16384 [] bv2' (badS e) (badC e) → By hp1 bv2' rest → FrW hp1 z wv W → FrV hp1 z lv (feedA 16384 (B.take a)).1 → FrR hp1 rows gs → feedA 16384 (B.take b) = ((feedA 16384 (B.take a)).1 ++ gs, rest, e) →
      PI (fah hp1 lv rows) z Q1 Q2 B wv W e1 R1 b (fav hp1 lv gs.length) := by
    intro hp1 out rows gs bv2' e rest n1 l1 z1 ⟨bv, r1, r1b⟩ r2 r2b w1 f1 hr hfe
    obtain ⟨a1, a2, a3⟩ := fav_frv n1 (by omega) z1 f1 hr
    refine ⟨a3, by rw [a2.lim]; exact l1, Nat.le_trans z1 a2.next, P.q1, P.q2, P.ne, ⟨bv, a2.get _ _ r1 (.inl P.q1), r1b.mono1 a2.to1⟩, ?_, ?_, ?_⟩
    · rw [hfe]; exact ⟨bv2', a2.get _ _ r2 (.inl P.q2), r2b.mono1 a2.to1⟩
    · rcases w1 with h | ⟨id, f, rw', q, q0, q2, q3, q4⟩
      · exact .inl h
      · exact .inr ⟨id, f, rw', q, q0, by rw [a2.lim]; exact q2, a2.get _ _ q3 (.inl q0), q4.mono1 a2.to1⟩
    · rw [hfe]; exact a1
  cases he : (feedA 16384 (B.take a)).2.2 with
  | true =>
    rw [he] at h21 hap
    simp only [if_true] at hap
    have hr0 := feedA_err _ _ he
    rw [hr0] at h22
    have hc := feed_bad (v := slv (.vs 1 (bs B)) a b) h21
    refine ⟨.ns, hp, [], [], ?_, rfl, .ns, rfl, by simp, P.l, ?_⟩
    · rw [hap]; exact hc
    · refine fin hp .ns [] [] bv2 true [] P.nil P.lim P.zle P.r1 h21 h22 P.w P.l .nil ?_
      rw [hap]; simp
  | false =>
    rw [he] at h21 hap
    simp only [Bool.false_eq_true, if_false] at hap
    have hrl : (feedA 16384 (B.take a)).2.1.length ≤ 800 := by
      have := feedM_rest_len 16384 ((B.take a).length + 1) (B.take a)
      have h3 : (B.take a).length ≤ 800 := by simp; omega
      exact Nat.le_trans this h3
    have hrb : Bytes (feedA 16384 (B.take a)).2.1 := feedM_rest_bytes _ _ (hB.take a)
    have hpl : ((B.drop a).take (b - a)).length ≤ 800 := by simp; omega
    obtain ⟨out, bv', hp', hc, hF, hR', hB', hE', hN'⟩ := feed_ok h21 h22 hP (hrb.append ((hB.drop a).take _)) (by omega) (by have := P.lim; omega) (Nat.lt_of_lt_of_le P.q2 P.zle) P.nil
    have hQs : ∀ b, hget hp Q2 = some b → b.sz ≠ 1 := fun b hb => by
      have h21 : hget hp Q2 = some _ := h21
      rw [h21] at hb; cases hb; exact (by decide : (6 : Nat) ≠ 1)
    have x1 : Ex1 hp hp' := hE'.to1 hQs
    obtain ⟨rows, hrr, hels⟩ := hF.c.els
    have hgl : (feedA 16384 ((feedA 16384 (B.take a)).2.1 ++ (B.drop a).take (b - a))).1.length ≤ 1600 := by
      have := feedA_len 16384 ((feedA 16384 (B.take a)).2.1 ++ (B.drop a).take (b - a))
      simp only [List.length_append] at this
      omega
    refine ⟨out, hp', rows, _, by rw [hap]; exact hc, hF.lp, hels, hrr.length, ?_, ?_, ?_⟩
    · exact hgl
    · rcases P.l with h | ⟨id, rw', q, q0, q1, q2, q3, q4⟩
      · exact .inl h
      · exact .inr ⟨id, rw', q, q0, Nat.lt_of_lt_of_le q1 hE'.next, by rw [hE'.lim]; exact q2, hE'.get _ _ (by have := P.q2; omega) q3, q4.mono1 x1⟩
    · refine fin hp' out rows _ bv' _ _ hN' (by rw [hE'.lim]; exact P.lim) (Nat.le_trans P.zle hE'.next) ?_ hR' hB' ?_ ?_ hrr hap
      · exact ⟨bv1, hE'.get _ _ P.ne h11, h12.mono1 x1⟩
      · rcases P.w with h | ⟨id, f, rw', q, q0, q2, q3, q4⟩
        · exact .inl h
        · refine .inr ⟨id, f, rw', q, q0, by rw [hE'.lim]; exact q2, hE'.get _ _ (fun e => ?_) q3, q4.mono1 x1⟩
          subst e
          have h21 : hget hp id = some _ := h21
          rw [h21] at q3; cases q3
      · rcases P.l with h | ⟨id, rw', q, q0, q1, q2, q3, q4⟩
        · exact .inl h
        · exact .inr ⟨id, rw', q, q0, Nat.lt_of_lt_of_le q1 hE'.next, by rw [hE'.lim]; exact q2, hE'.get _ _ (by have := P.q2; omega) q3, q4.mono1 x1⟩

theorem within_p (n lo hi : Int) (h0' : 0 ≤ lo) (h1 : lo ≤ hi) (h2 : hi ≤ 1000000000) : ∃ k, lo ≤ k ∧ k ≤ hi ∧ EvP F 24 c24 [.it .i64 n, .it .i64 lo, .it .i64 hi] [.it .i64 k] := by
  have e1 : wr .i64 (hi - lo) = hi - lo := wr64 (by omega) (by omega)
  have e2 : wr .i64 (hi - lo + 1) = hi - lo + 1 := wr64 (by omega) (by omega)
  have b1 := Int.tmod_lt_of_pos n (b := hi - lo + 1) (by omega)
  have b2 : -(hi - lo + 1) < n.tmod (hi - lo + 1) := by
    rcases Int.le_total 0 n with q | q
    · have := Int.tmod_nonneg (hi - lo + 1) q; omega
    · have := Int.tmod_lt_of_pos (-n) (b := hi - lo + 1) (by omega)
      rw [Int.neg_tmod] at this; omega
  by_cases hn : n.tmod (hi - lo + 1) < 0
  · refine ⟨lo + (n.tmod (hi - lo + 1) + hi - lo + 1), by omega, by omega, ?_⟩
    refine EvP.of d24 rfl rfl rfl (v := .it .i64 _) (h := Ev.h0) (h' := Ev.h0) ?_ (.s (clo_it _ _) (.nil _))
    refine X.fn ?_
    repeat (first | refine X.lpb ?_ | refine X.seq ?_ | refine X.skip ?_ | refine X.ret ?_ | refine X.exit ?_ | refine X.blk ?_ | refine X.sn ?_ | refine X.se ?_ | refine X.sr ?_ | refine X.bn ?_ | refine X.br ?_ | refine X.bh ?_ | refine X.bm rfl ?_ | refine X.pn ?_ | refine X.gn ?_ | refine X.g0 ?_ | refine X.ln ?_ | refine X.finn ?_ | refine X.reg0 X.r ?_ | refine X.reg1 X.r ?_ | refine X.gt rfl ?_ | refine X.orr X.w X.w ?_ | refine X.andr X.w X.w ?_ | refine X.shl X.w X.w X.r ?_ | (refine X.iaE X.w (by assumption) rfl ?_ ?_; · exact X.s) | (refine X.ldE rfl (by assumption) ?_ ?_; · exact X.s) | (refine X.iav X.w X.w ?_ X.g ?_; · exact X.s) | refine X.o0 (fun _ _ => rfl) ?_ | (refine X.o1 (fun _ _ => rfl) ?_ ?_; · exact X.s) | (refine X.o2 (fun _ _ => rfl) ?_ ?_ ?_; iterate 2 (· exact X.s)) | (refine X.o3 (fun _ _ => rfl) ?_ ?_ ?_ ?_; iterate 3 (· exact X.s)) | refine X.pickT rfl (fun _ => rfl) ?_ | refine X.pickF rfl (fun _ => rfl) ?_ | refine X.condT rfl ?_ | refine X.condF rfl ?_ | refine X.g1T rfl ?_ | refine X.g1F rfl ?_ | refine X.alc X.fr ?_ | refine X.box X.w rfl rfl ?_ | refine X.stl X.w rfl rfl rfl rfl rfl rfl rfl ?_ | (refine X.apf X.w X.w X.e X.h rfl rfl ?_ ?_ X.w ?_; iterate 2 (· exact X.s)) | refine X.bsl rfl X.w ?_ | refine X.alh X.w ?_ | refine X.bxh X.w rfl X.w ?_ | (refine X.mks X.w X.w ?_ ?_ ?_ (by decide) X.w X.wi ?_; iterate 3 (· exact X.s)) | (refine X.cpy X.w X.w (elems_vs _) X.a rfl rfl ?_ ?_ ?_; iterate 2 (· exact X.s)) | (refine X.iah X.w X.w X.a rfl ?_ ?_; · exact X.s) | (refine X.stp X.w X.w X.a rfl X.li rfl rfl rfl ?_ X.g ?_ ?_; iterate 2 (· exact X.s)) | (refine X.ldp X.w X.a ?_ X.g ?_ rfl ?_; iterate 2 (· exact X.s)) | refine X.len X.w X.ra ?_ | ((first | refine X.condTs rfl ?_ ?_ | refine X.g1Ts rfl ?_ ?_ | refine X.pickTs rfl ?_ (fun _ => rfl) ?_); · exact X.s) | ((first | refine X.condFs rfl ?_ ?_ | refine X.g1Fs rfl ?_ ?_ | refine X.pickFs rfl ?_ (fun _ => rfl) ?_); · exact X.s) | refine X.ext X.w rfl X.ra ?_ | refine X.mov X.w X.l ?_)
    refine X.fin (fun _ => rfl) (congrArg (V.it .i64) ?_) rfl
    simp only [Int.ofNat_eq_natCast, Int.cast_ofNat_Int, e1, e2]
    simp (disch := omega) only [wr64]
    try omega
  · refine ⟨lo + n.tmod (hi - lo + 1), by omega, by omega, ?_⟩
    refine EvP.of d24 rfl rfl rfl (v := .it .i64 _) (h := Ev.h0) (h' := Ev.h0) ?_ (.s (clo_it _ _) (.nil _))
    refine X.fn ?_
    repeat (first | refine X.lpb ?_ | refine X.seq ?_ | refine X.skip ?_ | refine X.ret ?_ | refine X.exit ?_ | refine X.blk ?_ | refine X.sn ?_ | refine X.se ?_ | refine X.sr ?_ | refine X.bn ?_ | refine X.br ?_ | refine X.bh ?_ | refine X.bm rfl ?_ | refine X.pn ?_ | refine X.gn ?_ | refine X.g0 ?_ | refine X.ln ?_ | refine X.finn ?_ | refine X.reg0 X.r ?_ | refine X.reg1 X.r ?_ | refine X.gt rfl ?_ | refine X.orr X.w X.w ?_ | refine X.andr X.w X.w ?_ | refine X.shl X.w X.w X.r ?_ | (refine X.iaE X.w (by assumption) rfl ?_ ?_; · exact X.s) | (refine X.ldE rfl (by assumption) ?_ ?_; · exact X.s) | (refine X.iav X.w X.w ?_ X.g ?_; · exact X.s) | refine X.o0 (fun _ _ => rfl) ?_ | (refine X.o1 (fun _ _ => rfl) ?_ ?_; · exact X.s) | (refine X.o2 (fun _ _ => rfl) ?_ ?_ ?_; iterate 2 (· exact X.s)) | (refine X.o3 (fun _ _ => rfl) ?_ ?_ ?_ ?_; iterate 3 (· exact X.s)) | refine X.pickT rfl (fun _ => rfl) ?_ | refine X.pickF rfl (fun _ => rfl) ?_ | refine X.condT rfl ?_ | refine X.condF rfl ?_ | refine X.g1T rfl ?_ | refine X.g1F rfl ?_ | refine X.alc X.fr ?_ | refine X.box X.w rfl rfl ?_ | refine X.stl X.w rfl rfl rfl rfl rfl rfl rfl ?_ | (refine X.apf X.w X.w X.e X.h rfl rfl ?_ ?_ X.w ?_; iterate 2 (· exact X.s)) | refine X.bsl rfl X.w ?_ | refine X.alh X.w ?_ | refine X.bxh X.w rfl X.w ?_ | (refine X.mks X.w X.w ?_ ?_ ?_ (by decide) X.w X.wi ?_; iterate 3 (· exact X.s)) | (refine X.cpy X.w X.w (elems_vs _) X.a rfl rfl ?_ ?_ ?_; iterate 2 (· exact X.s)) | (refine X.iah X.w X.w X.a rfl ?_ ?_; · exact X.s) | (refine X.stp X.w X.w X.a rfl X.li rfl rfl rfl ?_ X.g ?_ ?_; iterate 2 (· exact X.s)) | (refine X.ldp X.w X.a ?_ X.g ?_ rfl ?_; iterate 2 (· exact X.s)) | refine X.len X.w X.ra ?_ | ((first | refine X.condTs rfl ?_ ?_ | refine X.g1Ts rfl ?_ ?_ | refine X.pickTs rfl ?_ (fun _ => rfl) ?_); · exact X.s) | ((first | refine X.condFs rfl ?_ ?_ | refine X.g1Fs rfl ?_ ?_ | refine X.pickFs rfl ?_ (fun _ => rfl) ?_); · exact X.s) | refine X.ext X.w rfl X.ra ?_ | refine X.mov X.w X.l ?_)
    refine X.fin (fun _ => rfl) (congrArg (V.it .i64) ?_) rfl
    simp only [Int.ofNat_eq_natCast, Int.cast_ofNat_Int, e1, e2]
    simp (disch := omega) only [wr64]

end Go.Proofs.Ytgofadnggipkpaa
